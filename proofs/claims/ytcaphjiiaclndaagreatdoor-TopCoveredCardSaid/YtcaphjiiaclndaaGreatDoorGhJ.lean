/- Stores, make, append. -/
import Derived.Test.YtcaphjiiaclndaaGreatDoorGhI
namespace Go.Gh
set_option linter.unusedVariables false
set_option linter.unusedSimpArgs false

section
variable {P : Program} {T : Tbl} {o : Oper} {a : Act} {μ : Map} {w : World} {H : Heap}

theorem HRel.write (hH : HRel μ w H) {n : Nat} {b0 : Blk} (b' : Blk) (hn : H n = some b0) {l : Loc} (hl : μ n = some l) {c : Array Value} {e : TypeId} (hb : w.heap[l.blk]? = some (.cells c e (0, 0))) (c' : Array Value)
    (hrel : Ext (ownOf μ H) w (ownOf μ (after [] [(n, some b')] H)) (w.setRow l.blk c') → (w.setRow l.blk c').heap[l.blk]? = some (.cells c' e (0, 0)) → BRel μ (w.setRow l.blk c') (ownOf μ (after [] [(n, some b')] H)) n b') :
    HRel μ (w.setRow l.blk c') (after [] [(n, some b')] H) ∧ Ev μ H w μ (after [] [(n, some b')] H) (w.setRow l.blk c') := by
  refine hH.step rfl (fun _ _ => rfl) (fun _ _ => rfl) (by simp) (by simp) rfl rfl rfl (fun k _ hk => setRow_other w l.blk k c' fun e => hk l (by simp [hn]) hl e.symm) ?_ (fun he => hrel he (setRow_heap w l.blk c c' e (0, 0) hb))
  intro l' hl'
  exact .inr ⟨by simp [hn], l', hl', rfl⟩

theorem run_storeVar_blk {t : TypeId} {ti : TI} (hti : TOK1 P t ti) {b off : Nat} {c : Array Value} {e : TypeId} (hb : w.heap[b]? = some (.cells c e (0, 0))) {v : Value} (hsz : v.cells.toList.length = ti.size) (hl : off + ti.size ≤ c.size) (h1 : ∀ u ∈ v.cells.toList, u.oneCell' = true) :
    (Instr.storeAt t (.pointer (some ⟨b, off, none⟩)) v).run P w = .ok () (w.setRow b (c.toList.take off ++ v.cells.toList ++ c.toList.drop (off + ti.size)).toArray) := by
  have hst := run_storeCells_at P b off e v.cells.toList 0 c w hb (by rw [hsz]; simpa using hl) h1
  simp only [Nat.add_zero] at hst
  rw [hsz] at hst
  have hne : ¬ v.cells.size ≠ ti.size := by simp at hsz; simp [hsz]
  simp only [Instr.storeAt, Instr.sureAddr, Sem.run_bind, Sem.run_pure, Result.andThen_ok, storeVar, hti.run_size w]
  rw [if_neg hne]
  simpa using hst

def gStore (T : Tbl) (H : Heap) (t : TypeId) (x : GA) (y : G) : Option OR :=
  match T[t]?, x with
  | some ti, .ptr n base idx => (match H n, slotsOf y with
    | some (.var ss), some ns =>
      if ti.d.isAgg then
        (match idx with
         | 0 => (match toShape ti.zero ns with
           | some ns' => (match putSlots ss base ti.size ns' with
             | some ss' => if (ns'.map Slot.size).sum ≠ ti.size then none else some { val := .a .unit0, rd := [(n, .var ss)], wr := [(n, some (.var ss'))] }
             | none => none)
           | none => none)
         | _ + 1 => none)
      else (match splitSlots ss base with
        | some (hd, .cell _ :: tl) => (match idx, ns with
          | 0, [.cell g] => some { val := .a .unit0, rd := [(n, .var ss)], wr := [(n, some (.var (hd ++ .cell g :: tl)))] }
          | _, _ => none)
        | some (hd, .arr τ m xs :: tl) => (match ns with
          | [.cell g] => (match toDenA τ g with
            | some d => if τ.size = 1 then some { val := .a .unit0, rd := [(n, .var ss)], wr := [(n, some (.var (hd ++ .arr τ m (xs.set idx d) :: tl)))], cs := [idx < m] } else none
            | none => none)
          | _ => none)
        | _ => none)
    | _, _ => none)
  | some ti, .ptg n j => (match H n, y with
    | some (.gr τ e xs mv), .r g => (match toDen τ g with
      | some d => if τ.size = ti.size then some { val := .a .unit0, rd := [(n, .gr τ e xs mv)], wr := [(n, some (.gr τ e (xs.set j d) mv))], cs := [j < xs.length] } else none
      | none => none)
    | _, _ => none)
  | _, _ => none

theorem drop_put {α : Type} (c : List α) (b k s : Nat) {vs : List α} (h : b + k ≤ c.length) : (c.take (b + k) ++ vs ++ c.drop (b + k + s)).drop b = (c.drop b).take k ++ vs ++ (c.drop b).drop (k + s) := by
  rw [List.append_assoc, List.drop_append_of_le_length (by simp; omega), List.drop_take, List.drop_drop, ← List.append_assoc, Nat.add_sub_cancel_left, Nat.add_assoc]

theorem take_put {α : Type} (c : List α) (L j s : Nat) (vs : List α) (hv : vs.length = s) (hj : j + s ≤ L) (hL : L ≤ c.length) :
    (c.take j ++ vs ++ c.drop (j + s)).take L = (c.take L).take j ++ vs ++ (c.take L).drop (j + s) := by
  have h1 : c.take j = (c.take L).take j := by rw [List.take_take, Nat.min_eq_left (by omega)]
  have h2 : c.drop (j + s) = (c.take L).drop (j + s) ++ c.drop L := by
    have := List.drop_append_of_le_length (l₁ := c.take L) (l₂ := c.drop L) (i := j + s) (by simp; omega)
    rw [List.take_append_drop] at this
    exact this
  rw [h1, h2, ← List.append_assoc]
  have hlen : ((c.take L).take j ++ vs ++ (c.take L).drop (j + s)).length = L := by
    simp only [List.length_append, List.length_take, List.length_drop, hv]
    omega
  have := List.take_left (l₁ := (c.take L).take j ++ vs ++ (c.take L).drop (j + s)) (l₂ := c.drop L)
  rw [hlen] at this
  exact this

theorem store_ok (hT : TOK P T) {t : TypeId} {x y : Operand} (ho : o.op = .store t x y) {H0 : Heap} {gx : GA} {gy : G} {R : OR} (hg : gStore T H0 t gx gy = some R) (hc : AllP R.cs)
    (hrd : ∀ x ∈ R.rd, H x.1 = some x.2) (hx : VG μ w (ownOf μ H) (.a gx) (a.eval x)) (hy : VG μ w (ownOf μ H) gy (a.eval y)) (hH : HRel μ w H) : OpOK P o a μ w H R := by
  have hx' : VA μ w (ownOf μ H) gx (a.eval x) := hx
  have fin : ∀ {n : Nat} {rd : List (Nat × Blk)} {b' : Blk} {cs : List Prop} {w' : World}, (Instr.storeAt t (a.eval x) (a.eval y)).run P w = .ok () w' → HRel μ w' (after [] [(n, some b')] H) ∧ Ev μ H w μ (after [] [(n, some b')] H) w' →
      OpOK P o a μ w H { val := .a .unit0, rd := rd, wr := [(n, some b')], cs := cs } := fun hr hw =>
    ⟨undef, _, μ, .inr ⟨by simp [execOp, ho, hr], rfl⟩, fun _ _ => rfl, hw.1, hw.2, rfl⟩
  unfold gStore at hg
  split at hg
  · rename_i ti n base idx hti
    obtain ⟨l, hl, hv⟩ := hx'
    split at hg
    · rename_i ss ns hHn hns
      have hds := slotsOf_rel hns hy
      split at hg
      · rename_i hd
        split at hg
        · split at hg
          · rename_i ns' hns'
            split at hg
            · rename_i ss' hss'
              split at hg
              · cases hg
              · rename_i hsum
                simp only [Option.some.injEq] at hg; subst hg
                have hn := hrd (n, .var ss) (by simp)
                obtain ⟨l', c, e, hl', hb, hvs⟩ := hH.blk n _ hn
                rw [hl] at hl'; cases hl'
                have hds' := toShape_rel (hT t ti hti).shok hns' hds
                have hlen : (a.eval y).cells.toList.length = ti.size := by rw [hds'.length]; simpa using hsum
                obtain ⟨hle, hput⟩ := VS.put hss' hvs hds' hlen
                refine fin (by rw [hv]; exact run_storeVar_blk (hT t ti hti) hb hlen (by simpa using hle) hds'.one) ?_
                refine hH.write _ hn hl hb _ fun he hb' => ⟨l, _, e, hl, hb', ?_⟩
                have := hput.ext he (μ' := μ) (fun _ _ => rfl)
                simpa using this
            · cases hg
          · cases hg
        · cases hg
      · rename_i hd
        have hd : ti.d.isAgg = false := by simpa using hd
        have hone := (hT t ti hti).size_one hd
        split at hg
        · rename_i hd0 g0 tl hsp
          split at hg
          · rename_i g
            simp only [Option.some.injEq] at hg; subst hg
            have hn := hrd (n, .var ss) (by simp)
            obtain ⟨l', c, e, hl', hb, hvs⟩ := hH.blk n _ hn
            rw [hl] at hl'; cases hl'
            obtain ⟨rfl, c1, c2, hc', h1, h2, h3⟩ := VS.split hsp hvs
            obtain ⟨u, cs', rfl, _, _, h5⟩ := h3
            obtain ⟨u', cs2, hcs2, h6, h7, h8⟩ := hds
            simp only [VS] at h8; subst h8
            have hlen : (a.eval y).cells.toList.length = ti.size := by rw [hcs2, hone]; rfl
            refine fin (by rw [hv]; exact run_storeVar_blk (hT t ti hti) hb hlen (by rw [hone, ← Array.length_toList, hc']; simp [h1]) (by rw [hcs2]; intro z hz; simp at hz; subst hz; exact h6)) ?_
            refine hH.write _ hn hl hb _ fun he hb' => ⟨l, _, e, hl, hb', ?_⟩
            have hvs' : VS μ w (ownOf μ H) (hd0 ++ .cell g :: tl) (c1 ++ u' :: cs') := VS.append h2 ⟨u', cs', rfl, h6, h7, h5⟩
            have := hvs'.ext he (μ' := μ) (fun _ _ => rfl)
            have e1 : c.toList.take (base + 0) = c1 := by rw [hc', ← h1]; simp
            have e2 : c.toList.drop (base + 0 + ti.size) = cs' := by
              rw [hc', hone, ← h1, show c1.length + 0 + 1 = c1.length + 1 from rfl, ← List.drop_drop]; simp
            have e3 : (c.toList.take (base + 0) ++ (a.eval y).cells.toList ++ c.toList.drop (base + 0 + ti.size)).toArray.toList = c1 ++ u' :: cs' := by rw [e1, e2, hcs2]; simp
            rw [e3]
            exact this
          · cases hg
        · rename_i hd0 τ m xs tl hsp
          split at hg
          · rename_i g
            split at hg
            · rename_i d hden
              split at hg
              · rename_i hsz
                simp only [Option.some.injEq] at hg; subst hg
                have hlt : idx < m := hc.1
                have hn := hrd (n, .var ss) (by simp)
                obtain ⟨l', c, e, hl', hb, hvs⟩ := hH.blk n _ hn
                rw [hl] at hl'; cases hl'
                obtain ⟨rfl, c1, c2, hc', h1, h2, h3⟩ := VS.split hsp hvs
                obtain ⟨hok, hxl, d1, d2, rfl, h4, h5⟩ := h3
                obtain ⟨u', cs2, hcs2, h6, h7, h8⟩ := hds
                simp only [VS] at h8; subst h8
                have hd1 : d1.length = m := by rw [h4.length, hsz, hxl]; omega
                have hlen : (a.eval y).cells.toList.length = ti.size := by rw [hcs2, hone]; rfl
                refine fin (by rw [hv]; exact run_storeVar_blk (hT t ti hti) hb hlen (by rw [hone, ← Array.length_toList, hc']; simp [h1, hd1]; omega) (by rw [hcs2]; intro z hz; simp at hz; subst hz; exact h6)) ?_
                refine hH.write _ hn hl hb _ fun he hb' => ⟨l, _, e, hl, hb', ?_⟩
                have hset := h4.set idx d [u'] (by rw [hxl]; exact hlt) (toDenA_rel hden h7)
                rw [hsz] at hset
                have hvs' : VS μ w (ownOf μ H) (hd0 ++ .arr τ m (xs.set idx d) :: tl) (c1 ++ ((d1.take (idx * 1) ++ [u'] ++ d1.drop ((idx + 1) * 1)) ++ d2)) := VS.append h2 ⟨hok, by simpa using hxl, _, d2, rfl, hset, h5⟩
                have := hvs'.ext he (μ' := μ) (fun _ _ => rfl)
                have e1 : c.toList.take (base + idx) = c1 ++ d1.take idx := by
                  rw [hc', ← h1, List.take_length_add_append, List.take_append_of_le_length (by omega)]
                have e2 : c.toList.drop (base + idx + ti.size) = d1.drop (idx + 1) ++ d2 := by
                  rw [hc', hone, ← h1, show c1.length + idx + 1 = c1.length + (idx + 1) by omega, List.drop_length_add_append, List.drop_append_of_le_length (by omega)]
                have e3 : (c.toList.take (base + idx) ++ (a.eval y).cells.toList ++ c.toList.drop (base + idx + ti.size)).toArray.toList = c1 ++ ((d1.take (idx * 1) ++ [u'] ++ d1.drop ((idx + 1) * 1)) ++ d2) := by rw [e1, e2, hcs2]; simp
                rw [e3]
                exact this
              · cases hg
            · cases hg
          · cases hg
        · cases hg
    · cases hg
  · rename_i ti n j hti
    obtain ⟨l, hl, hv⟩ := hx'
    split at hg
    · rename_i τ e xs mv g hHn
      split at hg
      · rename_i d hden
        split at hg
        · rename_i hsz
          simp only [Option.some.injEq] at hg; subst hg
          have hlt : j < xs.length := hc.1
          have hn := hrd (n, .gr τ e xs mv) (by simp)
          obtain ⟨⟨hpos, hok⟩, hb⟩ := hH.blk n _ hn
          rcases hb with ⟨h0, _⟩ | ⟨l', c, hl', hls, hb, hcs, hxl, hcm, hrep⟩
          · rw [hl] at h0; cases h0
          · rw [hl] at hl'; cases hl'
            have hrv := toDen_rel hden hy
            have hlen : (a.eval y).cells.toList.length = ti.size := by rw [hrv.length, hsz]
            have hjL : j * τ.size + τ.size ≤ List.length xs * τ.size := by
              have := Nat.mul_le_mul_right τ.size (show j + 1 ≤ List.length xs from hlt)
              rw [Nat.add_mul, Nat.one_mul] at this; exact this
            have hLc : l.base + List.length xs * τ.size ≤ c.size := Nat.le_trans (Nat.add_le_add_left (Nat.mul_le_mul_right _ hxl) _) hcs
            refine fin (by rw [hv]; exact run_storeVar_blk (hT t ti hti) hb hlen (by rw [hls, ← hsz]; omega) hrv.one) ?_
            refine hH.write _ hn hl hb _ fun he hb' => ⟨⟨hpos, hok⟩, .inr ⟨l, _, hl, hls, hb', ?_, by simpa using hxl, hcm, ?_⟩⟩
            · simp only [List.size_toArray, List.length_append, List.length_take, List.length_drop, Array.length_toList, hlen]
              rw [hls, ← hsz]; omega
            · have hset := (hrep.set j d _ hlt hrv).ext he hok
              have htp := take_put (c.toList.drop l.base) (List.length xs * τ.size) (j * τ.size) τ.size _ (by rw [hlen, hsz]) hjL (by simp; omega)
              simp only [List.length_set]
              have e3 : ((c.toList.take (l.base + j * l.size) ++ (a.eval y).cells.toList ++ c.toList.drop (l.base + j * l.size + ti.size)).toArray.toList.drop l.base).take (List.length xs * τ.size) =
                  ((c.toList.drop l.base).take (List.length xs * τ.size)).take (j * τ.size) ++ (a.eval y).cells.toList ++ ((c.toList.drop l.base).take (List.length xs * τ.size)).drop ((j + 1) * τ.size) := by
                rw [hls, ← hsz, Nat.add_mul, Nat.one_mul, List.toList_toArray, drop_put _ _ _ _ (by simp; omega)]
                exact htp
              rw [e3]
              exact hset
        · cases hg
      · cases hg
    · cases hg
  · cases hg

end
end Go.Gh
