/- Loads, stores, new blocks. -/
import Derived.Test.YtcaphjiiaclndaaGreatDoorGhH
namespace Go.Gh
set_option linter.unusedVariables false
set_option linter.unusedSimpArgs false

def upd (μ : Map) (n : Nat) (l : Option Loc) : Map := ⟨fun m => if m = n then l else μ m, μ.X, μ.B⟩

theorem upd_same (μ : Map) (n : Nat) (l : Option Loc) : upd μ n l n = l := by simp [upd]
theorem upd_other (μ : Map) (n : Nat) (l : Option Loc) {m : Nat} (h : m ≠ n) : upd μ n l m = μ m := by simp [upd, h]

section
variable {P : Program} {T : Tbl} {o : Oper} {a : Act} {μ : Map} {w : World} {H : Heap}

theorem HRel.new (hH : HRel μ w H) (n : Nat) (ob : Obj) (l : Loc) (hl : l.blk = w.heap.size) (b : Blk)
    (hb : Ext (ownOf μ H) w (ownOf (upd μ n (some l)) (after [n] [(n, some b)] H)) (w.alloc ob) → BRel (upd μ n (some l)) (w.alloc ob) (ownOf (upd μ n (some l)) (after [n] [(n, some b)] H)) n b) :
    HRel (upd μ n (some l)) (w.alloc ob) (after [n] [(n, some b)] H) ∧ Ev μ H w (upd μ n (some l)) (after [n] [(n, some b)] H) (w.alloc ob) := by
  refine hH.step rfl (fun m hm => upd_other _ _ _ (by simpa using hm)) (fun m hm => upd_other _ _ _ hm) (by simp) (by simp) rfl rfl rfl (fun k hk _ => heap_alloc_old w ob k hk) ?_ hb
  intro l' hl'
  rw [upd_same] at hl'
  cases hl'
  exact .inl (by omega)

theorem VS.scrub1 {μ μ' : Map} {w w' : World} {own own' : Nat → Prop} {n : Nat} (h : Ext own w own' w') (hm : ∀ m, m ≠ n → μ' m = μ m) {ss : List Slot} {cs : List Value} (hv : VS μ w own ss cs) : VS μ' w' own' (ss.map (Slot.scrub [n])) cs :=
  hv.scrub h (fun m hm' => hm m (by simpa using hm'))

def gAlloc (T : Tbl) (t : TypeId) (es : List En) : Option (OR × List En) :=
  match T[t]?, es with
  | some ti, .nm n :: es' => some ({ val := .a (.ptr n 0 0), wr := [(n, some (.var (ti.zero.map Sh.zero)))], mv := [n] }, es')
  | _, _ => none

theorem alloc_ok (hT : TOK P T) {t : TypeId} (ho : o.op = .alloc t) {es es' : List En} {R : OR} (hg : gAlloc T t es = some (R, es')) (hH : HRel μ w H) : OpOK P o a μ w H R := by
  unfold gAlloc at hg
  split at hg
  · rename_i ti n es1 hti
    simp only [Option.some.injEq, Prod.mk.injEq] at hg
    obtain ⟨rfl, rfl⟩ := hg
    obtain ⟨z, hz1, hz2, _⟩ := (hT t ti hti).run_zero w
    have hrun : (execOp a.eval o).run P w = .ok (.value (.pointer (some ⟨w.heap.size, 0, none⟩))) (w.alloc (.cells z.cells t)) := by
      simp [execOp, ho, Instr.alloc, hz1, newVar, newRow]
    obtain ⟨h1, h2⟩ := hH.new n (.cells z.cells t) ⟨w.heap.size, 0, 0, 0⟩ rfl (.var (ti.zero.map Sh.zero)) (fun _ => ⟨_, _, _, upd_same .., heap_alloc_new w _, (zslots_rel hz2).1⟩)
    exact ⟨_, _, _, .inl hrun, fun m hm => upd_other _ _ _ (by simpa using hm), h1, h2, _, upd_same .., rfl⟩
  · cases hg

def slotsOf : G → Option (List Slot)
  | .r (.at .undef) | .r (.at .unit0) => none
  | .r (.at g) => some [.cell g]
  | .r (.agg ss) => some ss
  | _ => none

theorem slotsOf_rel {own : Nat → Prop} {g : G} {ss : List Slot} {v : Value} (h : slotsOf g = some ss) (hv : VG μ w own g v) : VS μ w own ss v.cells.toList := by
  unfold slotsOf at h
  split at h
  · cases h
  · cases h
  · rename_i g0 h1 h2
    simp only [Option.some.injEq] at h; subst h
    have hv' : VA μ w own g0 v := hv
    have hone := hv'.one ⟨h1, h2⟩
    rw [Value.cells_of_one hone]
    exact ⟨v, [], rfl, hone, hv', rfl⟩
  · simp only [Option.some.injEq] at h; subst h
    obtain ⟨cs, rfl, hs⟩ := hv
    exact hs
  · cases h

def gBox (T : Tbl) (t : TypeId) (x : G) (es : List En) : Option (OR × List En) :=
  match T[t]?, slotsOf x, es with
  | some ti, some ss, .nm n :: es' => (match toShape ti.zero ss with
    | some ss' => some ({ val := .a (.ptr n 0 0), wr := [(n, some (.var (ss'.map (Slot.scrub [n]))))], mv := [n] }, es')
    | none => none)
  | _, _, _ => none

theorem TOK1.shok {t : TypeId} {i : TI} (h : TOK1 P t i) : ∀ s ∈ i.zero, s.ok := by
  obtain ⟨j, z, _, _, _, _, h5, _⟩ := h.info
  exact (zslots_rel (μ := ⟨fun _ => none, fun _ => False, 0⟩) (w := default) (own := fun _ => False) h5).2

theorem box_ok (hT : TOK P T) {t : TypeId} {x : Operand} (ho : o.op = .box t x) {gx : G} {es es' : List En} {R : OR} (hg : gBox T t gx es = some (R, es')) (hx : VG μ w (ownOf μ H) gx (a.eval x)) (hH : HRel μ w H) : OpOK P o a μ w H R := by
  unfold gBox at hg
  split at hg
  · rename_i ti ss n es1 hti hss
    split at hg
    · rename_i ss' hss'
      simp only [Option.some.injEq, Prod.mk.injEq] at hg
      obtain ⟨rfl, rfl⟩ := hg
      have hv := toShape_rel (hT t ti hti).shok hss' (slotsOf_rel hss hx)
      have hrun : (execOp a.eval o).run P w = .ok (.value (.pointer (some ⟨w.heap.size, 0, none⟩))) (w.alloc (.cells (a.eval x).cells t)) := by
        simp [execOp, ho, Instr.box, newVar, newRow]
      obtain ⟨h1, h2⟩ := hH.new n (.cells (a.eval x).cells t) ⟨w.heap.size, 0, 0, 0⟩ rfl (.var (ss'.map (Slot.scrub [n]))) (fun he => ⟨_, _, _, upd_same .., heap_alloc_new w _, hv.scrub1 he (fun m hm => upd_other _ _ _ hm)⟩)
      exact ⟨_, _, _, .inl hrun, fun m hm => upd_other _ _ _ (by simpa using hm), h1, h2, _, upd_same .., rfl⟩
    · cases hg
  · cases hg


def gLoad (T : Tbl) (H : Heap) (t : TypeId) (x : GA) (es : List En) : Option (OR × List En) :=
  match T[t]?, x with
  | some ti, .ptr n base idx => (match H n with
    | some (.var ss) =>
      if ti.d.isAgg then
        (match idx with
         | 0 => (match getSlots ss base ti.size with
           | some s => some ({ val := .r (.agg s), rd := [(n, .var ss)] }, es)
           | none => none)
         | _ + 1 => none)
      else (match splitSlots ss base with
        | some (_, .cell g :: _) => (match idx with
          | 0 => some ({ val := .a g, rd := [(n, .var ss)] }, es)
          | _ + 1 => none)
        | some (_, .arr τ _ xs :: _) => (match es with
          | .v g :: es' => if τ.size = 1 then (if τ.isAgg then none else some ({ val := .a g, rd := [(n, .var ss)], cs := [∃ y, xs[idx]? = some y ∧ g = ofDenA τ y] }, es')) else none
          | _ => none)
        | _ => none)
    | _ => none)
  | some ti, .ptg n j => (match H n, es with
    | some (.gr τ e xs mv), .v g :: es' => if ti.d.isAgg then none else if τ.isAgg then none else if τ.size = 1 then some ({ val := .a g, rd := [(n, .gr τ e xs mv)], cs := [∃ y, xs[j]? = some y ∧ g = ofDenA τ y] }, es') else none
    | _, _ => none)
  | some ti, .ipt τ y => if τ.isAgg = ti.d.isAgg ∧ τ.size = ti.size then some ({ val := .r (ofDen τ y) }, es) else none
  | _, _ => none

theorem run_loadVar_one {t : TypeId} {ti : TI} (hti : TOK1 P t ti) (hd : ti.d.isAgg = false) {ad : Addr} {v : Value} (h : w.cell? ad = some v) : (Instr.loadAt t (.pointer (some ad))).run P w = .ok v w := by
  simp [Instr.loadAt, Instr.sureAddr, loadVar, hti.run_isAgg w, hd, h]

theorem run_loadVar_agg {t : TypeId} {ti : TI} (hti : TOK1 P t ti) (hd : ti.d.isAgg = true) {ad : Addr} (hs : ad.spot = none) {vs : List Value} (hl : vs.length = ti.size) (h : ∀ j v, vs[j]? = some v → w.cell? ⟨ad.block, ad.off + j, none⟩ = some v) :
    (Instr.loadAt t (.pointer (some ad))).run P w = .ok (.agg vs.toArray) w := by
  have := run_loadCells_list (P := P) w ad vs (fun j v hv => by rw [Addr.add_eq _ hs]; exact h j v hv)
  rw [hl] at this
  simp [Instr.loadAt, Instr.sureAddr, loadVar, hti.run_isAgg w, hd, hti.run_size w, this]

theorem cell_of_blk {b k : Nat} {c : Array Value} {e : TypeId} (h : w.heap[b]? = some (.cells c e (0, 0))) {v : Value} (hv : c.toList[k]? = some v) : w.cell? ⟨b, k, none⟩ = some v := by
  rw [cell_of_row w b k c e (0, 0) h]
  simpa using hv

theorem load_ok (hT : TOK P T) {t : TypeId} {x : Operand} (ho : o.op = .load t x) {H0 : Heap} {gx : GA} {es es' : List En} {R : OR} (hg : gLoad T H0 t gx es = some (R, es')) (hc : AllP R.cs)
    (hrd : ∀ x ∈ R.rd, H x.1 = some x.2) (hx : VG μ w (ownOf μ H) (.a gx) (a.eval x)) (hH : HRel μ w H) : OpOK P o a μ w H R := by
  have hx' : VA μ w (ownOf μ H) gx (a.eval x) := hx
  have he : execOp a.eval o = (do Pure.pure (.value (← Instr.loadAt t (a.eval x)))) := by simp [execOp, ho]
  have fin : ∀ {g : G} {rd cs} {v : Value}, (Instr.loadAt t (a.eval x)).run P w = .ok v w → VG μ w (ownOf μ H) g v → OpOK P o a μ w H { val := g, rd := rd, cs := cs } :=
    fun hr hv => .pure hH (by rw [he]; simp [hr]) hv
  unfold gLoad at hg
  split at hg
  · rename_i ti n base idx hti
    obtain ⟨l, hl, hv⟩ := hx'
    split at hg
    · rename_i ss hHn
      split at hg
      · rename_i hd
        split at hg
        · split at hg
          · rename_i s hs
            simp only [Option.some.injEq, Prod.mk.injEq] at hg
            obtain ⟨rfl, rfl⟩ := hg
            obtain ⟨l', c, e, hl', hb, hvs⟩ := hH.blk n _ (hrd (n, .var ss) (by simp))
            rw [hl] at hl'; cases hl'
            obtain ⟨c1, c2, c3, hc', h1, h2, h3⟩ := VS.get hs hvs
            refine fin (v := .agg c2.toArray) ?_ ⟨_, rfl, by simpa using h3⟩
            rw [hv]
            refine run_loadVar_agg (hT t ti hti) hd rfl h2 fun j u hu => cell_of_blk hb ?_
            have hj : j < c2.length := by
              rcases Nat.lt_or_ge j c2.length with h | h
              · exact h
              · simp [List.getElem?_eq_none h] at hu
            show c.toList[base + 0 + j]? = some u
            rw [hc', show base + 0 + j = c1.length + j by omega, List.append_assoc, List.getElem?_append_right (by omega)]
            simp only [Nat.add_sub_cancel_left]
            rw [List.getElem?_append_left hj]; exact hu
          · cases hg
        · cases hg
      · rename_i hd
        have hd : ti.d.isAgg = false := by simpa using hd
        split at hg
        · rename_i hd' g rest hsp
          split at hg
          · simp only [Option.some.injEq, Prod.mk.injEq] at hg
            obtain ⟨rfl, rfl⟩ := hg
            obtain ⟨l', c, e, hl', hb, hvs⟩ := hH.blk n _ (hrd (n, .var ss) (by simp))
            rw [hl] at hl'; cases hl'
            obtain ⟨_, c1, c2, hc', h1, _, h3⟩ := VS.split hsp hvs
            obtain ⟨u, cs', rfl, _, h4, _⟩ := h3
            refine fin (v := u) ?_ h4
            rw [hv]
            refine run_loadVar_one (hT t ti hti) hd (cell_of_blk hb ?_)
            rw [hc', Nat.add_zero, ← h1]; simp
          · cases hg
        · rename_i hd' τ m xs rest hsp
          split at hg
          · rename_i g es1
            split at hg
            · rename_i hsz
              split at hg
              · cases hg
              · rename_i hag
                simp only [Option.some.injEq, Prod.mk.injEq] at hg
                obtain ⟨rfl, rfl⟩ := hg
                obtain ⟨⟨y, hy, rfl⟩, _⟩ := hc
                obtain ⟨l', c, e, hl', hb, hvs⟩ := hH.blk n _ (hrd (n, .var ss) (by simp))
                rw [hl] at hl'; cases hl'
                obtain ⟨_, c1, c2, hc', h1, _, h3⟩ := VS.split hsp hvs
                obtain ⟨hok, _, d1, d2, rfl, h4, _⟩ := h3
                obtain ⟨us, hul, hur, huc⟩ := h4.get idx y hy
                rw [hsz] at hul
                match us, hul, hur, huc with
                | [u], _, hur, huc =>
                  refine fin (v := u) ?_ (ofDenA_rel hok (by simpa using hag) hur)
                  rw [hv]
                  refine run_loadVar_one (hT t ti hti) hd (cell_of_blk hb ?_)
                  have := huc 0 u rfl
                  rw [hsz, Nat.mul_one, Nat.add_zero] at this
                  have hlt : idx < d1.length := by
                    rcases Nat.lt_or_ge idx d1.length with h | h
                    · exact h
                    · simp [List.getElem?_eq_none h] at this
                  rw [hc', ← h1, List.getElem?_append_right (by omega)]
                  simp only [Nat.add_sub_cancel_left]
                  rw [List.getElem?_append_left hlt]; exact this
            · cases hg
          · cases hg
        · cases hg
    · cases hg
  · rename_i ti n j hti
    obtain ⟨l, hl, hv⟩ := hx'
    split at hg
    · rename_i τ e xs mv g es1 hHn
      split at hg
      · cases hg
      · rename_i hd
        split at hg
        · cases hg
        · rename_i hag
          split at hg
          · rename_i hsz
            simp only [Option.some.injEq, Prod.mk.injEq] at hg
            obtain ⟨rfl, rfl⟩ := hg
            obtain ⟨⟨y, hy, rfl⟩, _⟩ := hc
            obtain ⟨⟨hpos, hok⟩, hb⟩ := hH.blk n _ (hrd (n, .gr τ e xs mv) (by simp))
            rcases hb with ⟨h0, _⟩ | ⟨l', c, hl', hls, hb, hcs, hxl, hcm, hrep⟩
            · rw [hl] at h0; cases h0
            · rw [hl] at hl'; cases hl'
              obtain ⟨us, hul, hur, huc⟩ := hrep.get j y hy
              rw [hsz] at hul
              match us, hul, hur, huc with
              | [u], _, hur, huc =>
                refine fin (v := u) ?_ (ofDenA_rel hok (by simpa using hag) hur)
                rw [hv]
                refine run_loadVar_one (hT t ti hti) (by simpa using hd) (cell_of_blk hb ?_)
                have := huc 0 u rfl
                rw [Nat.add_zero, List.getElem?_take] at this
                rw [hls]
                split at this
                · rw [List.getElem?_drop] at this; exact this
                · cases this
          · cases hg
    · cases hg
  · rename_i ti τ y hti
    split at hg
    · rename_i hcond
      simp only [Option.some.injEq, Prod.mk.injEq] at hg
      obtain ⟨rfl, rfl⟩ := hg
      obtain ⟨hok, ad, vs, hv, hs, hr, hcell⟩ := hx'
      by_cases hag : τ.isAgg = true
      · refine fin (v := .agg vs.toArray) ?_ ?_
        · rw [hv]
          exact run_loadVar_agg (hT t ti hti) (by rw [← hcond.1]; exact hag) hs (by rw [hr.length]; exact hcond.2) fun j u hu => (hcell j u hu).2
        · show VR μ w _ (ofDen τ y) _
          unfold ofDen
          rw [if_pos hag]
          exact ⟨_, rfl, by simpa using ofDenS_rel hok hr⟩
      · have hag' : τ.isAgg = false := by simpa using hag
        have h1 : vs.length = 1 := by
          rw [hr.length, hcond.2]
          exact (hT t ti hti).size_one (by rw [← hcond.1]; exact hag')
        match vs, h1, hr, hcell with
        | [u], _, hr, hcell =>
          refine fin (v := u) ?_ ?_
          · rw [hv]
            refine run_loadVar_one (hT t ti hti) (by rw [← hcond.1]; exact hag') ?_
            have := (hcell 0 u rfl).2
            cases ad; simp at hs; subst hs; simpa using this
          · show VR μ w _ (ofDen τ y) _
            unfold ofDen
            rw [if_neg hag]
            exact ofDenA_rel hok hag' hr
    · cases hg
  · cases hg

end
end Go.Gh
