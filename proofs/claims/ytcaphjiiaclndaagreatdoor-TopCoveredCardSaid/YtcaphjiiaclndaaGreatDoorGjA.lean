/- From a law's arguments to ghost values, and from the contract of a law to its statement. -/
import Derived.Test.YtcaphjiiaclndaaGreatDoorGiC
import Derived.ProofKit
import Derived.OpenShut
import Derived.ReadAgain
namespace Go.Gh
set_option linter.unusedVariables false
set_option linter.unusedSimpArgs false
open Go.ChangeShapes Go.WideShapes Go.ChangeAt Go.RowKit

def AllL {α : Type} (p : α → Prop) (xs : List α) : Prop := ∀ x ∈ xs, p x

def wfD : (τ : Ty) → τ.den → Prop
 | .int k, n => @LE.le Int _ k.min n ∧ @LE.le Int _ n k.max
 | .bool, _ => True
 | .str, s => ByteArray.size s ≤ maxLen
 | .list τ, xs => List.length xs ≤ maxLen ∧ @AllL τ.den (wfD τ) xs
 | .unit, _ => True
 | .pair a b, x => wfD a x.1 ∧ wfD b x.2
 | .opt _, _ => True

inductive Sp where
 | one (τ : Ty)
 | arr (τ : Ty) (n : Nat)

def SpRel : List Sp → List Slot → Prop
 | [], ss => ss = []
 | .one τ :: r, ss => ∃ x ss', ss = .cell (ofDenA τ x) :: ss' ∧ wfD τ x ∧ SpRel r ss'
 | .arr τ n :: r, ss => ∃ xs ss', ss = .arr τ n xs :: ss' ∧ List.length xs = n ∧ @AllL τ.den (wfD τ) xs ∧ SpRel r ss'

theorem SpRel.append : {ps qs : List Sp} → {ss ts : List Slot} → SpRel ps ss → SpRel qs ts → SpRel (ps ++ qs) (ss ++ ts)
 | [], _, _, _, h, k => by simp only [SpRel] at h; subst h; exact k
 | .one τ :: ps, _, _, _, h, k => by
  obtain ⟨x, ss', rfl, h1, h2⟩ := h
  exact ⟨x, _, rfl, h1, SpRel.append h2 k⟩
 | .arr τ n :: ps, _, _, _, h, k => by
  obtain ⟨xs, ss', rfl, h1, h2, h3⟩ := h
  exact ⟨xs, _, rfl, h1, h2, SpRel.append h3 k⟩

def fitL (f : TypeId → Ty → Bool) : List (Nat × Nat) → Nat → Ty → Bool
 | [], _, .unit => true
 | (t, o) :: fs, off, .pair a b => Nat.beq o off && f t a && fitL f fs (off + a.size) b
 | _, _, _ => false

def tyFits (T : Tbl) : Nat → TypeId → Ty → Bool
 | 0, _, _ => false
 | n + 1, t, τ => match T[t]? with
  | some ti => Nat.beq ti.size τ.size && (match ti.d, τ with
   | .int k, .int k' => decide (k = k')
   | .bool, .bool => true
   | .str, .str => true
   | .slice e, .list τ' => tyFits T n e τ' && Nat.blt 0 τ'.size
   | .struct fs, τ => fitL (tyFits T n) fs 0 τ
   | _, _ => false)
  | none => false

theorem cellsOf_eq {P : Program} {T : Tbl} (hT : TOK P T) {t : TypeId} {ti : TI} (h : T[t]? = some ti) : P.cellsOf t = ti.size := by
 obtain ⟨j, z, h1, h2, _⟩ := (hT t ti h).info
 simp [Program.cellsOf, h1, h2]

theorem exists_list {α : Type} {Q : Nat → α → Prop} : ∀ n : Nat, (∀ i, i < n → ∃ x, Q i x) → ∃ xs : List α, xs.length = n ∧ ∀ i x, xs[i]? = some x → Q i x
 | 0, _ => ⟨[], rfl, by simp⟩
 | n + 1, h => by
  obtain ⟨xs, h1, h2⟩ := exists_list n fun i hi => h i (by omega)
  obtain ⟨x, hx⟩ := h n (by omega)
  refine ⟨xs ++ [x], by simp [h1], fun i y hy => ?_⟩
  rcases Nat.lt_trichotomy i n with hi | hi | hi
  ·rw [List.getElem?_append_left (by omega)] at hy; exact h2 i y hy
  ·subst hi
   rw [List.getElem?_append_right (by omega), h1] at hy
   simp at hy; subst hy; exact hx
  ·rw [List.getElem?_eq_none (by simp; omega)] at hy; cases hy

section opening
variable {H : Type} {enc : TypeId × Value → H} {P : Program} {T : Tbl} {w : World} {base : Nat} {spare : Nat → Bool} {held : Bool} {own : Nat → Prop}

theorem cells?_get {a : Addr} {n : Nat} {cs : List Value} (h : w.cells? base a n = some cs) : cs.length = n ∧ ∀ j v, cs[j]? = some v → w.cell? (a.add j) = some v := by
 unfold World.cells? at h
 split at h
 ·have hl : cs.length = n := by simpa using mapM_some_length h
  refine ⟨hl, fun j v hv => ?_⟩
  have hj : j < n := by
   rcases Nat.lt_or_ge j cs.length with h | h
   ·omega
   ·simp [List.getElem?_eq_none h] at hv
  have := mapM_some_get h j j (by simp [hj])
  rw [hv] at this; exact this
 ·cases h

theorem spot_of_cell {a : Addr} {v : Value} (h : w.cell? a = some v) : a.spot = none := by
 unfold World.cell? at h
 split at h
 ·split at h
  ·cases h
  ·rename_i hs; simpa using hs
 ·cases h

theorem add_eq {a : Addr} (h : a.spot = none) (n : Nat) : a.add n = ⟨a.block, a.off + n, none⟩ := by
 unfold Addr.add
 split
 ·rename_i hn; subst hn; cases a; simp_all
 ·rfl

theorem fitL_rep {f : TypeId → Ty → Bool} {cs : List Value} (hf : ∀ t τ, f t τ = true → P.cellsOf t = τ.size ∧ ∀ cs x m, DataW.trod enc P w base spare held m t cs = some x → ∃ d : τ.den, wfD τ d ∧ Rep w own τ d cs) :
  ∀ (fl : List (Nat × Nat)) (off : Nat) (τ : Ty), fitL f fl off τ = true → (∀ t o, (t, o) ∈ fl → ∃ m y, DataW.trod enc P w base spare held m t ((cs.drop o).take (P.cellsOf t)) = some y) → cs.length = off + τ.size →
  ∃ d : τ.den, wfD τ d ∧ Rep w own τ d (cs.drop off)
 | [], off, .unit, _, _, hl => ⟨(), trivial, by simp only [Ty.size, Nat.add_zero] at hl; simp [Rep, ← hl]⟩
 | (t, o) :: fs, off, .pair a b, h, hx, hl => by
  simp only [fitL, Bool.and_eq_true] at h
  obtain ⟨⟨ho, h1⟩, h2⟩ := h
  have ho := Nat.eq_of_beq_eq_true ho
  subst ho
  obtain ⟨hc, h3⟩ := hf t a h1
  obtain ⟨m, y, hy⟩ := hx t o (List.mem_cons_self ..)
  obtain ⟨d1, w1, r1⟩ := h3 _ _ _ hy
  simp only [Ty.size] at hl
  obtain ⟨d2, w2, r2⟩ := fitL_rep hf fs (o + a.size) b h2 (fun t' o' h' => hx t' o' (List.mem_cons_of_mem _ h')) (by omega)
  refine ⟨(d1, d2), ⟨w1, w2⟩, _, _, ?_, r1, r2⟩
  rw [hc, ← List.drop_drop, List.take_append_drop]
 | [], _, .int _, h, _, _ | [], _, .bool, h, _, _ | [], _, .str, h, _, _ | [], _, .list _, h, _, _ | [], _, .pair _ _, h, _, _ | [], _, .opt _, h, _, _ => by simp [fitL] at h
 | _ :: _, _, .int _, h, _, _ | _ :: _, _, .bool, h, _, _ | _ :: _, _, .str, h, _, _ | _ :: _, _, .list _, h, _, _ | _ :: _, _, .unit, h, _, _ | _ :: _, _, .opt _, h, _, _ => by simp [fitL] at h

theorem trod_rep (hT : TOK P T) (hown : ∀ b, ¬ own b) : ∀ (n : Nat) (t : TypeId) (τ : Ty), tyFits T n t τ = true → P.cellsOf t = τ.size ∧ ∀ cs x m, DataW.trod enc P w base spare held m t cs = some x → ∃ d : τ.den, wfD τ d ∧ Rep w own τ d cs
 | 0, _, _, h => by simp [tyFits] at h
 | n + 1, t, τ, h => by
  unfold tyFits at h
  split at h
  rotate_left
  ·cases h
  rename_i ti hti
  rw [Bool.and_eq_true] at h
  obtain ⟨hsz, h⟩ := h
  replace hsz : P.cellsOf t = τ.size := (cellsOf_eq hT hti).trans (Nat.eq_of_beq_eq_true hsz)
  refine ⟨hsz, fun cs x m hx => ?_⟩
  obtain ⟨D, hD, hd⟩ := (hT t ti hti).und
  split at h
  ·rename_i k k' hk
   rw [hk] at hd; simp only [TD.fits] at hd; subst hd
   have := of_decide_eq_true h; subst this
   obtain ⟨v, rfl, _, hw⟩ := DataW.trod_int hD hx
   refine ⟨v, ?_, rfl⟩
   have hw : k.min ≤ v ∧ v ≤ k.max := by simpa [Lit.wf] using hw
   exact hw
  ·rename_i hk
   rw [hk] at hd; simp only [TD.fits] at hd; subst hd
   obtain ⟨v, rfl, _⟩ := DataW.trod_bool hD hx
   exact ⟨v, trivial, rfl⟩
  ·rename_i hk
   rw [hk] at hd; simp only [TD.fits] at hd; subst hd
   obtain ⟨v, rfl, _, hm⟩ := DataW.trod_string hD hx
   exact ⟨v, hm, rfl⟩
  ·rename_i e τ' hk
   rw [hk] at hd; simp only [TD.fits] at hd; subst hd
   rw [Bool.and_eq_true] at h
   obtain ⟨h, h0⟩ := h
   have h0 : 0 < τ'.size := Nat.le_of_ble_eq_true h0
   obtain ⟨hc, ih⟩ := trod_rep hT hown n e τ' h
   rcases DataW.trod_slice hD hx with ⟨rfl, _⟩ | ⟨a, len, cap, elems, rest, m', rfl, rfl, _, _, hle, hcap, hlen, hel, _⟩
   ·exact ⟨[], ⟨Nat.zero_le _, fun x hx => nomatch hx⟩, none, 0, rfl, by simp [RepSl]⟩
   ·have key : ∀ i, i < len → ∃ d : τ'.den, wfD τ' d ∧ ∃ vs, vs.length = τ'.size ∧ Rep w own τ' d vs ∧ ∀ j v, vs[j]? = some v → w.cell? ((a.add (i * τ'.size)).add j) = some v := by
     intro i hi
     have := hel i hi
     rw [List.getElem?_eq_getElem (by omega), hc] at this
     simp only [Option.bind_eq_some_iff] at this
     obtain ⟨vs, hvs, ht⟩ := this
     obtain ⟨d, hw, hr⟩ := ih _ _ _ ht
     obtain ⟨hl, hg⟩ := cells?_get hvs
     exact ⟨d, hw, vs, hl, hr, hg⟩
    obtain ⟨xs, hl, hq⟩ := exists_list len key
    have hspot : ∀ (i : Nat) (y : τ'.den), xs[i]? = some y → a.spot = none := by
     intro i y hy
     have hp : 0 < len := by
      rcases Nat.eq_zero_or_pos len with h | h
      ·rw [List.getElem?_eq_none (by omega)] at hy; cases hy
      ·exact h
     obtain ⟨d, _, vs, hvl, _, hg⟩ := key 0 hp
     obtain ⟨v, hv⟩ : ∃ v, vs[0]? = some v := by rw [List.getElem?_eq_getElem (by omega)]; exact ⟨_, rfl⟩
     have := spot_of_cell (hg 0 v hv)
     simpa [Addr.add] using this
    refine ⟨xs, ⟨by omega, fun x hx => ?_⟩, some a, cap, by rw [hl], ?_⟩
    ·obtain ⟨i, hi⟩ := List.mem_iff_getElem?.1 hx
     exact (hq i x hi).1
    ·refine ⟨by omega, by simp, fun ad had i y hy => ?_⟩
     cases had
     have hs := hspot i y hy
     obtain ⟨_, vs, h1, h2, h3⟩ := hq i y hy
     refine ⟨hs, hown _, vs, h1, h2, fun j v hv => ?_⟩
     have := h3 j v hv
     rw [add_eq hs, add_eq rfl] at this
     exact this
  ·rename_i fs hk
   rw [hk] at hd; obtain ⟨fields, rfl, hfs⟩ := hd
   obtain ⟨xs, m', rfl, _, hl, hxl, hel⟩ := DataW.trod_struct hD hx
   have := fitL_rep (P := P) (w := w) (own := own) (cs := cs) (fun t τ => trod_rep hT hown n t τ) fs 0 _ h (fun t' o ho => ?_) (by omega)
   ·simpa using this
   ·rw [← hfs] at ho
    obtain ⟨fd, hfd, he⟩ := List.mem_map.1 ho
    simp only [Prod.mk.injEq] at he; obtain ⟨rfl, rfl⟩ := he
    obtain ⟨i, hi⟩ := List.mem_iff_getElem?.1 hfd
    have hi' : fields[i]? = some fd := by simpa using hi
    have hlt : i < xs.length := by
     rw [hxl]; rcases Nat.lt_or_ge i fields.size with h | h
     ·exact h
     ·simp [Array.getElem?_eq_none h] at hi'
    exact ⟨m', xs[i], by rw [hel i fd hi']; simp [hlt]⟩
  ·cases h

theorem trod_arr (τ : Ty) {c : Nat} : ∀ (n : Nat) (cs : List Value), cs.length = n * c → (∀ i, i < n → ∃ d : τ.den, wfD τ d ∧ Rep w own τ d ((cs.drop (i * c)).take c)) → ∃ xs : List τ.den, List.length xs = n ∧ @AllL τ.den (wfD τ) xs ∧ RepAll w own τ xs cs
 | 0, cs, hl, _ => ⟨[], rfl, (fun x hx => by cases hx), by simpa [RepAll] using hl⟩
 | n + 1, cs, hl, h => by
  obtain ⟨d, hw, hr⟩ := h 0 (by omega)
  obtain ⟨xs, h1, h2, h3⟩ := trod_arr τ (c := c) n (cs.drop c) (by rw [List.length_drop, hl, Nat.add_mul]; omega) fun i hi => by
   have := h (i + 1) (by omega)
   rw [List.drop_drop, show c + i * c = (i + 1) * c by rw [Nat.add_mul]; omega]
   exact this
  refine ⟨d :: xs, by simp [h1], ?_, cs.take c, cs.drop c, by simp, by simpa using hr, h3⟩
  intro x hx
  rcases List.mem_cons.1 hx with rfl | hx
  ·exact hw
  ·exact h2 x hx

def spL (f : TypeId → Option (List Sp)) (sz : TypeId → Option Nat) (total : Nat) : List (Nat × Nat) → Nat → Option (List Sp)
 | [], off => if off = total then some [] else none
 | (t, o) :: fs, off => if o = off then (match f t, sz t with
  | some a, some s => (match spL f sz total fs (off + s) with | some b => some (a ++ b) | none => none)
  | _, _ => none) else none

def spOf (T : Tbl) : Nat → TypeId → Option (List Sp)
 | 0, _ => none
 | n + 1, t => match T[t]? with
  | none => none
  | some ti => match ti.d with
   | .struct fs => spL (spOf T n) (fun t => (T[t]?).map (·.size)) ti.size fs 0
   | .array m e => (match T[e]? with
    | some te => if ti.size = m * te.size then (match te.d.isAgg with
     | true => (match spOf T n e with | some l => some (List.replicate m l).flatten | none => none)
     | false => (match te.ty with | some τ => if tyFits T 9 e τ = true ∧ τ.okB = true then some [.arr τ m] else none | none => none)) else none
    | none => none)
   | _ => (match ti.ty with | some τ => if tyFits T 9 t τ = true ∧ τ.okB = true ∧ τ.isAgg = false then some [.one τ] else none | none => none)

variable {μ : Map}

theorem spL_rel (hT : TOK P T) {f : TypeId → Option (List Sp)} {cs : List Value} {total : Nat}
  (hf : ∀ t sps, f t = some sps → ∀ cs x m, DataW.trod enc P w base spare held m t cs = some x → ∃ ss, SpRel sps ss ∧ VS μ w own ss cs) :
  ∀ (fl : List (Nat × Nat)) (off : Nat) (sps : List Sp), spL f (fun t => (T[t]?).map (·.size)) total fl off = some sps → (∀ t o, (t, o) ∈ fl → ∃ m y, DataW.trod enc P w base spare held m t ((cs.drop o).take (P.cellsOf t)) = some y) → cs.length = total →
  ∃ ss, SpRel sps ss ∧ VS μ w own ss (cs.drop off)
 | [], off, sps, h, _, hl => by
  simp only [spL] at h
  split at h
  ·simp only [Option.some.injEq] at h; subst h
   exact ⟨[], rfl, by simp only [VS]; simp; omega⟩
  ·cases h
 | (t, o) :: fs, off, sps, h, hx, hl => by
  simp only [spL] at h
  split at h
  rotate_left
  ·cases h
  rename_i ho; subst ho
  split at h
  rotate_left
  ·cases h
  rename_i a s ha hs
  split at h
  rotate_left
  ·cases h
  rename_i b hb
  simp only [Option.some.injEq] at h; subst h
  obtain ⟨m, y, hy⟩ := hx t o (List.mem_cons_self ..)
  obtain ⟨s1, r1, v1⟩ := hf t a ha _ _ _ hy
  obtain ⟨s2, r2, v2⟩ := spL_rel hT hf fs (o + s) b hb (fun t' o' h' => hx t' o' (List.mem_cons_of_mem _ h')) hl
  refine ⟨s1 ++ s2, r1.append r2, ?_⟩
  have hc : P.cellsOf t = s := by
   cases hti : T[t]? with
   | none => simp only [hti] at hs; cases hs
   | some ti => simp only [hti, Option.map_some, Option.some.injEq] at hs; rw [cellsOf_eq hT hti, hs]
  rw [hc] at v1
  have := v1.append v2
  rwa [← List.drop_drop, List.take_append_drop] at this

theorem spOf_rel (hT : TOK P T) (hown : ∀ b, ¬ own b) : ∀ (n : Nat) (t : TypeId) (sps : List Sp), spOf T n t = some sps → ∀ cs x m, DataW.trod enc P w base spare held m t cs = some x → ∃ ss, SpRel sps ss ∧ VS μ w own ss cs
 | 0, _, _, h => by simp [spOf] at h
 | n + 1, t, sps, h => by
  intro cs x m hx
  unfold spOf at h
  split at h
  ·cases h
  rename_i ti hti
  obtain ⟨D, hD, hd⟩ := (hT t ti hti).und
  split at h
  ·rename_i fs hk
   rw [hk] at hd; obtain ⟨fields, rfl, hfs⟩ := hd
   obtain ⟨xs, m', rfl, _, hl, hxl, hel⟩ := DataW.trod_struct hD hx
   have := spL_rel (cs := cs) hT (fun t sps => spOf_rel hT hown n t sps) fs 0 sps h (fun t' o ho => ?_) (hl.trans (cellsOf_eq hT hti))
   ·simpa using this
   ·rw [← hfs] at ho
    obtain ⟨fd, hfd, he⟩ := List.mem_map.1 ho
    simp only [Prod.mk.injEq] at he; obtain ⟨rfl, rfl⟩ := he
    obtain ⟨i, hi⟩ := List.mem_iff_getElem?.1 hfd
    have hi' : fields[i]? = some fd := by simpa using hi
    have hlt : i < xs.length := by
     rw [hxl]; rcases Nat.lt_or_ge i fields.size with h | h
     ·exact h
     ·simp [Array.getElem?_eq_none h] at hi'
    exact ⟨m', xs[i], by rw [hel i fd hi']; simp [hlt]⟩
  ·rename_i k e hk
   rw [hk] at hd; simp only [TD.fits] at hd; subst hd
   obtain ⟨xs, m', rfl, _, hl, hxl, hel⟩ := DataW.trod_array hD hx
   split at h
   rotate_left
   ·cases h
   rename_i te hte
   split at h
   rotate_left
   ·cases h
   rename_i hsz
   rw [cellsOf_eq hT hti, hsz] at hl
   have hel' : ∀ i, i < k → ∃ y, DataW.trod enc P w base spare held m' e ((cs.drop (i * te.size)).take te.size) = some y := by
    intro i hi
    have := hel i hi
    rw [cellsOf_eq hT hte, List.getElem?_eq_getElem (by omega)] at this
    exact ⟨_, this⟩
   split at h
   ·split at h
    rotate_left
    ·cases h
    rename_i l hlst
    simp only [Option.some.injEq] at h; subst h
    have := spOf_rel hT hown n e l hlst
    clear hel hxl hx hD
    have go : ∀ (k : Nat) (cs : List Value), cs.length = k * te.size → (∀ i, i < k → ∃ y, DataW.trod enc P w base spare held m' e ((cs.drop (i * te.size)).take te.size) = some y) → ∃ ss, SpRel (List.replicate k l).flatten ss ∧ VS μ w own ss cs := by
     intro k
     induction k with
     | zero => intro cs hl _; exact ⟨[], rfl, by simpa [VS] using hl⟩
     | succ k ih =>
      intro cs hl hel
      obtain ⟨y, hy⟩ := hel 0 (by omega)
      obtain ⟨s1, r1, v1⟩ := this _ _ _ hy
      obtain ⟨s2, r2, v2⟩ := ih (cs.drop te.size) (by rw [List.length_drop, hl, Nat.add_mul]; omega) fun i hi => by
       have := hel (i + 1) (by omega)
       rw [List.drop_drop, show te.size + i * te.size = (i + 1) * te.size by rw [Nat.add_mul]; omega]
       exact this
      refine ⟨s1 ++ s2, by rw [List.replicate_succ, List.flatten_cons]; exact r1.append r2, ?_⟩
      have := v1.append v2
      simpa using this
    exact go k cs hl hel'
   ·split at h
    rotate_left
    ·cases h
    rename_i τ hτ
    split at h
    rotate_left
    ·cases h
    rename_i hfit
    simp only [Option.some.injEq] at h; subst h
    obtain ⟨hc, ih⟩ := trod_rep (enc := enc) (w := w) (base := base) (spare := spare) (held := held) hT hown 9 e τ hfit.1
    obtain ⟨xs, h1, h2, h3⟩ := trod_arr (own := own) (w := w) τ k cs hl fun i hi => by
     obtain ⟨y, hy⟩ := hel' i hi
     exact ih _ _ _ hy
    exact ⟨[.arr τ k xs], ⟨xs, [], rfl, h1, h2, rfl⟩, Ty.ok_of_okB hfit.2, h1, cs, [], by simp, h3, rfl⟩
  ·split at h
   rotate_left
   ·cases h
   rename_i τ hτ
   split at h
   rotate_left
   ·cases h
   rename_i hfit
   simp only [Option.some.injEq] at h; subst h
   obtain ⟨hc, ih⟩ := trod_rep (enc := enc) (w := w) (base := base) (spare := spare) (held := held) hT hown 9 t τ hfit.1
   obtain ⟨d, hw, hr⟩ := ih _ _ _ hx
   have hok := Ty.ok_of_okB hfit.2.1
   refine ⟨[.cell (ofDenA τ d)], ⟨d, [], rfl, hw, rfl⟩, ?_⟩
   have hlen := hr.length
   have h1 : τ.size = 1 := by cases τ <;> simp_all [Ty.size, Ty.isAgg]
   rw [h1] at hlen
   obtain ⟨v, rfl⟩ := List.length_eq_one_iff.1 hlen
   exact ⟨v, [], rfl, hr.one v (by simp), ofDenA_rel hok hfit.2.2 hr, rfl⟩
end opening

def mrg : List Sp → List Sp
 | [] => []
 | .one τ :: r => .one τ :: mrg r
 | .arr τ n :: r => match mrg r with
  | .arr τ' m :: r' => if τ = τ' then .arr τ (n + m) :: r' else .arr τ n :: .arr τ' m :: r'
  | r' => .arr τ n :: r'

theorem allL_app {α : Type} {P : α → Prop} {xs ys : List α} (h : AllL P xs) (k : AllL P ys) : AllL P (xs ++ ys) := fun x hx =>
 (List.mem_append.1 hx).elim (h x) (k x)

theorem mrg_rel {μ : Map} {w : World} {own : Nat → Prop} : ∀ (sps : List Sp) (ss : List Slot) (cs : List Value), SpRel sps ss → VS μ w own ss cs → ∃ ss', SpRel (mrg sps) ss' ∧ VS μ w own ss' cs
 | [], ss, cs, h, k => ⟨ss, h, k⟩
 | .one τ :: r, ss, cs, h, k => by
  obtain ⟨x, ss1, rfl, hw, h1⟩ := h
  obtain ⟨v, cs', rfl, hv1, hv2, k1⟩ := k
  obtain ⟨ss', a, b⟩ := mrg_rel r ss1 cs' h1 k1
  exact ⟨_ :: ss', ⟨x, ss', rfl, hw, a⟩, ⟨v, cs', rfl, hv1, hv2, b⟩⟩
 | .arr τ n :: r, ss, cs, h, k => by
  obtain ⟨xs, ss1, rfl, hl, hw, h1⟩ := h
  obtain ⟨ho, hl', c1, cs', rfl, hr, k1⟩ := k
  obtain ⟨ss', a, b⟩ := mrg_rel r ss1 cs' h1 k1
  unfold mrg
  split
  ·rename_i τ' m r' he
   rw [he] at a
   split
   ·rename_i heq
    subst heq
    obtain ⟨ys, ss2, rfl, hm, hw2, h2⟩ := a
    obtain ⟨ho2, hm2, c2, cs2, rfl, hr2, k2⟩ := b
    refine ⟨.arr τ (n + m) (xs ++ ys) :: ss2, ⟨xs ++ ys, ss2, rfl, ?_, allL_app hw hw2, h2⟩, ho, ?_, c1 ++ c2, cs2, ?_, hr.append hr2, k2⟩
    ·exact (List.length_append).trans (by rw [hl, hm])
    ·exact (List.length_append).trans (by rw [hl, hm])
    ·rw [List.append_assoc]
   ·exact ⟨_ :: ss', ⟨xs, ss', rfl, hl, hw, a⟩, ho, hl', c1, cs', rfl, hr, b⟩
  ·exact ⟨_ :: ss', ⟨xs, ss', rfl, hl, hw, a⟩, ho, hl', c1, cs', rfl, hr, b⟩

def ArgRel : List (Bool × List Sp) → List G → Prop
 | [], gs => gs = []
 | (true, sps) :: r, gs => ∃ ss gs', gs = .r (.agg ss) :: gs' ∧ SpRel sps ss ∧ ArgRel r gs'
 | (false, sps) :: r, gs => ∃ g gs', gs = .r (.at g) :: gs' ∧ SpRel sps [.cell g] ∧ ArgRel r gs'

def oneArr (T : Tbl) (fs : List (Nat × Nat)) : Bool :=
 Nat.beq (fs.filter fun f => match T[f.1]? with | some i => (match i.d with | .array _ _ => true | _ => false) | none => false).length 1
def mrgD (T : Tbl) : TD → List Sp → List Sp
 | .array _ _, sps => mrg sps
 | .struct fs, sps => (match oneArr T fs with | true => mrg sps | false => sps)
 | _, sps => sps
theorem mrgD_rel {μ : Map} {w : World} {own : Nat → Prop} (T : Tbl) (d : TD) (sps : List Sp) (ss : List Slot) (cs : List Value) (h : SpRel sps ss) (k : VS μ w own ss cs) : ∃ ss', SpRel (mrgD T d sps) ss' ∧ VS μ w own ss' cs := by
 unfold mrgD
 split
 ·exact mrg_rel sps ss cs h k
 ·split
  ·exact mrg_rel sps ss cs h k
  ·exact ⟨ss, h, k⟩
 ·exact ⟨ss, h, k⟩

def parOf (T : Tbl) (t : TypeId) : Option (Bool × List Sp) :=
 match T[t]?, spOf T 9 t with
 | some ti, some sps => some (ti.d.isAgg, if ti.d.isAgg then mrgD T ti.d sps else sps)
 | _, _ => none

def parsOf (T : Tbl) : List TypeId → Option (List (Bool × List Sp))
 | [] => some []
 | t :: ts => match parOf T t, parsOf T ts with
  | some p, some ps => some (p :: ps)
  | _, _ => none

theorem args_rel {H : Type} {enc : TypeId × Value → H} {P : Program} {T : Tbl} {w : World} {μ : Map} {own : Nat → Prop} (hT : TOK P T) (hown : ∀ b, ¬ own b) : ∀ {ts : List TypeId} {pars : List (Bool × List Sp)} {vs : List Value} {ds : List (DataW H)} {ps : List MemPlace},
  parsOf T ts = some pars → (∀ (j : Nat) t v, ts[j]? = some t → vs[j]? = some v → Value.okWide P w .any 0 t v) → DataW.TrodAll enc P w 0 (fun _ => true) true ts vs ds ps → ∃ gs, ArgRel pars gs ∧ VGs μ w own gs vs
 | [], pars, vs, ds, ps, h, _, hA => by
  simp only [parsOf, Option.some.injEq] at h; subst h
  obtain ⟨rfl, _, _⟩ := trodAll_nil hA
  exact ⟨[], rfl, rfl⟩
 | t :: ts, pars, vs, ds, ps, h, hv, hA => by
  simp only [parsOf] at h
  split at h
  rotate_left
  ·cases h
  rename_i p ps' hp hps
  simp only [Option.some.injEq] at h; subst h
  obtain ⟨v, vs', d, ds', p1, q1, rfl, rfl, rfl, ⟨m, hm⟩, hA'⟩ := trodAll_cons hA
  obtain ⟨gs, r1, v1⟩ := args_rel hT hown hps (fun j t v h1 h2 => hv (j + 1) t v (by simpa using h1) (by simpa using h2)) hA'
  have hok := hv 0 t v rfl rfl
  unfold parOf at hp
  split at hp
  rotate_left
  ·cases hp
  rename_i ti sps hti hsp
  simp only [Option.some.injEq] at hp; subst hp
  obtain ⟨ss, r2, v2⟩ := spOf_rel (μ := μ) hT hown 9 t sps hsp _ _ _ hm
  obtain ⟨D, hD, hd⟩ := (hT t ti hti).und
  unfold Value.okWide at hok
  rw [hD] at hok
  cases hagg : ti.d.isAgg with
  | true =>
   have : ∃ cs, v = .agg cs := by
    cases hk : ti.d <;> rw [hk] at hagg <;> simp only [TD.isAgg, Bool.false_eq_true] at hagg <;> rw [hk] at hd
    ·simp only [TD.fits] at hd; subst hd
     obtain ⟨cs, rfl, _⟩ := hok; exact ⟨cs, rfl⟩
    ·obtain ⟨fields, rfl, _⟩ := hd
     obtain ⟨cs, rfl, _⟩ := hok; exact ⟨cs, rfl⟩
   obtain ⟨cs, rfl⟩ := this
   obtain ⟨ss', r3, v3⟩ := mrgD_rel T ti.d sps ss _ r2 v2
   exact ⟨.r (.agg ss') :: gs, ⟨ss', gs, rfl, r3, r1⟩, _, _, rfl, ⟨cs, rfl, v3⟩, v1⟩
  | false =>
   have hone : ∃ τ, sps = [.one τ] := by
    simp only [spOf, hti] at hsp
    cases hk : ti.d <;> rw [hk] at hagg hsp <;> simp only [TD.isAgg, Bool.true_eq_false] at hagg
    all_goals
     simp only at hsp
     split at hsp
     ·split at hsp
      ·simp only [Option.some.injEq] at hsp; exact ⟨_, hsp.symm⟩
      ·cases hsp
     ·cases hsp
   obtain ⟨τ, rfl⟩ := hone
   obtain ⟨x, ss', rfl, hw, hss⟩ := r2
   simp only [SpRel] at hss; subst hss
   obtain ⟨u, cs', hcs, _, hu, hnil⟩ := v2
   simp only [VS] at hnil; subst hnil
   have huv : u = v ∨ ∃ cs, v = .agg cs := by
    cases v <;> simp_all [Value.cells]
   rcases huv with rfl | ⟨cs, rfl⟩
   ·exact ⟨.r (.at (ofDenA τ x)) :: gs, ⟨_, gs, rfl, ⟨x, [], rfl, hw, rfl⟩, r1⟩, _, _, rfl, hu, v1⟩
   ·exfalso
    cases hk : ti.d <;> rw [hk] at hagg hd <;> simp only [TD.isAgg, Bool.true_eq_false] at hagg <;> simp only [TD.fits] at hd
    case other =>
     unfold Cell.okWide Cell.ok at hok
     rw [hD] at hok
     have hd1 := fun fs => (hd fs).1
     have hd2 := fun n e => (hd #[]).2 n e
     cases D <;> simp_all
    all_goals subst hd; simp [Cell.okWide, Cell.ok, hD] at hok

structure LawOK (cx : Cx) : Prop where
 laid : laidOutB cx.P = true
 maps : mapsRowed cx.P = true
 full : ((List.range cx.P.types.size).all fun t => match cx.P.underlying t with | some (.slice e) => decide (0 < cx.P.cellsOf e) | _ => true) = true

theorem trodAll_len {H : Type} {enc : TypeId × Value → H} {P : Program} {w : World} {base : Nat} {spare : Nat → Bool} {held : Bool} : ∀ {ts : List TypeId} {vs : List Value} {ds : List (DataW H)} {ps : List MemPlace},
  DataW.TrodAll enc P w base spare held ts vs ds ps → ds.length = ts.length
 | [], [], [], _, _ => rfl
 | _ :: _, _ :: _, _ :: _, _, ⟨_, _, _, h, _⟩ => by simp [trodAll_len h]

theorem trodAll_carry {H : Type} {enc : TypeId × Value → H} {P : Program} {w w' : World} {base : Nat} {spare : Nat → Bool} {held : Bool} : ∀ {ts : List TypeId} {vs : List Value} {ds : List (DataW H)} {ps : List MemPlace},
  DataW.TrodAll enc P w base spare held ts vs ds ps → (∀ p ∈ ps, w.sameAt w' p) → DataW.TrodAll enc P w' base spare held ts vs ds ps
 | [], [], [], _, h, _ => h
 | _ :: _, _ :: _, _ :: _, _, ⟨p, q, ⟨m, h1⟩, h2, e⟩, hs => ⟨p, q, ⟨m, DataW.trod_carry m _ _ _ h1 fun x hx => hs x (by rw [e]; exact List.mem_append_left _ hx)⟩, trodAll_carry h2 fun x hx => hs x (by rw [e]; exact List.mem_append_right _ hx), e⟩

theorem law_contractG {cx : Cx} (hcx : CxOK cx) (hl : LawOK cx) {f : FuncId} {fn : Func} {s : ChangeSpec} {tb : TypeId} {pars : List (Bool × List Sp)}
  (hp : parsOf cx.T fn.params.toList = some pars) (hts : fn.params.toList.all (fun t => Nat.blt t cx.P.types.size) = true)
  (hres : fn.resultTypes = #[tb]) (htb : cx.P.underlying tb = some .bool) (hv : s.vars = [])
  (law : ∀ gs, ArgRel pars gs → CallOK cx f gs [] [] (.r (.at (.bool true))) [])
  (H : Type) (hfn : ∀ ds : List (DataW H), ds.length = fn.params.size → s.fn H (ds ++ []) = { results := [.lit (.bool true)], args := ds })
  (enc : TypeId × Value → H) (W : World) (base : Nat) (args : Array Value) (ds gs : List (DataW H)) (before : List MemPlace)
  (hval : ∀ (j : Nat) t v, fn.params[j]? = some t → args[j]? = some v → Value.okWide cx.P W .any base t v)
  (hW : DataW.Whole enc cx.P fn.params.toList s.vars false W args.toList ds gs before)
  (hgl : Glob cx ⟨fun _ => none, fun _ => False, 0⟩ W (mapOf [])) :
  Calls cx.P f args W fun e W' => ∃ v, e = .returned v ∧ s.post enc cx.P fn false true false false W args v W' := by
 have hW' := hW
 obtain ⟨p, q, hA, hV, rfl, _, _⟩ := hW
 obtain ⟨rfl, rfl⟩ : gs = [] ∧ q = [] := by rw [hv] at hV; exact trodVars_none hV
 have hH : HRel ⟨fun _ => none, fun _ => False, 0⟩ W (mapOf []) := ⟨fun n b h => by simp [mapOf] at h, fun n m ln lm h => absurd rfl h, fun n l h => absurd rfl h, fun b hb => hb.elim⟩
 have hown : ∀ b, ¬ ownOf ⟨fun _ => none, fun _ => False, 0⟩ (mapOf []) b := by
  rintro b (h | ⟨n, l, h, _⟩)
  ·exact h
  ·exact h rfl
 obtain ⟨garg, r, vg⟩ := args_rel (μ := ⟨fun _ => none, fun _ => False, 0⟩) (own := ownOf ⟨fun _ => none, fun _ => False, 0⟩ (mapOf [])) hcx.tok hown hp (fun j t v h1 h2 => hval j t v (by simpa using h1) (by simpa using h2)) hA
 have hlen : ds.length = fn.params.size := by have := trodAll_len hA; simpa using this
 have c := (law garg r).2 _ W args.toList hH vg hgl
 rw [show args.toList.toArray = args by simp] at c
 refine c.mono fun e W' ⟨cv, μ', he, _, hcv, hev, _⟩ => ?_
 subst he
 have hcv : cv = .bool true := hcv
 subst hcv
 have hlt := hA.lt
 have hkeep : ∀ b, b < W.heap.size → W'.heap[b]? = W.heap[b]? := fun b hb => hev.ext.keep b hb (hown b)
 have hs := hfn ds hlen
 refine ⟨_, rfl, ds, [], p ++ [], [], p, [], hW', ?_, ?_, ?_, ⟨hev.ext.os, hev.ext.out, fun i hi => ?_⟩, fun h => nomatch h⟩
 ·rw [hs, hres]; exact trodAll_cons_mk (shut_bool htb _) trodAll_mk0
 ·rw [hs]
  refine trodAll_carry (hA.respare (spare' := fun b => decide (b < W.heap.size)) (kids_rows hl.laid hl.maps) (fun t e h1 h2 => slices_full_of cx.P hl.full t e h1 h2) (fun t ht => ?_) fun x hx => by simpa using hlt x hx) fun x hx => ?_
  ·have := List.all_eq_true.1 hts t ht
   exact Nat.le_of_ble_eq_true this
  ·cases x with
   | cell b off => exact World.cell?_of_block (hkeep b (hlt _ hx))
   | map b => exact hkeep b (hlt _ hx)
 ·rw [hs, hv]; rfl
 ·rw [hkeep i hi]
  cases h : W.heap[i]? with
  | none => trivial
  | some o => cases o <;> simp

theorem law_contract {cx : Cx} (hcx : CxOK cx) (hl : LawOK cx) (hgu : ∀ g, cx.gl g = .undef) {f : FuncId} {fn : Func} {s : ChangeSpec} {tb : TypeId} {pars : List (Bool × List Sp)}
  (hp : parsOf cx.T fn.params.toList = some pars) (hts : fn.params.toList.all (fun t => Nat.blt t cx.P.types.size) = true)
  (hres : fn.resultTypes = #[tb]) (htb : cx.P.underlying tb = some .bool) (hv : s.vars = [])
  (law : ∀ gs, ArgRel pars gs → CallOK cx f gs [] [] (.r (.at (.bool true))) [])
  (H : Type) (hfn : ∀ ds : List (DataW H), ds.length = fn.params.size → s.fn H (ds ++ []) = { results := [.lit (.bool true)], args := ds })
  (enc : TypeId × Value → H) (W : World) (base : Nat) (args : Array Value) (ds gs : List (DataW H)) (before : List MemPlace)
  (hval : ∀ (j : Nat) t v, fn.params[j]? = some t → args[j]? = some v → Value.okWide cx.P W .any base t v)
  (hW : DataW.Whole enc cx.P fn.params.toList s.vars false W args.toList ds gs before) :
  Calls cx.P f args W fun e W' => ∃ v, e = .returned v ∧ s.post enc cx.P fn false true false false W args v W' :=
 law_contractG hcx hl hp hts hres htb hv law H hfn enc W base args ds gs before hval hW (fun g => by rw [hgu]; trivial)

end Go.Gh
