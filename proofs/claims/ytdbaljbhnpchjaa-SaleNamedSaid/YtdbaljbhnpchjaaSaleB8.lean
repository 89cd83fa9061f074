/- What is needed of the plain texts. -/
import Derived.Test.YtdbaljbhnpchjaaSale8N0
namespace Go.Gh.Sale
set_option linter.unusedVariables false
set_option linter.unusedSimpArgs false

section
theorem w64_in {n : Int} (h : -9223372036854775808 ≤ n ∧ n < 9223372036854775808) : w64 n = n := by
 unfold w64 IntKind.wrap
 simp [IntKind.bits, IntKind.signed]
 split <;> omega
theorem w64_succ {n : Nat} (h : n < 1000000000) : w64 ((n : Int) + 1) = ((n + 1 : Nat) : Int) := by rw [w64_in (by omega)]; omega
theorem at_of {α : Type} {l : List α} {i : Nat} {x : α} (h : l[i]? = some x) : at? l ((i : Nat) : Int) = some x := by
 unfold at?; rw [if_pos (by omega), Int.toNat_natCast]; exact h
theorem at_get {α : Type} {l : List α} {i : Nat} (h : i < l.length) : at? l ((i : Nat) : Int) = some l[i] := at_of (List.getElem?_eq_getElem h)
theorem req_pos {α : Type} {p : Prop} [Decidable p] {x : Option α} (h : p) : req p x = x := by unfold req; rw [if_pos h]
theorem take0 {α : Type} (l : List α) : List.drop 0 (List.take (0 + l.length) l) = l := by simp
theorem drop_cons {α : Type} {l : List α} {i : Nat} (h : i < l.length) : l.drop i = l[i] :: l.drop (i + 1) := List.drop_eq_getElem_cons h
def dl (L l : Nat) : Nat := if L.testBit l = true then L - 2 ^ l else L
def lookL : Bool := (List.range 32).all fun (L : Nat) => (List.range 5).all fun (l : Nat) => (iAndNot .u8 (L : Int) (iShl .u8 1 (l : Int)) == ((dl L l : Nat) : Int)) && ((iAnd .u8 (iShr .u8 (L : Int) (l : Int)) 1 == 1) == L.testBit l) && decide (dl L l < 32) &&
 (List.range 5).all fun j => (dl L l).testBit j == (L.testBit j && j != l)
theorem lookL_true : lookL = true := by decide +kernel
theorem look_L {L l : Nat} (hL : L < 32) (hl : l < 5) : iAndNot .u8 (L : Int) (iShl .u8 1 (l : Int)) = ((dl L l : Nat) : Int) ∧ (iAnd .u8 (iShr .u8 (L : Int) (l : Int)) 1 == 1) = L.testBit l ∧ dl L l < 32 ∧ ∀ j, j < 5 → (dl L l).testBit j = (L.testBit j && j != l) := by
 have h := lookL_true
 unfold lookL at h
 simp only [List.all_eq_true, List.mem_range] at h
 have h2 := h L hL l hl
 simp only [Bool.and_eq_true, beq_iff_eq, List.all_eq_true, List.mem_range, decide_eq_true_eq] at h2
 exact ⟨h2.1.1.1, h2.1.1.2, h2.1.2, h2.2⟩
theorem f71_neg {F : Nat} {L : Int} : f71 F L (-1) = some (L, true) := by unfold f71; rw [if_pos (by decide)]
theorem f71_eq {F L l : Nat} (hL : L < 32) (hl : l < 5) : f71 F L l = some (((dl L l : Nat) : Int), L.testBit l) := by
 obtain ⟨h1, h2, _⟩ := look_L hL hl
 unfold f71
 rw [if_neg (by simp), req_pos (by omega), h1, h2]
def all_ (m : Nat) : Nat := 2 ^ m - 1
theorem all_look : ((List.range 6).all fun (m : Nat) => IntKind.wrap .u8 ((iShl .u8 1 (m : Int)) - 1) == ((all_ m : Nat) : Int) && decide (all_ m < 32)) = true := by decide +kernel
theorem f69_eq {F m : Nat} {M : Mm} {s : List (List Int)} (hm : m ≤ 5) : f69 F M s m = some ((all_ m : Nat) : Int) ∧ all_ m < 32 := by
 have h := all_look
 simp only [List.all_eq_true, List.mem_range, Bool.and_eq_true, beq_iff_eq, decide_eq_true_eq] at h
 have h2 := h m (by omega)
 unfold f69
 rw [req_pos (by omega), h2.1]
 exact ⟨rfl, h2.2⟩
theorem all_bit {m j : Nat} : (all_ m).testBit j = decide (j < m) := by unfold all_; exact Nat.testBit_two_pow_sub_one m j

def cand (m L : Nat) (free : Bool) : List Int := -1 :: (if free then ((List.range m).filter fun l => L.testBit l).map (fun (l : Nat) => (l : Int)) else [])
def dx (L : Nat) (x : Int) : Nat := if x < 0 then L else dl L x.toNat
def vl (r : List Int) (x : Int) : Int := if x < 0 then 0 else (r[x.toNat]?).getD 0
def comb (b a : Int × Int) : Int × Int := if a.1 > b.1 then a else if a.1 = b.1 then (b.1, b.2 + a.2) else b
def mo (m : Nat) (but : Int) : List (List Int) → Nat → Nat → Int × Int
 | [], _, _ => (0, 1)
 | r :: rs, i, L => (cand m L (decide ((i : Int) ≠ but))).foldl (fun b x => comb b ((mo m but rs (i + 1) (dx L x)).1 + vl r x, (mo m but rs (i + 1) (dx L x)).2)) (-1, 0)
def Ok (m : Nat) (s : List (List Int)) : Prop := ∀ r ∈ s, r.length = m ∧ ∀ x ∈ r, 0 ≤ x ∧ x ≤ 99
theorem vl_bd {m : Nat} {r : List Int} (h : r.length = m ∧ ∀ x ∈ r, 0 ≤ x ∧ x ≤ 99) (x : Int) : 0 ≤ vl r x ∧ vl r x ≤ 99 := by
 unfold vl
 split
 ·omega
 ·by_cases hx : x.toNat < r.length
  ·rw [List.getElem?_eq_getElem hx]
   exact h.2 _ (List.getElem_mem hx)
  ·rw [List.getElem?_eq_none (by omega)]
   exact ⟨Int.le_refl 0, by decide⟩
theorem cand_len (m L : Nat) (free : Bool) : (cand m L free).length ≤ m + 1 := by
 unfold cand
 cases free
 ·simp
 ·have := List.length_filter_le (fun l => L.testBit l) (List.range m)
  simp at this ⊢
  omega
theorem comb_bd {A C t : Int} {b a : Int × Int} (hb : -1 ≤ b.1 ∧ b.1 ≤ A ∧ 0 ≤ b.2 ∧ b.2 ≤ t * C) (ha : 0 ≤ a.1 ∧ a.1 ≤ A ∧ 1 ≤ a.2 ∧ a.2 ≤ C) (ht : 0 ≤ t) : 0 ≤ (comb b a).1 ∧ (comb b a).1 ≤ A ∧ 0 ≤ (comb b a).2 ∧ (comb b a).2 ≤ (t + 1) * C ∧ (0 ≤ b.1 → 1 ≤ b.2 → 1 ≤ (comb b a).2) ∧ (b = (-1, 0) → 1 ≤ (comb b a).2) := by
 have e : (t + 1) * C = t * C + C := by rw [Int.add_mul, Int.one_mul]
 have hC : 0 ≤ t * C := Int.mul_nonneg ht (by omega)
 unfold comb
 by_cases h1 : a.1 > b.1
 ·rw [if_pos h1]
  exact ⟨by omega, by omega, by omega, by omega, fun _ _ => by omega, fun _ => by omega⟩
 ·rw [if_neg h1]
  by_cases h2 : a.1 = b.1
  ·rw [if_pos h2]
   exact ⟨by show 0 ≤ b.1; omega, by show b.1 ≤ A; omega, by show 0 ≤ b.2 + a.2; omega, by show b.2 + a.2 ≤ _; omega, fun _ _ => by show 1 ≤ b.2 + a.2; omega, fun _ => by show 1 ≤ b.2 + a.2; omega⟩
  ·rw [if_neg h2]
   exact ⟨by omega, by omega, by omega, by omega, fun _ _ => by omega, fun h => by subst h; simp at h1; omega⟩
theorem fold_bd {A C : Int} (g : Int → Int × Int) (hg : ∀ x, 0 ≤ (g x).1 ∧ (g x).1 ≤ A ∧ 1 ≤ (g x).2 ∧ (g x).2 ≤ C) : ∀ (xs : List Int) (b : Int × Int) (t : Int), 0 ≤ t → -1 ≤ b.1 ∧ b.1 ≤ A ∧ 0 ≤ b.2 ∧ b.2 ≤ t * C →
  -1 ≤ (xs.foldl (fun b x => comb b (g x)) b).1 ∧ (xs.foldl (fun b x => comb b (g x)) b).1 ≤ A ∧ 0 ≤ (xs.foldl (fun b x => comb b (g x)) b).2 ∧ (xs.foldl (fun b x => comb b (g x)) b).2 ≤ (t + xs.length) * C ∧
  (0 ≤ b.1 → 1 ≤ b.2 → 0 ≤ (xs.foldl (fun b x => comb b (g x)) b).1 ∧ 1 ≤ (xs.foldl (fun b x => comb b (g x)) b).2) := by
 intro xs
 induction xs with
 | nil => intro b t ht hb; exact ⟨hb.1, hb.2.1, hb.2.2.1, by simpa using hb.2.2.2, fun h1 h2 => ⟨h1, h2⟩⟩
 | cons x xs ih =>
  intro b t ht hb
  have h1 := comb_bd hb (hg x) ht
  have h2 := ih (comb b (g x)) (t + 1) (by omega) ⟨by omega, h1.2.1, h1.2.2.1, h1.2.2.2.1⟩
  rw [List.foldl_cons]
  refine ⟨h2.1, h2.2.1, h2.2.2.1, ?_, fun a1 a2 => h2.2.2.2.2 (by omega) (h1.2.2.2.2.1 a1 a2)⟩
  have := h2.2.2.2.1
  rw [List.length_cons, show (t + ((xs.length + 1 : Nat) : Int)) = t + 1 + (xs.length : Int) by omega]
  exact this
theorem pow6 (k : Nat) : 1 ≤ (6 : Int) ^ k := by
 induction k with
 | zero => decide
 | succ k ih => rw [Int.pow_succ]; omega
theorem mo_bd {m : Nat} (hm : m ≤ 5) {but : Int} : ∀ (rows : List (List Int)) (i L : Nat), Ok m rows → 0 ≤ (mo m but rows i L).1 ∧ (mo m but rows i L).1 ≤ 99 * rows.length ∧ 1 ≤ (mo m but rows i L).2 ∧ (mo m but rows i L).2 ≤ 6 ^ rows.length := by
 intro rows
 induction rows with
 | nil => intro i L _; exact ⟨Int.le_refl 0, by show (0 : Int) ≤ 99 * ((0 : Nat) : Int); decide, Int.le_refl 1, Int.le_refl 1⟩
 | cons r rs ih =>
  intro i L h
  have hr := h r (by simp)
  have hrs : Ok m rs := fun x hx => h x (by simp [hx])
  have hg : ∀ x : Int, 0 ≤ ((mo m but rs (i + 1) (dx L x)).1 + vl r x, (mo m but rs (i + 1) (dx L x)).2).1 ∧ ((mo m but rs (i + 1) (dx L x)).1 + vl r x, (mo m but rs (i + 1) (dx L x)).2).1 ≤ 99 * ((r :: rs).length : Int) ∧
    1 ≤ ((mo m but rs (i + 1) (dx L x)).1 + vl r x, (mo m but rs (i + 1) (dx L x)).2).2 ∧ ((mo m but rs (i + 1) (dx L x)).1 + vl r x, (mo m but rs (i + 1) (dx L x)).2).2 ≤ 6 ^ rs.length := fun x => by
   have := ih (i + 1) (dx L x) hrs
   have := vl_bd hr x
   rw [List.length_cons]
   dsimp only
   omega
  have hc := cand_len m L (decide ((i : Int) ≠ but))
  have hp := pow6 rs.length
  simp only [mo]
  generalize hxs : cand m L (decide ((i : Int) ≠ but)) = xs at *
  match xs, hxs with
  | [], hxs => unfold cand at hxs; cases hxs
  | y :: ys, _ =>
   have h0 := comb_bd (b := ((-1 : Int), (0 : Int))) (A := 99 * ((r :: rs).length : Int)) (C := 6 ^ rs.length) (t := 0) ⟨Int.le_refl _, by omega, Int.le_refl 0, by omega⟩ (hg y) (Int.le_refl 0)
   have h1 := fold_bd (A := 99 * ((r :: rs).length : Int)) (C := 6 ^ rs.length) _ hg ys (comb (-1, 0) ((mo m but rs (i + 1) (dx L y)).1 + vl r y, (mo m but rs (i + 1) (dx L y)).2)) 1 (by decide) ⟨by omega, h0.2.1, h0.2.2.1, h0.2.2.2.1⟩
   rw [List.foldl_cons]
   have h2 := h1.2.2.2.2 h0.1 (h0.2.2.2.2.2 rfl)
   refine ⟨h2.1, h1.2.1, h2.2, Int.le_trans h1.2.2.2.1 ?_⟩
   rw [List.length_cons, Int.pow_succ, Int.mul_comm]
   refine Int.mul_le_mul_of_nonneg_left ?_ (by omega)
   simp only [List.length_cons] at hc
   omega

theorem mget_mset {α β : Type} [DecidableEq α] : ∀ (es : List (α × β)) (k j : α) (v : β), mget (mset es k v) j = if k = j then some v else mget es j
 | [], k, j, v => by simp only [mset, mget]
 | e :: es, k, j, v => by
  simp only [mset]
  by_cases h : e.1 = k
  ·rw [if_pos h]
   simp only [mget]
   by_cases h2 : k = j
   ·rw [if_pos h2, if_pos h2]
   ·rw [if_neg h2, if_neg h2, if_neg (by rw [h]; exact h2)]
  ·rw [if_neg h]
   simp only [mget]
   rw [mget_mset es k j v]
   by_cases h2 : e.1 = j
   ·rw [if_pos h2, if_pos h2, if_neg (by rw [← h2]; exact fun e => h e.symm)]
   ·rw [if_neg h2, if_neg h2]
def Good (m : Nat) (s : List (List Int)) (M : Mm) : Prop := ∀ (i L : Nat) (but : Int) v, i ≤ s.length → L < 32 → mget M ((i : Int), (but, ((L : Int), ()))) = some v → v = ((mo m but (s.drop i) i L).1, ((mo m but (s.drop i) i L).2, ()))
theorem Good.nil (m : Nat) (s : List (List Int)) : Good m s [] := fun _ _ _ _ _ _ h => by cases h
theorem Good.set {m : Nat} {s : List (List Int)} {M : Mm} (h : Good m s M) {i L : Nat} {but : Int} : Good m s (mset M ((i : Int), (but, ((L : Int), ()))) ((mo m but (s.drop i) i L).1, ((mo m but (s.drop i) i L).2, ()))) := by
 intro j L' but' v h1 h2 h3
 rw [mget_mset] at h3
 split at h3
 ·rename_i he
  simp only [Prod.mk.injEq] at he
  obtain ⟨e1, e2, e3, _⟩ := he
  have e1 : i = j := by omega
  have e3 : L = L' := by omega
  subst e1; subst e2; subst e3
  exact (Option.some.inj h3).symm
 ·exact h j L' but' v h1 h2 h3
theorem f72_eq {F i : Nat} {M : Mm} {s : List (List Int)} {x m : Int} {n : Nat} (ho : Ok n s) (hi : i < s.length) (hx : -1 ≤ x ∧ x < n) : f72 F i x M s m = some (vl s[i] x) := by
 unfold f72 vl
 by_cases h : x < 0
 ·rw [if_pos (by simpa using h), if_pos h]
 ·obtain ⟨l, rfl⟩ : ∃ l : Nat, x = l := ⟨x.toNat, by omega⟩
  have hl := (ho _ (List.getElem_mem hi)).1
  have hb : l < s[i].length := by omega
  rw [if_neg (by simp), if_neg h, at_get hi, Option.bind_some, at_get hb, Option.bind_some, Int.toNat_natCast, List.getElem?_eq_getElem hb]
  rfl
theorem comb_eq {F : Nat} {x v w t : Int} {b : Int × Int} {M : Mm} {s : List (List Int)} {m i but L : Int} (hw : 0 ≤ w ∧ w ≤ 1000) (hv : 0 ≤ v ∧ v ≤ 99) (ht : 0 ≤ t ∧ t ≤ 1000000) (hb : 0 ≤ b.2 ∧ b.2 ≤ 1000000000) :
  f68_p8_1 F x w v b.1 M s m i but L b.2 t = some (comb b (w + v, t)) ∧ f68_p8_2 F x w v b.1 M s m i but L b.2 t = some (comb b (w + v, t)) := by
 have e1 : w64 (w + v) = w + v := w64_in (by omega)
 have e2 : w64 (b.2 + t) = b.2 + t := w64_in (by omega)
 unfold f68_p8_1 f68_p8_2 f68_p9_1 f68_p9_2 comb
 rw [e1, e2]
 by_cases h1 : w + v > b.1
 ·rw [if_pos (by simpa using h1), if_pos h1]
  exact ⟨rfl, rfl⟩
 ·rw [if_neg (by simpa using h1), if_neg h1]
  by_cases h2 : w + v = b.1
  ·rw [if_pos (by simpa using h2), if_pos h2]
   exact ⟨rfl, rfl⟩
  ·rw [if_neg (by simpa using h2), if_neg h2]
   exact ⟨rfl, rfl⟩
def lotsF (m L : Nat) (free : Bool) (j : Nat) : List Int := if free then (((List.range m).drop j).filter fun l => L.testBit l).map (fun (l : Nat) => (l : Int)) else []
theorem lotsF_zero (m L : Nat) (free : Bool) : cand m L free = -1 :: lotsF m L free 0 := by unfold cand lotsF; rw [List.drop_zero]
theorem lotsF_step {m L j : Nat} {free : Bool} (h : j < m) : lotsF m L free j = if free && L.testBit j then (j : Int) :: lotsF m L free (j + 1) else lotsF m L free (j + 1) := by
 unfold lotsF
 cases free
 ·simp
 ·simp only [if_true, Bool.true_and]
  rw [show (List.range m).drop j = j :: (List.range m).drop (j + 1) by rw [List.drop_eq_getElem_cons (by simpa using h)]; simp]
  rw [List.filter_cons]
  split <;> simp
theorem lotsF_end {m L j : Nat} {free : Bool} (h : m ≤ j) : lotsF m L free j = [] := by
 unfold lotsF
 rw [List.drop_eq_nil_of_le (by simpa using h)]
 simp
abbrev gm (m : Nat) (but : Int) (rs : List (List Int)) (i L : Nat) (r : List Int) (x : Int) : Int × Int := ((mo m but rs (i + 1) (dx L x)).1 + vl r x, (mo m but rs (i + 1) (dx L x)).2)
theorem pow5 {k : Nat} (h : k ≤ 5) : (6 : Int) ^ k ≤ 7776 := by
 match k, h with
 | 0, _ => decide
 | 1, _ => decide
 | 2, _ => decide
 | 3, _ => decide
 | 4, _ => decide
 | 5, _ => decide
 | k + 6, h => omega
theorem f68_p3_eq {F m i L : Nat} {but : Int} {s : List (List Int)} (hm : m ≤ 5) (hn : s.length ≤ 5) (ho : Ok m s) (hL : L < 32) (hi : i < s.length)
  {rec : Int → Int → Int → Mm → List (List Int) → Int → Option (Int × Int × Mm)}
  (hrec : ∀ (L' : Nat) (M : Mm), L' < 32 → Good m s M → ∃ M', rec ((i + 1 : Nat) : Int) but (L' : Int) M s m = some ((mo m but (s.drop (i + 1)) (i + 1) L').1, (mo m but (s.drop (i + 1)) (i + 1) L').2, M') ∧ Good m s M') :
  ∀ (k j : Nat) (M : Mm) (b : Int × Int), m < k + j → Good m s M → 0 ≤ b.2 ∧ b.2 ≤ 10000 * (j + 1) → j ≤ m →
  ∃ M', f68_p3 F rec s m i but L k j M b.1 b.2 = some (M', ((lotsF m L (decide ((i : Int) ≠ but)) j).foldl (fun b x => comb b (gm m but (s.drop (i + 1)) i L s[i] x)) b)) ∧ Good m s M' := by
 have hr := ho _ (List.getElem_mem hi)
 have hrs : Ok m (s.drop (i + 1)) := fun r hr => ho r (List.mem_of_mem_drop hr)
 have hp := pow5 (k := (s.drop (i + 1)).length) (by simp; omega)
 have hlen : (s.drop (i + 1)).length ≤ 5 := by simp; omega
 intro k
 induction k with
 | zero => intro j M b h _ _ _; omega
 | succ k ih =>
  intro j M b h1 h2 h3 h4
  unfold f68_p3
  by_cases hj : j < m
  ·have e1 : w64 ((j : Int) + 1) = ((j + 1 : Nat) : Int) := w64_succ (by omega)
   rw [if_pos (by simp; omega), f71_eq hL (by omega), Option.bind_some, lotsF_step hj, e1]
   dsimp only
   by_cases ht : L.testBit j = true
   ·rw [ht, if_pos rfl, if_pos (by simp)]
    by_cases hb : (i : Int) = but
    ·rw [if_pos (by simpa using hb), decide_eq_false (by simpa using hb)]
     simp only [Bool.false_and, Bool.false_eq_true, if_false]
     have := ih (j + 1) M b (by omega) h2 (by omega) (by omega)
     rw [decide_eq_false (by simpa using hb)] at this
     exact this
    ·obtain ⟨h5, h6, h7, h8⟩ := look_L hL (show j < 5 by omega)
     obtain ⟨M1, g1, g2⟩ := hrec (dl L j) M h7 h2
     have bd := mo_bd (but := but) hm (s.drop (i + 1)) (i + 1) (dl L j) hrs
     have hv := vl_bd hr (j : Int)
     have edx : dx L (j : Int) = dl L j := by unfold dx; rw [if_neg (by omega), Int.toNat_natCast]
     rw [if_neg (by simpa using hb), decide_eq_true (by simpa using hb), w64_succ (by omega), g1, Option.bind_some]
     dsimp only
     rw [f72_eq ho hi ⟨by omega, by omega⟩, Option.bind_some]
     obtain ⟨c1, _⟩ := comb_eq (F := F) (x := (j : Int)) (v := vl s[i] j) (w := (mo m but (s.drop (i + 1)) (i + 1) (dl L j)).1) (t := (mo m but (s.drop (i + 1)) (i + 1) (dl L j)).2) (b := b) (M := M1) (s := s) (m := m) (i := i) (but := but) (L := L) ⟨by omega, by omega⟩ hv ⟨by omega, by omega⟩ ⟨by omega, by omega⟩
     rw [c1, Option.bind_some]
     simp only [Bool.true_and, if_true, List.foldl_cons]
     have hb2 : 0 ≤ (comb b ((mo m but (s.drop (i + 1)) (i + 1) (dl L j)).1 + vl s[i] j, (mo m but (s.drop (i + 1)) (i + 1) (dl L j)).2)).2 ∧ (comb b ((mo m but (s.drop (i + 1)) (i + 1) (dl L j)).1 + vl s[i] j, (mo m but (s.drop (i + 1)) (i + 1) (dl L j)).2)).2 ≤ 10000 * (((j + 1 : Nat) : Int) + 1) := by
      unfold comb
      dsimp only
      split
      ·dsimp only; omega
      ·split
       ·dsimp only; omega
       ·omega
     have := ih (j + 1) M1 (comb b ((mo m but (s.drop (i + 1)) (i + 1) (dl L j)).1 + vl s[i] j, (mo m but (s.drop (i + 1)) (i + 1) (dl L j)).2)) (by omega) g2 hb2 (by omega)
     rw [decide_eq_true (by simpa using hb)] at this
     rw [show gm m but (s.drop (i + 1)) i L s[i] (j : Int) = ((mo m but (s.drop (i + 1)) (i + 1) (dl L j)).1 + vl s[i] j, (mo m but (s.drop (i + 1)) (i + 1) (dl L j)).2) by unfold gm; rw [edx]]
     exact this
   ·have ht : L.testBit j = false := by simpa using ht
    rw [ht]
    simp only [Bool.and_false, Bool.false_eq_true, if_false]
    exact ih (j + 1) M b (by omega) h2 (by omega) (by omega)
  ·rw [if_neg (by simp; omega), lotsF_end (by omega)]
   exact ⟨M, rfl, h2⟩
theorem f68_eq {F m : Nat} {but : Int} {s : List (List Int)} (hF : 100 ≤ F) (hm : m ≤ 5) (hn : s.length ≤ 5) (ho : Ok m s) : ∀ (k i L : Nat) (M : Mm), i ≤ s.length → s.length < k + i → L < 32 → Good m s M →
  ∃ M', f68 F k i but L M s m = some ((mo m but (s.drop i) i L).1, (mo m but (s.drop i) i L).2, M') ∧ Good m s M' := by
 intro k
 induction k with
 | zero => intro i L M _ h; omega
 | succ k ih =>
  intro i L M h1 h2 h3 h4
  show ∃ M', f68_b F (f68 F k) i but L M s m = _ ∧ _
  unfold f68_b
  by_cases hi : i = s.length
  ·subst hi
   rw [if_pos (by simp), List.drop_length]
   exact ⟨M, rfl, h4⟩
  ·have hil : i < s.length := by omega
   rw [if_neg (by simp; omega)]
   cases hg : mget M ((i : Int), (but, ((L : Int), ()))) with
   | some v =>
    have := h4 i L but v h1 h3 hg
    subst this
    simp only [Option.isSome_some, if_true]
    exact ⟨M, rfl, h4⟩
   | none =>
    rw [if_neg (by simp)]
    have hr := ho _ (List.getElem_mem hil)
    have hrs : Ok m (s.drop (i + 1)) := fun r hr => ho r (List.mem_of_mem_drop hr)
    have hp := pow5 (k := (s.drop (i + 1)).length) (by simp; omega)
    have hlen : (s.drop (i + 1)).length ≤ 5 := by simp; omega
    have bd := mo_bd (but := but) hm (s.drop (i + 1)) (i + 1) L hrs
    have hrec : ∀ (L' : Nat) (M : Mm), L' < 32 → Good m s M → ∃ M', f68 F k ((i + 1 : Nat) : Int) but (L' : Int) M s m = some ((mo m but (s.drop (i + 1)) (i + 1) L').1, (mo m but (s.drop (i + 1)) (i + 1) L').2, M') ∧ Good m s M' :=
     fun L' M hL' hM => ih (i + 1) L' M (by omega) (by omega) hL' hM
    obtain ⟨M1, g1, g2⟩ := hrec L M h3 h4
    obtain ⟨_, c2⟩ := comb_eq (F := F) (x := (-1 : Int)) (v := vl s[i] (-1)) (w := (mo m but (s.drop (i + 1)) (i + 1) L).1) (t := (mo m but (s.drop (i + 1)) (i + 1) L).2) (b := ((-1 : Int), (0 : Int))) (M := M1) (s := s) (m := m) (i := i) (but := but) (L := L) ⟨by omega, by omega⟩ (vl_bd hr (-1)) ⟨by omega, by omega⟩ ⟨by decide, by decide⟩
    have hb2 : 0 ≤ (comb (-1, 0) ((mo m but (s.drop (i + 1)) (i + 1) L).1 + vl s[i] (-1), (mo m but (s.drop (i + 1)) (i + 1) L).2)).2 ∧ (comb (-1, 0) ((mo m but (s.drop (i + 1)) (i + 1) L).1 + vl s[i] (-1), (mo m but (s.drop (i + 1)) (i + 1) L).2)).2 ≤ 10000 * (((0 : Nat) : Int) + 1) := by
     unfold comb
     dsimp only
     split
     ·dsimp only; omega
     ·split
      ·dsimp only; omega
      ·dsimp only; omega
    obtain ⟨F', rfl⟩ : ∃ F', F = F' + 1 := ⟨F - 1, by omega⟩
    obtain ⟨M2, p1, p2⟩ := f68_p3_eq (F := F' + 1) (but := but) hm hn ho h3 hil hrec F' 0 M1 (comb (-1, 0) ((mo m but (s.drop (i + 1)) (i + 1) L).1 + vl s[i] (-1), (mo m but (s.drop (i + 1)) (i + 1) L).2)) (by omega) g2 hb2 (by omega)
    have hd : s.drop i = s[i] :: s.drop (i + 1) := drop_cons hil
    have emo : mo m but (s.drop i) i L = (lotsF m L (decide ((i : Int) ≠ but)) 0).foldl (fun b x => comb b (gm m but (s.drop (i + 1)) i L s[i] x)) (comb (-1, 0) ((mo m but (s.drop (i + 1)) (i + 1) L).1 + vl s[i] (-1), (mo m but (s.drop (i + 1)) (i + 1) L).2)) := by
     rw [hd]
     simp only [mo]
     rw [lotsF_zero, List.foldl_cons, show dx L (-1) = L from rfl]
    have e0 : f68_p3 (F' + 1) (f68 (F' + 1) k) s m i but L (F' + 1) (-1) M (-1) 0 = some (M2, mo m but (s.drop i) i L) := by
     unfold f68_p3
     by_cases hm0 : (-1 : Int) < m
     ·rw [if_pos (by simpa using hm0), f71_neg, Option.bind_some]
      dsimp only
      rw [if_pos rfl, if_neg (by decide), w64_succ (by omega), g1, Option.bind_some]
      dsimp only
      rw [f72_eq ho hil ⟨by omega, by omega⟩, Option.bind_some, c2, Option.bind_some, show w64 ((-1 : Int) + 1) = ((0 : Nat) : Int) by decide]
      rw [p1, emo]
     ·omega
    rw [e0, Option.bind_some]
    exact ⟨_, rfl, p2.set⟩
end
section
def ds (m : Nat) (but : Int) : Nat → Nat → Nat → List (List Int)
 | 0, _, _ => [[]]
 | k + 1, i, L => (cand m L (decide ((i : Int) ≠ but))).flatMap fun x => (ds m but k (i + 1) (dx L x)).map (x :: ·)
def wv : List (List Int) → List Int → Int
 | r :: rs, x :: xs => vl r x + wv rs xs
 | _, _ => 0
def mxc (ws : List Int) : Int × Int := ws.foldl (fun b w => comb b (w, 1)) (-1, 0)
theorem comb_assoc (a b c : Int × Int) : comb (comb a b) c = comb a (comb b c) := by
 obtain ⟨a1, a2⟩ := a
 obtain ⟨b1, b2⟩ := b
 obtain ⟨c1, c2⟩ := c
 unfold comb
 dsimp only
 by_cases h1 : b1 > a1
 ·rw [if_pos h1]
  by_cases h2 : c1 > b1
  ·simp only [if_pos h2]; rw [if_pos (by omega)]
  ·simp only [if_neg h2]
   by_cases h3 : c1 = b1
   ·simp only [if_pos h3]; rw [if_pos h1]
   ·simp only [if_neg h3]; rw [if_pos h1]
 ·rw [if_neg h1]
  by_cases h4 : b1 = a1
  ·subst h4
   simp only [if_true]
   by_cases h2 : c1 > b1
   ·simp only [if_pos h2]
   ·simp only [if_neg h2]
    by_cases h3 : c1 = b1
    ·simp only [if_pos h3]; rw [if_neg (by omega), if_pos trivial, Int.add_assoc]
    ·simp only [if_neg h3]; rw [if_neg (by omega), if_pos trivial]
  ·simp only [if_neg h4]
   by_cases h2 : c1 > b1
   ·simp only [if_pos h2]
   ·simp only [if_neg h2]
    by_cases h3 : c1 = b1
    ·simp only [if_pos h3]; rw [if_neg (by omega), if_neg (by omega), if_neg h1, if_neg h4]
    ·simp only [if_neg h3]; rw [if_neg (by omega), if_neg (by omega), if_neg h1, if_neg h4]
theorem comb_none {b : Int × Int} (h : -1 ≤ b.1) : comb b (-1, 0) = b := by
 unfold comb
 rw [if_neg (by dsimp only; omega)]
 split
 ·obtain ⟨b1, b2⟩ := b; simp
 ·rfl
theorem comb_first {w c : Int} (h : 0 ≤ w) : comb (-1, 0) (w, c) = (w, c) := by
 unfold comb; rw [if_pos (by dsimp only; omega)]
theorem comb_ge {b a : Int × Int} : b.1 ≤ (comb b a).1 ∧ a.1 ≤ (comb b a).1 := by
 unfold comb
 by_cases h1 : a.1 > b.1
 ·rw [if_pos h1]; omega
 ·rw [if_neg h1]
  by_cases h2 : a.1 = b.1
  ·rw [if_pos h2]; dsimp only; omega
  ·rw [if_neg h2]; omega
theorem fold_mxc : ∀ (ws : List Int) (b : Int × Int), (∀ w ∈ ws, 0 ≤ w) → -1 ≤ b.1 → ws.foldl (fun b w => comb b (w, 1)) b = comb b (mxc ws) := by
 intro ws
 induction ws with
 | nil => intro b _ h; exact (comb_none h).symm
 | cons w ws ih =>
  intro b h hb
  have hw := h w (by simp)
  have hws : ∀ w ∈ ws, 0 ≤ w := fun x hx => h x (by simp [hx])
  have e : mxc (w :: ws) = comb (w, 1) (mxc ws) := by
   unfold mxc
   rw [List.foldl_cons, comb_first hw]
   exact ih (w, 1) hws (by dsimp only; omega)
  rw [List.foldl_cons, e, ← comb_assoc]
  exact ih _ hws (by have := (comb_ge (b := b) (a := (w, 1))).1; omega)
theorem mxc_cons {w : Int} {ws : List Int} (hw : 0 ≤ w) (h : ∀ w ∈ ws, 0 ≤ w) : mxc (w :: ws) = comb (w, 1) (mxc ws) := by
 unfold mxc
 rw [List.foldl_cons, comb_first hw]
 exact fold_mxc ws (w, 1) h (by dsimp only; omega)
theorem mxc_append {as bs : List Int} (ha : ∀ w ∈ as, 0 ≤ w) (hb : ∀ w ∈ bs, 0 ≤ w) : mxc (as ++ bs) = comb (mxc as) (mxc bs) := by
 unfold mxc
 rw [List.foldl_append]
 refine fold_mxc bs _ hb ?_
 have := fold_mxc as (-1, 0) ha (by decide)
 rw [this]
 have := (comb_ge (b := ((-1 : Int), (0 : Int))) (a := mxc as)).1
 omega
theorem mxc_map {v : Int} (hv : 0 ≤ v) : ∀ (ws : List Int), (∀ w ∈ ws, 0 ≤ w) → ws ≠ [] → mxc (ws.map (v + ·)) = ((mxc ws).1 + v, (mxc ws).2) := by
 have key : ∀ (ws : List Int) (b : Int × Int), (ws.map (v + ·)).foldl (fun b w => comb b (w, 1)) (b.1 + v, b.2) = ((ws.foldl (fun b w => comb b (w, 1)) b).1 + v, (ws.foldl (fun b w => comb b (w, 1)) b).2) := by
  intro ws
  induction ws with
  | nil => intro b; rfl
  | cons w ws ih =>
   intro b
   rw [List.map_cons, List.foldl_cons, List.foldl_cons, ← ih]
   congr 1
   unfold comb
   dsimp only
   by_cases h1 : w > b.1
   ·rw [if_pos (by omega), if_pos h1]; simp [Int.add_comm]
   ·rw [if_neg (by omega), if_neg h1]
    by_cases h2 : w = b.1
    ·rw [if_pos (by omega), if_pos h2]
    ·rw [if_neg (by omega), if_neg h2]
 intro ws h hne
 cases ws with
 | nil => exact absurd rfl hne
 | cons w ws =>
  have hw := h w (by simp)
  unfold mxc
  rw [List.map_cons, List.foldl_cons, List.foldl_cons, comb_first hw, comb_first (by omega), ← key ws (w, 1), Int.add_comm]
theorem mxc_max : ∀ (ws : List Int), (∀ w ∈ ws, 0 ≤ w) → (∀ w ∈ ws, w ≤ (mxc ws).1) ∧ (ws ≠ [] → (mxc ws).1 ∈ ws) ∧ (mxc ws).2 = ((ws.filter fun w => decide (w = (mxc ws).1)).length : Nat) := by
 intro ws
 induction ws with
 | nil => intro _; exact ⟨by simp, by simp, rfl⟩
 | cons w ws ih =>
  intro h
  have hw := h w (by simp)
  have hws : ∀ w ∈ ws, 0 ≤ w := fun x hx => h x (by simp [hx])
  obtain ⟨i1, i2, i3⟩ := ih hws
  have e := mxc_cons hw hws
  rw [e]
  unfold comb
  dsimp only
  by_cases h1 : (mxc ws).1 > w
  ·rw [if_pos h1]
   refine ⟨fun x hx => ?_, fun _ => ?_, ?_⟩
   ·rcases List.mem_cons.1 hx with rfl | hx
    ·omega
    ·exact i1 x hx
   ·refine List.mem_cons_of_mem _ (i2 fun e => ?_)
    rw [e] at h1
    have : (mxc ([] : List Int)).1 = -1 := rfl
    omega
   ·rw [List.filter_cons, if_neg (by simp; omega)]; exact i3
  ·rw [if_neg h1]
   by_cases h2 : (mxc ws).1 = w
   ·rw [if_pos h2]
    refine ⟨fun x hx => ?_, fun _ => by simp, ?_⟩
    ·rcases List.mem_cons.1 hx with rfl | hx
     ·exact Int.le_refl _
     ·have := i1 x hx; omega
    ·dsimp only
     rw [List.filter_cons, if_pos (by simp), List.length_cons, i3, h2]
     omega
   ·rw [if_neg h2]
    refine ⟨fun x hx => ?_, fun _ => by simp, ?_⟩
    ·rcases List.mem_cons.1 hx with rfl | hx
     ·exact Int.le_refl _
     ·have := i1 x hx; omega
    ·dsimp only
     rw [List.filter_cons, if_pos (by simp), List.length_cons, List.filter_eq_nil_iff.2 (fun x hx => by have := i1 x hx; simp; omega)]
     rfl
theorem wv_nn {m : Nat} : ∀ (rows : List (List Int)) (l : List Int), Ok m rows → 0 ≤ wv rows l
 | [], _, _ => Int.le_refl 0
 | _ :: _, [], _ => Int.le_refl 0
 | r :: rs, x :: xs, h => by
  have := vl_bd (h r (by simp)) x
  have := wv_nn rs xs (fun y hy => h y (by simp [hy]))
  rw [wv]; omega
theorem ds_ne {m : Nat} {but : Int} : ∀ (k i L : Nat), ds m but k i L ≠ []
 | 0, _, _ => by simp [ds]
 | k + 1, i, L => by
  intro h
  rw [ds, lotsF_zero, List.flatMap_cons] at h
  have := ds_ne (m := m) (but := but) k (i + 1) (dx L (-1))
  simp at h
  exact this h.1
theorem mo_ds {m : Nat} (but : Int) : ∀ (rows : List (List Int)) (i L : Nat), Ok m rows → mo m but rows i L = mxc ((ds m but rows.length i L).map (wv rows)) := by
 intro rows
 induction rows with
 | nil => intro i L _; rfl
 | cons r rs ih =>
  intro i L h
  have hr := h r (by simp)
  have hrs : Ok m rs := fun x hx => h x (by simp [hx])
  have part : ∀ x : Int, ((mo m but rs (i + 1) (dx L x)).1 + vl r x, (mo m but rs (i + 1) (dx L x)).2) = mxc ((((ds m but rs.length (i + 1) (dx L x)).map (x :: ·))).map (wv (r :: rs))) := by
   intro x
   have := mxc_map (vl_bd hr x).1 ((ds m but rs.length (i + 1) (dx L x)).map (wv rs)) (fun w hw => by obtain ⟨t, _, rfl⟩ := List.mem_map.1 hw; exact wv_nn rs t hrs) (by simp [ds_ne])
   rw [← ih (i + 1) (dx L x) hrs] at this
   rw [← this, List.map_map, List.map_map]
   rfl
  simp only [mo, List.length_cons, ds]
  generalize cand m L (decide ((i : Int) ≠ but)) = xs
  have nn : ∀ ys : List Int, ∀ w ∈ (ys.flatMap fun x => (ds m but rs.length (i + 1) (dx L x)).map (x :: ·)).map (wv (r :: rs)), 0 ≤ w := fun ys w hw => by
   obtain ⟨t, _, rfl⟩ := List.mem_map.1 hw
   exact wv_nn _ _ h
  have main : ∀ (ys : List Int) (b : Int × Int), -1 ≤ b.1 → ys.foldl (fun b x => comb b ((mo m but rs (i + 1) (dx L x)).1 + vl r x, (mo m but rs (i + 1) (dx L x)).2)) b = comb b (mxc ((ys.flatMap fun x => (ds m but rs.length (i + 1) (dx L x)).map (x :: ·)).map (wv (r :: rs)))) := by
   intro ys
   induction ys with
   | nil => intro b hb; exact (comb_none hb).symm
   | cons y ys ihy =>
    intro b hb
    rw [List.foldl_cons, ihy _ (by have := (comb_ge (b := b) (a := ((mo m but rs (i + 1) (dx L y)).1 + vl r y, (mo m but rs (i + 1) (dx L y)).2))).1; omega), List.flatMap_cons, List.map_append, mxc_append (fun w hw => ?_) (nn ys), part y, comb_assoc]
    obtain ⟨t, _, rfl⟩ := List.mem_map.1 hw
    exact wv_nn _ _ h
  rw [main xs (-1, 0) (by decide)]
  have e : ∀ ws : List Int, (∀ w ∈ ws, 0 ≤ w) → comb (-1, 0) (mxc ws) = mxc ws := fun ws hws => (fold_mxc ws (-1, 0) hws (by decide)).symm
  exact e _ (nn xs)
def bst (m : Nat) : List (List Int) → Nat → Nat → List Int
 | [], _, _ => []
 | r :: rs, i, L => match (cand m L true).find? (fun x => decide ((mo m (-1) rs (i + 1) (dx L x)).1 + vl r x = (mo m (-1) (r :: rs) i L).1)) with
  | some x => x :: bst m rs (i + 1) (dx L x)
  | none => []
theorem mo_step {m : Nat} {r : List Int} {rs : List (List Int)} {i L : Nat} (h : Ok m (r :: rs)) : (∀ x ∈ cand m L true, (mo m (-1) rs (i + 1) (dx L x)).1 + vl r x ≤ (mo m (-1) (r :: rs) i L).1) ∧ ∃ x ∈ cand m L true, (mo m (-1) rs (i + 1) (dx L x)).1 + vl r x = (mo m (-1) (r :: rs) i L).1 := by
 have hi : decide ((i : Int) ≠ -1) = true := by simp <;> omega
 have hrs : Ok m rs := fun x hx => h x (by simp [hx])
 simp only [mo, hi]
 have hg : ∀ x : Int, 0 ≤ (mo m (-1) rs (i + 1) (dx L x)).1 + vl r x := fun x => by
  have := vl_bd (h r (by simp)) x
  have e := mo_ds (-1) rs (i + 1) (dx L x) hrs
  obtain ⟨_, q2, _⟩ := mxc_max ((ds m (-1) rs.length (i + 1) (dx L x)).map (wv rs)) (fun w hw => by obtain ⟨t, _, rfl⟩ := List.mem_map.1 hw; exact wv_nn rs t hrs)
  have := q2 (by simp [ds_ne])
  obtain ⟨t, _, ht⟩ := List.mem_map.1 this
  have := wv_nn (m := m) rs t hrs
  rw [e]; omega
 have main : ∀ (ys : List Int) (b : Int × Int), b.1 ≤ (ys.foldl (fun b x => comb b ((mo m (-1) rs (i + 1) (dx L x)).1 + vl r x, (mo m (-1) rs (i + 1) (dx L x)).2)) b).1 ∧
   (∀ x ∈ ys, (mo m (-1) rs (i + 1) (dx L x)).1 + vl r x ≤ (ys.foldl (fun b x => comb b ((mo m (-1) rs (i + 1) (dx L x)).1 + vl r x, (mo m (-1) rs (i + 1) (dx L x)).2)) b).1) ∧
   ((ys.foldl (fun b x => comb b ((mo m (-1) rs (i + 1) (dx L x)).1 + vl r x, (mo m (-1) rs (i + 1) (dx L x)).2)) b).1 = b.1 ∨ ∃ x ∈ ys, (mo m (-1) rs (i + 1) (dx L x)).1 + vl r x = (ys.foldl (fun b x => comb b ((mo m (-1) rs (i + 1) (dx L x)).1 + vl r x, (mo m (-1) rs (i + 1) (dx L x)).2)) b).1) := by
  intro ys
  induction ys with
  | nil => intro b; exact ⟨Int.le_refl _, by simp, .inl rfl⟩
  | cons y ys ih =>
   intro b
   obtain ⟨i1, i2, i3⟩ := ih (comb b ((mo m (-1) rs (i + 1) (dx L y)).1 + vl r y, (mo m (-1) rs (i + 1) (dx L y)).2))
   have hc := comb_ge (b := b) (a := ((mo m (-1) rs (i + 1) (dx L y)).1 + vl r y, (mo m (-1) rs (i + 1) (dx L y)).2))
   dsimp only at hc
   rw [List.foldl_cons]
   refine ⟨by omega, fun x hx => ?_, ?_⟩
   ·rcases List.mem_cons.1 hx with rfl | hx
    ·omega
    ·exact i2 x hx
   ·rcases i3 with i3 | ⟨x, hx, i3⟩
    ·have : (comb b ((mo m (-1) rs (i + 1) (dx L y)).1 + vl r y, (mo m (-1) rs (i + 1) (dx L y)).2)).1 = b.1 ∨ (comb b ((mo m (-1) rs (i + 1) (dx L y)).1 + vl r y, (mo m (-1) rs (i + 1) (dx L y)).2)).1 = (mo m (-1) rs (i + 1) (dx L y)).1 + vl r y := by
      unfold comb
      split
      ·exact .inr rfl
      ·split
       ·exact .inl rfl
       ·exact .inl rfl
     rcases this with e | e
     ·exact .inl (by omega)
     ·exact .inr ⟨y, by simp, by omega⟩
    ·exact .inr ⟨x, by simp [hx], i3⟩
 obtain ⟨_, m2, m3⟩ := main (cand m L true) (-1, 0)
 refine ⟨m2, ?_⟩
 rcases m3 with e | e
 ·have h1 := m2 (-1) (by simp [cand])
  have h2 := hg (-1)
  dsimp only at e
  omega
 ·exact e
theorem find_flat {α β : Type} {p : β → Bool} {g : α → List β} : ∀ (xs : List α), (xs.flatMap g).find? p = xs.findSome? fun x => (g x).find? p
 | [] => rfl
 | x :: xs => by
  rw [List.flatMap_cons, List.find?_append, find_flat xs, List.findSome?_cons]
  cases (g x).find? p <;> rfl
theorem bst_find {m : Nat} : ∀ (rows : List (List Int)) (i L : Nat), Ok m rows → (ds m (-1) rows.length i L).find? (fun l => decide (wv rows l = (mo m (-1) rows i L).1)) = some (bst m rows i L) := by
 intro rows
 induction rows with
 | nil => intro i L _; rfl
 | cons r rs ih =>
  intro i L h
  have hi : decide ((i : Int) ≠ -1) = true := by simp <;> omega
  have hrs : Ok m rs := fun x hx => h x (by simp [hx])
  obtain ⟨s1, x0, hx0, s2⟩ := mo_step (i := i) (L := L) h
  have part : ∀ x ∈ cand m L true, ((ds m (-1) rs.length (i + 1) (dx L x)).map (x :: ·)).find? (fun l => decide (wv (r :: rs) l = (mo m (-1) (r :: rs) i L).1)) =
    if (mo m (-1) rs (i + 1) (dx L x)).1 + vl r x = (mo m (-1) (r :: rs) i L).1 then some (x :: bst m rs (i + 1) (dx L x)) else none := by
   intro x hx
   rw [List.find?_map]
   have hle := s1 x hx
   by_cases he : (mo m (-1) rs (i + 1) (dx L x)).1 + vl r x = (mo m (-1) (r :: rs) i L).1
   ·rw [if_pos he, ← he]
    have e : ((fun l => decide (wv (r :: rs) l = (mo m (-1) rs (i + 1) (dx L x)).1 + vl r x)) ∘ (x :: ·)) = fun l => decide (wv rs l = (mo m (-1) rs (i + 1) (dx L x)).1) := by
     funext l
     show decide (vl r x + wv rs l = _) = _
     exact decide_eq_decide.2 ⟨fun h => by omega, fun h => by omega⟩
    rw [e, ih (i + 1) (dx L x) hrs]
    rfl
   ·rw [if_neg he]
    rw [List.find?_eq_none.2]
    ·rfl
    ·intro t ht
     have emo := mo_ds (-1) rs (i + 1) (dx L x) hrs
     obtain ⟨q1, _⟩ := mxc_max ((ds m (-1) rs.length (i + 1) (dx L x)).map (wv rs)) (fun w hw => by obtain ⟨t, _, rfl⟩ := List.mem_map.1 hw; exact wv_nn rs t hrs)
     have := q1 (wv rs t) (List.mem_map.2 ⟨t, ht, rfl⟩)
     rw [← emo] at this
     show ¬ decide (vl r x + wv rs t = _) = true
     simp
     omega
  have main : ∀ ys : List Int, (∀ y ∈ ys, y ∈ cand m L true) → (∃ y ∈ ys, (mo m (-1) rs (i + 1) (dx L y)).1 + vl r y = (mo m (-1) (r :: rs) i L).1) →
    (ys.findSome? fun x => ((ds m (-1) rs.length (i + 1) (dx L x)).map (x :: ·)).find? (fun l => decide (wv (r :: rs) l = (mo m (-1) (r :: rs) i L).1))) =
    (match ys.find? (fun x => decide ((mo m (-1) rs (i + 1) (dx L x)).1 + vl r x = (mo m (-1) (r :: rs) i L).1)) with | some x => some (x :: bst m rs (i + 1) (dx L x)) | none => some []) := by
   intro ys
   induction ys with
   | nil => intro _ h; obtain ⟨y, hy, _⟩ := h; cases hy
   | cons y ys ihy =>
    intro h1 h2
    rw [List.findSome?_cons, part y (h1 y (by simp)), List.find?_cons]
    by_cases he : (mo m (-1) rs (i + 1) (dx L y)).1 + vl r y = (mo m (-1) (r :: rs) i L).1
    ·rw [if_pos he, decide_eq_true he]
    ·rw [if_neg he, decide_eq_false he]
     refine ihy (fun z hz => h1 z (by simp [hz])) ?_
     obtain ⟨z, hz, h3⟩ := h2
     rcases List.mem_cons.1 hz with rfl | hz
     ·exact absurd h3 he
     ·exact ⟨z, hz, h3⟩
  simp only [List.length_cons, ds, hi]
  rw [find_flat, main _ (fun y hy => hy) ⟨x0, hx0, s2⟩]
  rw [bst]
  cases hf : (cand m L true).find? (fun x => decide ((mo m (-1) rs (i + 1) (dx L x)).1 + vl r x = (mo m (-1) (r :: rs) i L).1)) <;> rfl
end
section
def badW (x : Int) : Bool := !decide (0 ≤ x ∧ x ≤ 99)
def rowE (m : Int) (l : List Int) : Int := if (l.length : Int) ≠ m then 5 else if l.any badW = true then 1 else 0
def rowsE (m : Int) : List (List Int) → Int
 | [] => 0
 | r :: rs => if rowE m r ≠ 0 then rowE m r else rowsE m rs
def ckS (s : List (List Int)) : Int := if s.length = 0 then 4 else if s.length > 5 then 3 else if (s[0]?.getD []).length > 5 then 3 else rowsE (s[0]?.getD []).length s
theorem f70_eq {F : Nat} {a x b : Int} : f70 F a x b = some (decide (a ≤ x ∧ x ≤ b)) := by
 unfold f70
 by_cases h : a ≤ x <;> simp [h]
theorem f102_eq {F : Nat} {x : Int} : f102 F x = some (badW x) := by
 unfold f102 badW; rw [f70_eq, Option.bind_some]
theorem f107_p1_eq {F : Nat} {l : List Int} (hl : l.length ≤ 5000) : ∀ (k i : Nat), i ≤ l.length → l.length < k + i → ((l.drop i).any badW = true ∧ ∃ j : Nat, f107_p1 F l k i = some (.c0 j)) ∨ ((l.drop i).any badW = false ∧ f107_p1 F l k i = some .c1) := by
 intro k
 induction k with
 | zero => intro i _ h; omega
 | succ k ih =>
  intro i h1 h2
  unfold f107_p1
  by_cases hi : i < l.length
  ·rw [if_pos (by simp; omega), at_get hi, Option.bind_some, f102_eq, Option.bind_some, drop_cons hi, List.any_cons]
   cases hb : badW l[i]
   ·rw [if_neg (by simp), w64_succ (by omega), Bool.false_or]
    exact ih (i + 1) (by omega) (by omega)
   ·rw [if_pos rfl]
    exact .inl ⟨by simp, i, rfl⟩
  ·rw [if_neg (by simp; omega), List.drop_eq_nil_of_le (by omega)]
   exact .inr ⟨rfl, rfl⟩
theorem f101_eq {F : Nat} {l : List Int} (hl : l.length < F) (hF : F ≤ 5000 ∨ l.length ≤ 5000) : f101 F l = some (l.any badW) := by
 unfold f101 f107
 rcases f107_p1_eq (F := F) (l := l) (by omega) F 0 (by omega) (by omega) with ⟨h1, j, h2⟩ | ⟨h1, h2⟩
 ·rw [List.drop_zero] at h1
  rw [show f107_p1 F l F 0 = _ from h2, h1, Option.bind_some, Option.bind_some]; simp
 ·rw [List.drop_zero] at h1
  rw [show f107_p1 F l F 0 = _ from h2, h1, Option.bind_some, Option.bind_some]; simp
theorem f76_eq {F m : Nat} (hF : 100 ≤ F) (hm : m ≤ 50) {l : List Int} : f76 F l m = some (rowE m l) := by
 unfold f76 rowE
 by_cases h : (l.length : Int) = m
 ·rw [if_neg (by simpa using h), if_neg (by simpa using h), f101_eq (by omega) (by omega), Option.bind_some]
  split <;> rfl
 ·rw [if_pos (by simpa using h), if_pos h]
theorem f24_p4_eq {F : Nat} {s : List (List Int)} (hF : 100 ≤ F) (hs : s.length ≤ 5) (h0 : 0 < s.length) (hm : (s[0]?.getD []).length ≤ 5) : ∀ (k i : Nat), i ≤ s.length → s.length < k + i →
  f24_p4 F s k i = some (if rowsE (s[0]?.getD []).length (s.drop i) ≠ 0 then .c0 (rowsE (s[0]?.getD []).length (s.drop i)) else .c1) := by
 have e0 : at? s 0 = some (s[0]?.getD []) := by rw [List.getElem?_eq_getElem h0]; exact at_get h0
 intro k
 induction k with
 | zero => intro i _ h; omega
 | succ k ih =>
  intro i h1 h2
  unfold f24_p4
  by_cases hi : i < s.length
  ·rw [if_pos (by simp; omega), at_get hi, Option.bind_some, e0, Option.bind_some, f76_eq hF (by omega), Option.bind_some, drop_cons hi, rowsE]
   by_cases hr : rowE (s[0]?.getD []).length s[i] ≠ 0
   ·rw [if_pos (by simpa using hr), if_pos hr, if_pos hr]
   ·rw [if_neg (by simpa using hr), if_neg hr, w64_succ (by omega)]
    exact ih (i + 1) (by omega) (by omega)
  ·rw [if_neg (by simp; omega), List.drop_eq_nil_of_le (by omega)]
   rfl
theorem f24_eq {F : Nat} (hF : 100 ≤ F) (s : List (List Int)) : f24 F s = some (ckS s) := by
 unfold f24 ckS
 by_cases h1 : s.length = 0
 ·rw [if_pos (by simp [h1]), if_pos h1]
 ·rw [if_neg (by simp; intro h; simp [h] at h1), if_neg h1]
  by_cases h2 : s.length > 5
  ·rw [if_pos (by simp; omega), if_pos h2]
  ·have e0 : at? s 0 = some (s[0]?.getD []) := by rw [List.getElem?_eq_getElem (Nat.pos_of_ne_zero h1)]; exact at_get (Nat.pos_of_ne_zero h1)
   rw [if_neg (by simp; omega), if_neg h2, e0, Option.bind_some]
   by_cases h3 : (s[0]?.getD []).length > 5
   ·rw [if_pos (by simp; omega), if_pos h3]
   ·rw [if_neg (by simp; omega), if_neg h3]
    have e := f24_p4_eq hF (s := s) (by omega) (Nat.pos_of_ne_zero h1) (by omega) F 0 (Nat.zero_le _) (by omega)
    rw [show f24_p4 F s F 0 = _ from e, Option.bind_some, List.drop_zero]
    by_cases hr : rowsE (s[0]?.getD []).length s = 0
    ·rw [if_neg (by simpa using hr), hr]
    ·rw [if_pos hr]
structure Vs (m : Nat) (s : List (List Int)) : Prop where
 ok : Ok m s
 n : 0 < s.length ∧ s.length ≤ 5
 m5 : m ≤ 5
theorem rowsE_ok {m : Nat} : ∀ (s : List (List Int)), rowsE m s = 0 ↔ Ok m s := by
 intro s
 induction s with
 | nil => exact ⟨fun _ r hr => (by cases hr), fun _ => rfl⟩
 | cons r rs ih =>
  have hr : rowE m r = 0 ↔ r.length = m ∧ ∀ x ∈ r, 0 ≤ x ∧ x ≤ 99 := by
   unfold rowE
   by_cases h1 : (r.length : Int) = m
   ·rw [if_neg (by simpa using h1)]
    by_cases h2 : r.any badW = true
    ·rw [if_pos h2]
     refine ⟨fun h => (by cases h), fun h => ?_⟩
     obtain ⟨x, hx, hb⟩ := List.any_eq_true.1 h2
     have := h.2 x hx
     simp [badW] at hb
     omega
    ·rw [if_neg h2]
     refine ⟨fun _ => ⟨by omega, fun x hx => ?_⟩, fun _ => rfl⟩
     have : badW x = false := by
      cases hb : badW x
      ·rfl
      ·exact absurd (List.any_eq_true.2 ⟨x, hx, hb⟩) h2
     simp [badW] at this
     exact this
   ·rw [if_pos h1]
    exact ⟨fun h => (by cases h), fun h => absurd (by omega) h1⟩
  rw [rowsE]
  by_cases h : rowE m r = 0
  ·rw [if_neg (by simpa using h), ih]
   refine ⟨fun k x hx => ?_, fun k x hx => k x (by simp [hx])⟩
   rcases List.mem_cons.1 hx with rfl | hx
   ·exact hr.1 h
   ·exact k x hx
  ·rw [if_pos h]
   exact ⟨fun k => absurd k h, fun k => absurd (hr.2 (k r (by simp))) h⟩
theorem ckS_ok {s : List (List Int)} (h : ckS s = 0) : Vs (s[0]?.getD []).length s := by
 unfold ckS at h
 split at h
 ·cases h
 ·split at h
  ·cases h
  ·split at h
   ·cases h
   ·exact ⟨(rowsE_ok s).1 h, by omega, by omega⟩
theorem Vs.head {m : Nat} {s : List (List Int)} (h : Vs m s) : (s[0]?.getD []).length = m := by
 rw [List.getElem?_eq_getElem h.n.1]
 exact (h.ok _ (List.getElem_mem h.n.1)).1
theorem Vs.ck {m : Nat} {s : List (List Int)} (h : Vs m s) : ckS s = 0 := by
 have := h.n
 have := h.m5
 unfold ckS
 rw [h.head, if_neg (by omega), if_neg (by omega), if_neg (by omega)]
 exact (rowsE_ok s).2 h.ok
theorem Vs.at0 {m : Nat} {s : List (List Int)} (h : Vs m s) : ∃ r, at? s 0 = some r ∧ r.length = m := by
 have h0 := h.n.1
 exact ⟨s[0], at_get h0, (h.ok _ (List.getElem_mem h0)).1⟩
theorem f65_eq {F : Nat} (hF : 100 ≤ F) (s : List (List Int)) : f65 F s = some (if ckS s ≠ 0 then .c0 (ckS s) else .c1 0 [] s ((s[0]?.getD []).length : Nat)) := by
 unfold f65
 rw [f24_eq hF, Option.bind_some]
 by_cases h : ckS s = 0
 ·have hv := ckS_ok h
  have e0 : at? s 0 = some (s[0]?.getD []) := by rw [List.getElem?_eq_getElem hv.n.1]; exact at_get hv.n.1
  rw [if_neg (by simp [h]), if_neg (by simpa using h), e0, Option.bind_some]
 ·rw [if_pos (by simpa using h), if_pos h]
theorem f66_p5_eq {F m i L : Nat} {s : List (List Int)} (hF : 100 ≤ F) (hv : Vs m s) (hL : L < 32) (hi : i < s.length) : ∀ (k j : Nat) (M : Mm) (out : List Int) (x : Int), m < k + j → j ≤ m → Good m s M → out.length ≤ 100 →
  (lotsF m L true j).find? (fun x => decide ((mo m (-1) (s.drop (i + 1)) (i + 1) (dx L x)).1 + vl s[i] x = (mo m (-1) (s.drop i) i L).1)) = some x →
  ∃ M', f66_p5_2 F i s m k L j M out = some (((dx L x : Nat) : Int), M', out ++ [x]) ∧ Good m s M' ∧ dx L x < 32 := by
 have hm := hv.m5
 have hn := hv.n
 have hr := hv.ok _ (List.getElem_mem hi)
 intro k
 induction k with
 | zero => intro j M out x h _ _ _ _; omega
 | succ k ih =>
  intro j M out x h1 h2 h3 h4 h5
  by_cases hj : j < m
  ·obtain ⟨a1, a2, a3, a4⟩ := look_L hL (show j < 5 by omega)
   have e1 : w64 ((j : Int) + 1) = ((j + 1 : Nat) : Int) := w64_succ (by omega)
   rw [lotsF_step hj] at h5
   unfold f66_p5_2
   rw [if_pos (by simp; omega), f71_eq hL (by omega), Option.bind_some, e1]
   dsimp only
   by_cases ht : L.testBit j = true
   ·have edx : dx L (j : Int) = dl L j := by unfold dx; rw [if_neg (by omega), Int.toNat_natCast]
    obtain ⟨M1, b1, b2⟩ := f68_eq (but := -1) hF hm hn.2 hv.ok F (i + 1) (dl L j) M (by omega) (by omega) a3 h3
    obtain ⟨M2, c1, c2⟩ := f68_eq (but := -1) hF hm hn.2 hv.ok F i L M1 (by omega) (by omega) hL b2
    have bd := mo_bd (but := -1) hm (s.drop (i + 1)) (i + 1) (dl L j) (fun r hr => hv.ok r (List.mem_of_mem_drop hr))
    have hlen : (s.drop (i + 1)).length ≤ 5 := by simp; omega
    have hvl := vl_bd hr (j : Int)
    rw [ht, if_pos rfl, w64_succ (by omega), b1, Option.bind_some]
    dsimp only
    rw [f72_eq hv.ok hi ⟨by omega, by omega⟩, Option.bind_some, c1, Option.bind_some]
    dsimp only
    rw [w64_in (by omega)]
    rw [ht, Bool.true_and, if_pos rfl, List.find?_cons, edx] at h5
    by_cases he : (mo m (-1) (s.drop (i + 1)) (i + 1) (dl L j)).1 + vl s[i] j = (mo m (-1) (s.drop i) i L).1
    ·rw [decide_eq_true he] at h5
     have h5 : (j : Int) = x := by simpa using h5
     subst h5
     rw [if_pos (by simpa using he), req_pos (by simp; omega), edx]
     exact ⟨M2, rfl, c2, a3⟩
    ·rw [decide_eq_false he] at h5
     rw [if_neg (by simpa using he)]
     exact ih (j + 1) M2 out x (by omega) (by omega) c2 h4 h5
   ·have ht : L.testBit j = false := by simpa using ht
    rw [ht]
    rw [ht, Bool.and_false, if_neg (by simp)] at h5
    simp only [Bool.false_eq_true, if_false]
    exact ih (j + 1) M out x (by omega) (by omega) h3 h4 h5
  ·rw [lotsF_end (by omega)] at h5
   cases h5
theorem f66_p5_all {F m i L : Nat} {s : List (List Int)} (hF : 100 ≤ F) (hv : Vs m s) (hL : L < 32) (hi : i < s.length) {M : Mm} {out : List Int} {x : Int} (h3 : Good m s M) (h4 : out.length ≤ 100)
  (h5 : (cand m L true).find? (fun x => decide ((mo m (-1) (s.drop (i + 1)) (i + 1) (dx L x)).1 + vl s[i] x = (mo m (-1) (s.drop i) i L).1)) = some x) :
  ∃ M', f66_p5_2 F i s m F L (-1) M out = some (((dx L x : Nat) : Int), M', out ++ [x]) ∧ Good m s M' ∧ dx L x < 32 := by
 have hm := hv.m5
 have hn := hv.n
 have hr := hv.ok _ (List.getElem_mem hi)
 obtain ⟨F', rfl⟩ : ∃ F', F = F' + 1 := ⟨F - 1, by omega⟩
 obtain ⟨M1, b1, b2⟩ := f68_eq (but := -1) hF hm hn.2 hv.ok (F' + 1) (i + 1) L M (by omega) (by omega) hL h3
 obtain ⟨M2, c1, c2⟩ := f68_eq (but := -1) hF hm hn.2 hv.ok (F' + 1) i L M1 (by omega) (by omega) hL b2
 have bd := mo_bd (but := -1) hm (s.drop (i + 1)) (i + 1) L (fun r hr => hv.ok r (List.mem_of_mem_drop hr))
 have hlen : (s.drop (i + 1)).length ≤ 5 := by simp; omega
 have hvl := vl_bd hr (-1)
 rw [lotsF_zero, List.find?_cons] at h5
 unfold f66_p5_2
 rw [if_pos (by simp; omega), f71_neg, Option.bind_some]
 dsimp only
 rw [if_pos rfl, w64_succ (by omega), b1, Option.bind_some]
 dsimp only
 rw [f72_eq hv.ok hi ⟨by omega, by omega⟩, Option.bind_some, c1, Option.bind_some]
 dsimp only
 rw [w64_in (by omega)]
 rw [show dx L (-1) = L from rfl] at h5
 by_cases he : (mo m (-1) (s.drop (i + 1)) (i + 1) L).1 + vl s[i] (-1) = (mo m (-1) (s.drop i) i L).1
 ·rw [decide_eq_true he] at h5
  have h5 : (-1 : Int) = x := by simpa using h5
  subst h5
  rw [if_pos (by simpa using he), req_pos (by simp; omega)]
  exact ⟨M2, rfl, c2, hL⟩
 ·rw [decide_eq_false he] at h5
  rw [if_neg (by simpa using he), show w64 ((-1 : Int) + 1) = ((0 : Nat) : Int) by decide]
  exact f66_p5_eq hF hv hL hi F' 0 M2 out x (by omega) (by omega) c2 h4 h5
theorem cand_find {m : Nat} {r : List Int} {rs : List (List Int)} {i L : Nat} (h : Ok m (r :: rs)) : ∃ x, (cand m L true).find? (fun x => decide ((mo m (-1) rs (i + 1) (dx L x)).1 + vl r x = (mo m (-1) (r :: rs) i L).1)) = some x ∧ bst m (r :: rs) i L = x :: bst m rs (i + 1) (dx L x) := by
 obtain ⟨_, x, hx, he⟩ := mo_step (i := i) (L := L) h
 cases hf : (cand m L true).find? (fun x => decide ((mo m (-1) rs (i + 1) (dx L x)).1 + vl r x = (mo m (-1) (r :: rs) i L).1)) with
 | some y => exact ⟨y, rfl, by rw [bst, hf]⟩
 | none =>
  have := List.find?_eq_none.1 hf x hx
  simp [he] at this
theorem f66_p1_eq {F m : Nat} {s : List (List Int)} (hF : 100 ≤ F) (hv : Vs m s) : ∀ (k i L : Nat) (M : Mm) (out : List Int), i ≤ s.length → s.length < k + i → L < 32 → Good m s M → out.length = i →
  ∃ M', f66_p1 F s m k L i M out = some (M', out ++ bst m (s.drop i) i L) ∧ Good m s M' := by
 have hn := hv.n
 intro k
 induction k with
 | zero => intro i L M out _ h; omega
 | succ k ih =>
  intro i L M out h1 h2 h3 h4 h5
  unfold f66_p1
  by_cases hi : i < s.length
  ·have hd : s.drop i = s[i] :: s.drop (i + 1) := drop_cons hi
   have hok : Ok m (s[i] :: s.drop (i + 1)) := by rw [← hd]; exact fun r hr => hv.ok r (List.mem_of_mem_drop hr)
   obtain ⟨x, x1, x2⟩ := cand_find (i := i) (L := L) hok
   rw [← hd] at x1 x2
   obtain ⟨M1, e1, e2, e3⟩ := f66_p5_all hF hv h3 hi (out := out) h4 (by omega) x1
   obtain ⟨M2, g1, g2⟩ := ih (i + 1) (dx L x) M1 (out ++ [x]) (by omega) (by omega) e3 e2 (by simp; omega)
   rw [if_pos (by simp; omega), e1, Option.bind_some]
   dsimp only
   rw [w64_succ (by omega), g1, x2]
   exact ⟨M2, by simp, g2⟩
  ·rw [if_neg (by simp; omega), List.drop_eq_nil_of_le (by omega)]
   exact ⟨M, by simp [bst], h4⟩
def bestD (m : Nat) (s : List (List Int)) : List Int := bst m s 0 (all_ m)
theorem f66_eq {F m : Nat} {s : List (List Int)} (hF : 100 ≤ F) (hv : Vs m s) {M : Mm} (hM : Good m s M) : ∃ M', f66 F M s m = some (bestD m s, M') ∧ Good m s M' := by
 obtain ⟨a1, a2⟩ := f69_eq (F := F) (M := M) (s := s) hv.m5
 obtain ⟨M', e1, e2⟩ := f66_p1_eq hF hv F 0 (all_ m) M [] (by omega) (by have := hv.n; omega) a2 hM rfl
 unfold f66
 rw [a1, Option.bind_some, show f66_p1 F s m F (all_ m : Nat) 0 M [] = _ from e1, Option.bind_some, List.nil_append, List.drop_zero]
 dsimp only
 rw [take0]
 exact ⟨M', rfl, e2⟩
theorem f17_eq {F : Nat} (hF : 100 ≤ F) (s : List (List Int)) : f17 F s = some (if ckS s ≠ 0 then ([], ckS s) else (bestD (s[0]?.getD []).length s, 0)) := by
 unfold f17
 rw [f65_eq hF, Option.bind_some]
 by_cases h : ckS s = 0
 ·have hv := ckS_ok h
  obtain ⟨M', e1, _⟩ := f66_eq hF hv (Good.nil _ s)
  rw [if_neg (by simpa using h), if_neg (by simpa using h)]
  dsimp only
  rw [if_neg (by decide), e1, Option.bind_some]
 ·rw [if_pos h, if_pos h]
  dsimp only
  rw [if_pos (by simpa using h)]
theorem f19_eq {F : Nat} (hF : 100 ≤ F) (s : List (List Int)) : f19 F s = some (if ckS s ≠ 0 then (0, ckS s) else ((mo (s[0]?.getD []).length (-1) s 0 (all_ (s[0]?.getD []).length)).2, 0)) := by
 unfold f19
 rw [f65_eq hF, Option.bind_some]
 by_cases h : ckS s = 0
 ·have hv := ckS_ok h
  obtain ⟨a1, a2⟩ := f69_eq (F := F) (M := []) (s := s) hv.m5
  obtain ⟨M', e1, _⟩ := f68_eq (but := -1) hF hv.m5 hv.n.2 hv.ok F 0 (all_ (s[0]?.getD []).length) [] (by omega) (by have := hv.n; omega) a2 (Good.nil _ s)
  rw [if_neg (by simpa using h), if_neg (by simpa using h)]
  dsimp only
  rw [if_neg (by decide), a1, Option.bind_some, show f68 F F 0 (-1) (all_ (s[0]?.getD []).length : Nat) [] s _ = _ from e1, Option.bind_some]
  dsimp only
  rw [List.drop_zero]
 ·rw [if_pos h, if_pos h]
  dsimp only
  rw [if_pos (by simpa using h)]

def okD (L : Nat) : List Int → Bool
 | [] => true
 | x :: xs => (decide (x < 0) || L.testBit x.toNat) && okD (dx L x) xs
theorem f21_p4_eq {F m : Nat} {s : List (List Int)} {l : List Int} (hF : 100 ≤ F) (hv : Vs m s) (hl : l.length = s.length) (hx : ∀ x ∈ l, -1 ≤ x ∧ x < m) {M : Mm} : ∀ (k i L : Nat) (acc : Int), i ≤ l.length → l.length < k + i → L < 32 → 0 ≤ acc → acc ≤ 100 * i →
  f21_p4 F l M s m k L acc i = some (if okD L (l.drop i) = true then .c1 (acc + wv (s.drop i) (l.drop i)) else .c0 6) := by
 have hm := hv.m5
 have hn := hv.n
 intro k
 induction k with
 | zero => intro i L acc _ h; omega
 | succ k ih =>
  intro i L acc h1 h2 h3 h4 h5
  unfold f21_p4
  by_cases hi : i < l.length
  ·have his : i < s.length := by omega
   have hxi := hx _ (List.getElem_mem hi)
   have hvl := vl_bd (hv.ok _ (List.getElem_mem his)) l[i]
   rw [if_pos (by simp; omega), at_get hi, Option.bind_some, f70_eq, w64_in (n := (m : Int) - 1) (by omega), decide_eq_true (by omega), Option.bind_some, if_pos rfl, drop_cons hi, drop_cons his, okD, wv]
   have acc1 : w64 (acc + vl s[i] l[i]) = acc + vl s[i] l[i] := w64_in (by omega)
   by_cases hneg : l[i] < 0
   ·have e : l[i] = -1 := by omega
    rw [f72_eq hv.ok his hxi]
    rw [e] at acc1 hvl ⊢
    rw [f71_neg, Option.bind_some]
    dsimp only
    rw [if_pos rfl, Option.bind_some, acc1, w64_succ (by omega), ih (i + 1) L _ (by omega) (by omega) h3 (by omega) (by omega), show dx L (-1) = L from rfl, decide_eq_true (by decide), Bool.true_or, Bool.true_and, Int.add_assoc]
   ·obtain ⟨j, hj⟩ : ∃ j : Nat, l[i] = j := ⟨l[i].toNat, by omega⟩
    rw [f72_eq hv.ok his hxi]
    rw [hj] at acc1 hvl hxi ⊢
    obtain ⟨a1, a2, a3, a4⟩ := look_L h3 (show j < 5 by omega)
    have edx : dx L (j : Int) = dl L j := by unfold dx; rw [if_neg (by omega), Int.toNat_natCast]
    rw [f71_eq h3 (by omega), Option.bind_some, Int.toNat_natCast, decide_eq_false (by omega), Bool.false_or, edx]
    dsimp only
    cases ht : L.testBit j
    ·simp
    ·rw [if_pos rfl, Option.bind_some, acc1, w64_succ (by omega), ih (i + 1) (dl L j) _ (by omega) (by omega) a3 (by omega) (by omega), Bool.true_and, Int.add_assoc]
  ·rw [if_neg (by simp; omega), List.drop_eq_nil_of_le (by omega)]
   rw [show List.drop i s = [] from List.drop_eq_nil_of_le (by omega)]
   simp [okD, wv]
theorem f21_eq {F m : Nat} {s : List (List Int)} {l : List Int} (hF : 100 ≤ F) (hv : Vs m s) (hl : l.length = s.length) (hx : ∀ x ∈ l, -1 ≤ x ∧ x < m) : f21 F s l = some (if okD (all_ m) l = true then (wv s l, 0) else (0, 6)) := by
 obtain ⟨a1, a2⟩ := f69_eq (F := F) (M := []) (s := s) hv.m5
 have hn := hv.n
 unfold f21
 rw [f65_eq hF, Option.bind_some, if_neg (by simp [hv.ck]), hv.head]
 dsimp only
 rw [if_neg (by decide), if_neg (by simp; omega), a1, Option.bind_some]
 have e := f21_p4_eq hF hv hl hx (M := []) F 0 (all_ m) 0 (by omega) (by omega) a2 (by omega) (by omega)
 rw [show f21_p4 F l [] s m F (all_ m : Nat) 0 0 = _ from e, Option.bind_some, List.drop_zero, List.drop_zero, Int.zero_add]
 cases okD (all_ m) l
 ·rfl
 ·rfl
end
section
def wB (but : Int) : Nat → List (List Int) → List Int → Int
 | i, r :: rs, x :: xs => (if (i : Int) = but then 0 else vl r x) + wB but (i + 1) rs xs
 | _, _, _ => 0
theorem wB_wv : ∀ (rows : List (List Int)) (l : List Int) (i : Nat), wB (-1) i rows l = wv rows l
 | r :: rs, x :: xs, i => by rw [wB, wv, wB_wv rs xs (i + 1), if_neg (by omega)]
 | [], _, _ => by rw [wB, wv] <;> simp
 | _ :: _, [], _ => by rw [wB, wv] <;> simp
theorem mem_lotsF {m L : Nat} {x : Int} : ∀ j : Nat, x ∈ lotsF m L true j → ∃ l : Nat, x = l ∧ l < m ∧ L.testBit l = true := by
 intro j h
 unfold lotsF at h
 simp only [if_true, List.mem_map, List.mem_filter] at h
 obtain ⟨l, ⟨h1, h2⟩, rfl⟩ := h
 exact ⟨l, rfl, by simpa using List.mem_of_mem_drop h1, h2⟩
theorem mem_cand {m L : Nat} {x : Int} (h : x ∈ cand m L true) : x = -1 ∨ ∃ l : Nat, x = l ∧ l < m ∧ L.testBit l = true := by
 rw [lotsF_zero] at h
 rcases List.mem_cons.1 h with h | h
 ·exact .inl h
 ·exact .inr (mem_lotsF 0 h)
theorem mo_top {m : Nat} {s : List (List Int)} (hv : Vs m s) : (∀ t ∈ ds m (-1) s.length 0 (all_ m), wv s t ≤ (mo m (-1) s 0 (all_ m)).1) ∧ (∃ t ∈ ds m (-1) s.length 0 (all_ m), wv s t = (mo m (-1) s 0 (all_ m)).1) ∧
  (mo m (-1) s 0 (all_ m)).2 = (((ds m (-1) s.length 0 (all_ m)).filter fun t => decide (wv s t = (mo m (-1) s 0 (all_ m)).1)).length : Nat) := by
 have e := mo_ds (-1) s 0 (all_ m) hv.ok
 obtain ⟨q1, q2, q3⟩ := mxc_max ((ds m (-1) s.length 0 (all_ m)).map (wv s)) (fun w hw => by obtain ⟨t, _, rfl⟩ := List.mem_map.1 hw; exact wv_nn s t hv.ok)
 rw [← e] at q1 q2 q3
 refine ⟨fun t ht => q1 _ (List.mem_map.2 ⟨t, ht, rfl⟩), ?_, ?_⟩
 ·obtain ⟨t, ht, h⟩ := List.mem_map.1 (q2 (by simp [ds_ne]))
  exact ⟨t, ht, h⟩
 ·rw [q3, List.filter_map, List.length_map]
  rfl
end
section
theorem tmod_bd {x : Int} {n : Nat} (hx : 0 ≤ x ∧ x ≤ 255) (hn : 0 < n) : w64 x = x ∧ 0 ≤ Int.tmod x n ∧ Int.tmod x n < n :=
 ⟨w64_in (by omega), Int.tmod_nonneg _ hx.1, Int.tmod_lt_of_pos _ (by omega)⟩
theorem f43_p5_eq {F i most : Nat} {n bq lq xb cb : Int} {R : List (List Int)} {w : List Int} (hmost : most ≤ 99) (hw : w.length = 16) (hv : ∀ x ∈ w, 0 ≤ x ∧ x ≤ 255) (hi : i < 4) {m : Nat} (hn : Int.tmod (w64 lq) (w64 (bq + 1)) = m) (hm : m ≤ 4) : ∀ (k j : Nat) (r : List Int), m < k + j → j ≤ m → r.length = m → (∀ x ∈ r, 0 ≤ x ∧ x ≤ most) →
  ∃ r', f43_p5_1 F (most : Int) R lq bq i xb cb w k j r = some r' ∧ r'.length = m ∧ ∀ x ∈ r', 0 ≤ x ∧ x ≤ most := by
 intro k
 induction k with
 | zero => intro j r h _; omega
 | succ k ih =>
  intro j r h1 h2 h3 h4
  unfold f43_p5_1
  rw [hn, Int.toNat_natCast]
  by_cases hj : j < m
  ·have hidx : 0 + ((Int.toNat (i : Int)) * 4) + ((Int.toNat (j : Int)) * 1) < w.length := by rw [Int.toNat_natCast, Int.toNat_natCast]; omega
   have hx := hv _ (List.getElem_mem hidx)
   obtain ⟨t1, t2, t3⟩ := tmod_bd (n := most + 1) hx (by omega)
   have e1 : w64 ((most : Int) + 1) = ((most + 1 : Nat) : Int) := w64_succ (by omega)
   rw [if_pos (by simp; omega), req_pos (by omega), req_pos (by omega), List.getElem?_eq_getElem hidx, Option.bind_some, e1, req_pos (by omega), req_pos (by omega), req_pos (by rw [Int.toNat_natCast]; omega), t1, w64_succ (by omega)]
   generalize w[0 + ((Int.toNat (i : Int)) * 4) + ((Int.toNat (j : Int)) * 1)] = y at *
   refine ih (j + 1) _ (by omega) (by omega) (by simpa using h3) (fun x hx => ?_)
   rcases List.mem_or_eq_of_mem_set hx with hx | hx
   ·exact h4 x hx
   ·subst hx; omega
  ·rw [if_neg (by simp; omega)]
   exact ⟨r, rfl, h3, h4⟩
theorem f43_p1_eq {F most c n : Nat} {xb lq bq : Int} {w : List Int} (hF : 100 ≤ F) (hmost : most ≤ 99) (hw : w.length = 16) (hv : ∀ x ∈ w, 0 ≤ x ∧ x ≤ 255) {m : Nat} (hn : Int.tmod (w64 lq) (w64 (bq + 1)) = m) (hm : m ≤ 4) {cb : Int} (hc : w64 (1 + Int.tmod (w64 xb) cb) = c) (hc4 : c ≤ 4) :
  ∀ (k i : Nat) (R : List (List Int)), c < k + i → i ≤ c → R.length = i → (∀ r ∈ R, r.length = m ∧ ∀ x ∈ r, 0 ≤ x ∧ x ≤ most) →
  ∃ R', f43_p1 F (most : Int) lq bq xb cb w k i R = some R' ∧ R'.length = c ∧ ∀ r ∈ R', r.length = m ∧ ∀ x ∈ r, 0 ≤ x ∧ x ≤ most := by
 intro k
 induction k with
 | zero => intro i R h _; omega
 | succ k ih =>
  intro i R h1 h2 h3 h4
  unfold f43_p1
  rw [hc]
  by_cases hi : i < c
  ·obtain ⟨r, r1, r2, r3⟩ := f43_p5_eq (F := F) (n := 0) (xb := xb) (cb := cb) (R := R) hmost hw hv (show i < 4 by omega) hn hm F 0 (List.replicate m 0) (by omega) (by omega) (by simp) (fun x hx => by rw [List.mem_replicate] at hx; omega)
   have hd : List.drop 0 (List.take (0 + m) r) = r := by rw [Nat.zero_add, List.drop_zero, ← r2, List.take_length]
   rw [if_pos (by simp; omega), hn, req_pos (by omega), Int.toNat_natCast, show f43_p5_1 F most R lq bq i xb cb w F 0 (List.replicate m 0) = _ from r1, Option.bind_some, req_pos (by omega), req_pos (by simp; omega), hd, w64_succ (by omega)]
   refine ih (i + 1) _ (by omega) (by omega) (by simp; omega) (fun y hy => ?_)
   rcases List.mem_append.1 hy with hy | hy
   ·exact h4 y hy
   ·simp at hy; subst hy; exact ⟨r2, r3⟩
  ·rw [if_neg (by simp; omega)]
   exact ⟨R, rfl, by omega, h4⟩
theorem made_eq {F most nb nl : Nat} {b l : Int} {w : List Int} (hF : 100 ≤ F) (hmost : most ≤ 99) (hnb : 1 ≤ nb ∧ nb ≤ 4) (hnl : nl ≤ 4) (hb : 0 ≤ b ∧ b ≤ 255) (hl : 0 ≤ l ∧ l ≤ 255) (hw : w.length = 16) (hv : ∀ x ∈ w, 0 ≤ x ∧ x ≤ 255) :
  ∃ (s : List (List Int)) (m : Nat), f43 F b l w nb nl most = some s ∧ Vs m s ∧ s.length ≤ nb ∧ m ≤ nl ∧ ∀ r ∈ s, ∀ x ∈ r, x ≤ most := by
 obtain ⟨b1, b2, b3⟩ := tmod_bd (n := nb) hb (by omega)
 obtain ⟨l1, l2, l3⟩ := tmod_bd (n := nl + 1) hl (by omega)
 obtain ⟨m, hm⟩ : ∃ m : Nat, Int.tmod l ((nl + 1 : Nat) : Int) = m := ⟨(Int.tmod l ((nl + 1 : Nat) : Int)).toNat, by omega⟩
 obtain ⟨c, hc⟩ : ∃ c : Nat, 1 + Int.tmod b nb = c := ⟨(1 + Int.tmod b nb).toNat, by omega⟩
 have e1 : w64 ((nl : Int) + 1) = ((nl + 1 : Nat) : Int) := w64_succ (by omega)
 obtain ⟨s, s1, s2, s3⟩ := f43_p1_eq (F := F) (n := 0) (most := most) (c := c) (xb := b) (lq := l) (bq := nl) (cb := nb) hF hmost hw hv (by rw [e1, l1]; exact hm) (by omega) (by rw [b1, w64_in (by omega)]; exact hc) (by omega) F 0 [] (by omega) (by omega) rfl (by simp)
 refine ⟨s, m, ?_, ⟨fun r hr => ⟨(s3 r hr).1, fun x hx => by have := (s3 r hr).2 x hx; omega⟩, by omega, by omega⟩, by omega, by omega, fun r hr x hx => ((s3 r hr).2 x hx).2⟩
 unfold f43
 rw [e1, req_pos (by omega), req_pos (by omega), show f43_p1 F most l nl b nb w F 0 [] = _ from s1, Option.bind_some, take0]
theorem ds_range {m : Nat} {but : Int} : ∀ (k i L : Nat) (l : List Int), l ∈ ds m but k i L → l.length = k ∧ ∀ x ∈ l, -1 ≤ x ∧ x < m
 | 0, _, _, l, h => by simp [ds] at h; subst h; exact ⟨rfl, by simp⟩
 | k + 1, i, L, l, h => by
  simp only [ds] at h
  obtain ⟨x, hx, h⟩ := List.mem_flatMap.1 h
  obtain ⟨t, ht, rfl⟩ := List.mem_map.1 h
  obtain ⟨h1, h2⟩ := ds_range k (i + 1) _ t ht
  refine ⟨by simp [h1], fun y hy => ?_⟩
  rcases List.mem_cons.1 hy with rfl | hy
  ·unfold cand at hx
   rcases List.mem_cons.1 hx with rfl | hx
   ·omega
   ·split at hx
    ·obtain ⟨j, hj, rfl⟩ := List.mem_map.1 hx
     have := List.mem_range.1 (List.mem_filter.1 hj).1
     omega
    ·cases hx
  ·exact h2 y hy
theorem best_mem {m : Nat} {s : List (List Int)} (hv : Vs m s) : bestD m s ∈ ds m (-1) s.length 0 (all_ m) ∧ wv s (bestD m s) = (mo m (-1) s 0 (all_ m)).1 := by
 have h := bst_find s 0 (all_ m) hv.ok
 have h2 : decide (wv s (bst m s 0 (all_ m)) = (mo m (-1) s 0 (all_ m)).1) = true := List.find?_some (p := fun l => decide (wv s l = (mo m (-1) s 0 (all_ m)).1)) h
 exact ⟨List.mem_of_find?_eq_some h, of_decide_eq_true h2⟩
end
section
theorem lotsF_mono {m L L' : Nat} (h : ∀ j : Nat, j < m → L'.testBit j = true → L.testBit j = true) {x : Int} : x ∈ cand m L' true → x ∈ cand m L true := by
 intro hx
 rcases mem_cand hx with rfl | ⟨l, rfl, h1, h2⟩
 ·simp [cand]
 ·unfold cand
  simp only [if_true, List.mem_cons, List.mem_map, List.mem_filter, List.mem_range]
  exact .inr ⟨l, ⟨h1, h l h1 h2⟩, rfl⟩
theorem cand_free {m L : Nat} {x : Int} {b : Bool} (h : x ∈ cand m L b) : x ∈ cand m L true := by
 cases b with
 | true => exact h
 | false => simp [cand] at h; subst h; simp [cand]
theorem dx_lt {m L : Nat} (hm : m ≤ 5) (hL : L < 32) {x : Int} (h : x ∈ cand m L true) : dx L x < 32 := by
 unfold dx
 rcases mem_cand h with rfl | ⟨l, rfl, h1, h2⟩
 ·rw [if_pos (by omega)]; exact hL
 ·rw [if_neg (by omega), Int.toNat_natCast]; exact (look_L hL (by omega)).2.2.1
theorem dx_sub {m L : Nat} (hm : m ≤ 5) (hL : L < 32) {x : Int} (h : x ∈ cand m L true) {j : Nat} (hj : j < 5) (hb : (dx L x).testBit j = true) : L.testBit j = true := by
 unfold dx at hb
 rcases mem_cand h with rfl | ⟨l, rfl, h1, h2⟩
 ·rw [if_pos (by omega)] at hb; exact hb
 ·rw [if_neg (by omega), Int.toNat_natCast, (look_L hL (by omega)).2.2.2 j hj] at hb
  cases h3 : L.testBit j
  ·rw [h3] at hb; cases hb
  ·rfl
theorem dx_mono {m L L' : Nat} (hm : m ≤ 5) (hL : L < 32) (hL' : L' < 32) (h : ∀ j : Nat, j < m → L'.testBit j = true → L.testBit j = true) {x : Int} (hx : x ∈ cand m L' true) : ∀ j : Nat, j < m → (dx L' x).testBit j = true → (dx L x).testBit j = true := by
 intro j hj hb
 unfold dx at hb ⊢
 rcases mem_cand hx with rfl | ⟨l, rfl, h1, h2⟩
 ·rw [if_pos (by omega)] at hb ⊢; exact h j hj hb
 ·rw [if_neg (by omega), Int.toNat_natCast] at hb ⊢
  rw [(look_L hL' (by omega)).2.2.2 j (by omega)] at hb
  rw [(look_L hL (by omega)).2.2.2 j (by omega)]
  simp only [Bool.and_eq_true] at hb ⊢
  exact ⟨h j hj hb.1, hb.2⟩
theorem ds_mono {m : Nat} {but : Int} (hm : m ≤ 5) : ∀ (k i L L' : Nat) (t : List Int), L < 32 → L' < 32 → (∀ j : Nat, j < m → L'.testBit j = true → L.testBit j = true) → t ∈ ds m but k i L' → t ∈ ds m but k i L
 | 0, _, _, _, t, _, _, _, h => h
 | k + 1, i, L, L', t, h1, h2, h3, h => by
  rw [ds] at h ⊢
  obtain ⟨x, hx, ht⟩ := List.mem_flatMap.1 h
  obtain ⟨u, hu, rfl⟩ := List.mem_map.1 ht
  have hx' := cand_free hx
  have hxL := lotsF_mono h3 hx'
  have hin : x ∈ cand m L (decide ((i : Int) ≠ but)) := by
   by_cases hb : (i : Int) ≠ but
   ·rw [decide_eq_true hb]; exact hxL
   ·rw [decide_eq_false hb] at hx ⊢; exact hx
  refine List.mem_flatMap.2 ⟨x, hin, List.mem_map.2 ⟨u, ?_, rfl⟩⟩
  exact ds_mono hm k (i + 1) _ _ u (dx_lt hm h1 hxL) (dx_lt hm h2 hx') (dx_mono hm h1 h2 h3 hx') hu
theorem ds_but {m : Nat} {but : Int} (hm : m ≤ 5) : ∀ (k i L : Nat) (t : List Int), L < 32 → t ∈ ds m (-1) k i L → ∃ t' ∈ ds m but k i L, ∀ rows : List (List Int), rows.length = k → wv rows t' = wB but i rows t
 | 0, i, L, t, _, h => by
  simp [ds] at h
  subst h
  exact ⟨[], by simp [ds], fun rows h => by rw [List.eq_nil_of_length_eq_zero h]; rfl⟩
 | k + 1, i, L, t, h1, h => by
  rw [ds] at h
  obtain ⟨x, hx, ht⟩ := List.mem_flatMap.1 h
  obtain ⟨u, hu, rfl⟩ := List.mem_map.1 ht
  have hx' := cand_free hx
  obtain ⟨u', a1, a2⟩ := ds_but hm k (i + 1) (dx L x) u (dx_lt hm h1 hx') hu
  by_cases hb : (i : Int) = but
  ·refine ⟨-1 :: u', ?_, fun rows hr => ?_⟩
   ·rw [ds]
    refine List.mem_flatMap.2 ⟨-1, by simp [cand], List.mem_map.2 ⟨u', ?_, rfl⟩⟩
    exact ds_mono hm k (i + 1) _ _ u' h1 (dx_lt hm h1 hx') (fun j hj hb => dx_sub hm h1 hx' (by omega) hb) a1
   ·match rows, hr with
    | r :: rs, hr =>
     rw [wv, wB, if_pos hb, a2 rs (by simpa using hr), show vl r (-1) = 0 from rfl]
  ·refine ⟨x :: u', ?_, fun rows hr => ?_⟩
   ·rw [ds, decide_eq_true hb]
    exact List.mem_flatMap.2 ⟨x, hx', List.mem_map.2 ⟨u', a1, rfl⟩⟩
   ·match rows, hr with
    | r :: rs, hr => rw [wv, wB, if_neg hb, a2 rs (by simpa using hr)]
theorem ds_back {m : Nat} {but : Int} : ∀ (k i L : Nat) (t : List Int), t ∈ ds m but k i L → t ∈ ds m (-1) k i L ∧ ∀ rows : List (List Int), rows.length = k → wB but i rows t = wv rows t
 | 0, i, L, t, h => by
  simp [ds] at h
  subst h
  exact ⟨by simp [ds], fun rows h => by rw [List.eq_nil_of_length_eq_zero h]; rfl⟩
 | k + 1, i, L, t, h => by
  rw [ds] at h
  obtain ⟨x, hx, ht⟩ := List.mem_flatMap.1 h
  obtain ⟨u, hu, rfl⟩ := List.mem_map.1 ht
  have hx' := cand_free hx
  obtain ⟨a1, a2⟩ := ds_back k (i + 1) (dx L x) u hu
  refine ⟨?_, fun rows hr => ?_⟩
  ·rw [ds, decide_eq_true (by omega : (i : Int) ≠ -1)]
   exact List.mem_flatMap.2 ⟨x, hx', List.mem_map.2 ⟨u, a1, rfl⟩⟩
  ·match rows, hr with
   | r :: rs, hr =>
    rw [wv, wB, a2 rs (by simpa using hr)]
    by_cases hb : (i : Int) = but
    ·rw [decide_eq_false (fun h => h hb)] at hx
     simp [cand] at hx
     subst hx
     rw [if_pos hb]; rfl
    ·rw [if_neg hb]

def W (m : Nat) (s : List (List Int)) (but : Int) : Int := (mo m but s 0 (all_ m)).1
theorem W_top {m : Nat} {s : List (List Int)} (hv : Vs m s) (but : Int) : (∀ t ∈ ds m (-1) s.length 0 (all_ m), wB but 0 s t ≤ W m s but) ∧ (∃ t ∈ ds m (-1) s.length 0 (all_ m), wB but 0 s t = W m s but) := by
 have hL : all_ m < 32 := (f69_eq (F := 0) (M := []) (s := []) hv.m5).2
 have e := mo_ds but s 0 (all_ m) hv.ok
 obtain ⟨q1, q2, _⟩ := mxc_max ((ds m but s.length 0 (all_ m)).map (wv s)) (fun w hw => by obtain ⟨t, _, rfl⟩ := List.mem_map.1 hw; exact wv_nn s t hv.ok)
 rw [← e] at q1 q2
 constructor
 ·intro t ht
  obtain ⟨t', h1, h2⟩ := ds_but (but := but) hv.m5 _ _ _ t hL ht
  rw [← h2 s rfl]
  exact q1 _ (List.mem_map.2 ⟨t', h1, rfl⟩)
 ·obtain ⟨t, ht, h⟩ := List.mem_map.1 (q2 (by simp [ds_ne]))
  obtain ⟨a1, a2⟩ := ds_back _ _ _ t ht
  exact ⟨t, a1, by rw [a2 s rfl]; exact h⟩
theorem wB_split {b : Nat} : ∀ (rows : List (List Int)) (l : List Int) (i : Nat), l.length = rows.length → i ≤ b → b < i + rows.length → wB b i rows l + vl (rows[b - i]?.getD []) (l[b - i]?.getD (-1)) = wv rows l
 | [], _, _, _, h1, h2 => by simp at h2; omega
 | _ :: _, [], _, h, _, _ => by simp at h
 | r :: rs, x :: xs, i, h, h1, h2 => by
  have hl : xs.length = rs.length := by simpa using h
  rw [wB, wv]
  by_cases hb : i = b
  ·subst hb
   have e : ∀ (rs : List (List Int)) (xs : List Int) (j : Nat), i < j → wB i j rs xs = wv rs xs := by
    intro rs
    induction rs with
    | nil => intro xs j _; cases xs <;> rfl
    | cons r rs ih =>
     intro xs j hj
     cases xs with
     | nil => rfl
     | cons x xs => rw [wB, wv, if_neg (by omega), ih xs (j + 1) (by omega)]
   rw [if_pos rfl, e rs xs (i + 1) (by omega), Nat.sub_self, List.getElem?_cons_zero, List.getElem?_cons_zero, Option.getD_some, Option.getD_some]
   omega
  ·have := wB_split (b := b) rs xs (i + 1) hl (by omega) (by simp at h2; omega)
   have e : b - i = (b - (i + 1)) + 1 := by omega
   rw [if_neg (by omega), e, List.getElem?_cons_succ, List.getElem?_cons_succ]
   omega
theorem Vs.set {m b : Nat} {s : List (List Int)} {l : List Int} (hv : Vs m s) (hl : l.length = m ∧ ∀ x ∈ l, 0 ≤ x ∧ x ≤ 99) : Vs m (s.set b l) := by
 refine ⟨fun r hr => ?_, by rw [List.length_set]; exact hv.n, hv.m5⟩
 rcases List.mem_or_eq_of_mem_set hr with h | rfl
 ·exact hv.ok r h
 ·exact hl

theorem best_W {m : Nat} {s : List (List Int)} (hv : Vs m s) : wv s (bestD m s) = W m s (-1) := (best_mem hv).2
theorem best_len {m : Nat} {s : List (List Int)} (hv : Vs m s) : (bestD m s).length = s.length ∧ ∀ x ∈ bestD m s, -1 ≤ x ∧ x < m := ds_range _ _ _ _ (best_mem hv).1
def lot (m : Nat) (s : List (List Int)) (b : Nat) : Int := (bestD m s)[b]?.getD (-1)
def pay (m : Nat) (s : List (List Int)) (b : Nat) : Int := W m s b - (W m s (-1) - vl (s[b]?.getD []) (lot m s b))
theorem at_best {m b : Nat} {s : List (List Int)} (hv : Vs m s) (hb : b < s.length) : at? (bestD m s) (b : Nat) = some (lot m s b) ∧ -1 ≤ lot m s b ∧ lot m s b < m := by
 obtain ⟨h1, h2⟩ := best_len hv
 have e : lot m s b = (bestD m s)[b]'(by omega) := by unfold lot; rw [List.getElem?_eq_getElem (by omega), Option.getD_some]
 refine ⟨by rw [at_get (by omega), e], ?_⟩
 rw [e]
 exact h2 _ (List.getElem_mem _)
theorem best_wB {m b : Nat} {s : List (List Int)} (hv : Vs m s) (hb : b < s.length) : wB b 0 s (bestD m s) = W m s (-1) - vl (s[b]?.getD []) (lot m s b) := by
 have := wB_split (b := b) s (bestD m s) 0 (best_len hv).1 (by omega) (by omega)
 rw [Nat.sub_zero, best_W hv] at this
 unfold lot
 omega
theorem row_bd {m b : Nat} {s : List (List Int)} (hv : Vs m s) (x : Int) : 0 ≤ vl (s[b]?.getD []) x ∧ vl (s[b]?.getD []) x ≤ 99 := by
 by_cases hb : b < s.length
 ·rw [List.getElem?_eq_getElem hb, Option.getD_some]
  exact vl_bd (hv.ok _ (List.getElem_mem hb)) x
 ·rw [List.getElem?_eq_none (by omega), Option.getD_none]
  unfold vl
  split <;> simp
theorem pay_bd {m b : Nat} {s : List (List Int)} (hv : Vs m s) (hb : b < s.length) : 0 ≤ pay m s b ∧ pay m s b ≤ vl (s[b]?.getD []) (lot m s b) := by
 unfold pay
 obtain ⟨a1, t, a2, a3⟩ := W_top hv b
 have h1 := a1 _ (best_mem hv).1
 rw [best_wB hv hb] at h1
 have h2 := (W_top hv (-1)).1 t a2
 have h3 := wB_split (b := b) s t 0 (ds_range _ _ _ _ a2).1 (by omega) (by omega)
 have h4 := row_bd (b := b) hv (t[b - 0]?.getD (-1))
 rw [wB_wv] at h2
 rw [Nat.sub_zero] at h3 h4
 omega
end
section
end
section
def sq (s : List (List Int)) (b : List Int × (Int × Int)) (t : List Int) : List Int × (Int × Int) := (if wv s t > b.2.1 then t else b.1, comb b.2 (wv s t, 1))
end
section
end
section
def sm : Nat → (Nat → Int) → Int
 | 0, _ => 0
 | n + 1, f => sm n f + f n
theorem sm_congr {n : Nat} {f g : Nat → Int} (h : ∀ i, i < n → f i = g i) : sm n f = sm n g := by
 induction n with
 | zero => rfl
 | succ n ih => rw [sm, sm, ih (fun i hi => h i (by omega)), h n (by omega)]
theorem sm_le {n : Nat} {f g : Nat → Int} (h : ∀ i, i < n → f i ≤ g i) : sm n f ≤ sm n g := by
 induction n with
 | zero => exact Int.le_refl _
 | succ n ih =>
  have := ih (fun i hi => h i (by omega))
  have := h n (by omega)
  rw [sm, sm]; omega
theorem sm_add {n : Nat} {f g : Nat → Int} : sm n (fun i => f i + g i) = sm n f + sm n g := by
 induction n with
 | zero => rfl
 | succ n ih => rw [sm, sm, sm, ih]; omega
theorem sm_one {n b : Nat} {c : Int} (hb : b < n) : sm n (fun i => if i = b then c else 0) = c := by
 induction n with
 | zero => omega
 | succ n ih =>
  rw [sm]
  by_cases h : b = n
  ·subst h
   have : sm b (fun i => if i = b then c else 0) = sm b (fun _ => 0) := sm_congr fun i hi => if_neg (by omega)
   rw [this, if_pos rfl]
   have : ∀ k : Nat, sm k (fun _ => 0) = 0 := fun k => by
    induction k with
    | zero => rfl
    | succ k ih => rw [sm, ih]; rfl
   rw [this]; omega
  ·rw [ih (by omega), if_neg (fun e => h e.symm)]; omega
theorem sm_two {n b c : Nat} {f g f' g' : Nat → Int} {x y : Int} (hb : b < n) (hc : c < n) (hbc : b ≠ c) (h : ∀ i, i < n → i ≠ b → i ≠ c → f i + g i = f' i + g' i) (h1 : f b + g b = f' b + g' b + x) (h2 : f c + g c = f' c + g' c + y) : sm n f + sm n g = sm n f' + sm n g' + x + y := by
 have e : sm n (fun i => f i + g i) = sm n (fun i => (f' i + g' i) + ((if i = b then x else 0) + if i = c then y else 0)) := sm_congr fun i hi => by
  by_cases ib : i = b
  ·subst ib; rw [if_pos rfl, if_neg hbc]; omega
  ·rw [if_neg ib]
   by_cases ic : i = c
   ·subst ic; rw [if_pos rfl]; omega
   ·rw [if_neg ic]; have := h i hi ib ic; omega
 rw [sm_add, sm_add, sm_add, sm_add, sm_one hb, sm_one hc] at e
 omega
theorem sm_at {n b : Nat} {f g f' g' : Nat → Int} {x : Int} (hb : b < n) (h : ∀ i, i < n → i ≠ b → f i + g i = f' i + g' i) (h1 : f b + g b = f' b + g' b + x) : sm n f + sm n g = sm n f' + sm n g' + x := by
 have e : sm n (fun i => f i + g i) = sm n (fun i => (f' i + g' i) + (if i = b then x else 0)) := sm_congr fun i hi => by
  by_cases ib : i = b
  ·subst ib; rw [if_pos rfl]; omega
  ·rw [if_neg ib]; have := h i hi ib; omega
 rw [sm_add, sm_add, sm_add, sm_one hb] at e
 omega
structure Dv (n m : Nat) (t : Nat → Int) : Prop where
 rg : ∀ i, i < n → -1 ≤ t i ∧ t i < m
 inj : ∀ i j, i < n → j < n → t i = t j → 0 ≤ t i → i = j
theorem Dv.up {n m : Nat} {t u : Nat → Int} (h : Dv n m t) (e : ∀ i, i < n → u i = t i) : Dv n m u :=
 ⟨fun i hi => by rw [e i hi]; exact h.rg i hi, fun i j hi hj h1 h2 => h.inj i j hi hj (by rw [← e i hi, ← e j hj]; exact h1) (by rw [← e i hi]; exact h2)⟩
abbrev wt (n : Nat) (v : Nat → Int → Int) (t : Nat → Int) : Int := sm n fun i => v i (t i)
inductive Rc (b stop : Nat) (nx : Nat → Nat → Prop) : Nat → Prop
 | base : Rc b stop nx b
 | step {i j : Nat} : Rc b stop nx i → i ≠ stop → nx i j → Rc b stop nx j
noncomputable def mix (S : Nat → Prop) (f g : Nat → Int) : Nat → Int := fun i => by
 classical
 exact if S i then f i else g i
theorem mix_in {S : Nat → Prop} {f g : Nat → Int} {i : Nat} (h : S i) : mix S f g i = f i := by unfold mix; rw [if_pos h]
theorem mix_out {S : Nat → Prop} {f g : Nat → Int} {i : Nat} (h : ¬ S i) : mix S f g i = g i := by unfold mix; rw [if_neg h]
theorem mix_dv {n m : Nat} {S : Nat → Prop} {f g : Nat → Int} (hf : Dv n m f) (hg : Dv n m g) (h : ∀ i j, i < n → j < n → S i → ¬ S j → f i = g j → 0 ≤ f i → False) : Dv n m (mix S f g) := by
 refine ⟨fun i hi => ?_, fun i j hi hj h1 h2 => ?_⟩
 ·by_cases hs : S i
  ·rw [mix_in hs]; exact hf.rg i hi
  ·rw [mix_out hs]; exact hg.rg i hi
 ·by_cases si : S i
  ·by_cases sj : S j
   ·rw [mix_in si, mix_in sj] at h1; rw [mix_in si] at h2; exact hf.inj i j hi hj h1 h2
   ·rw [mix_in si, mix_out sj] at h1; rw [mix_in si] at h2; exact (h i j hi hj si sj h1 h2).elim
  ·by_cases sj : S j
   ·rw [mix_out si, mix_in sj] at h1; rw [mix_out si] at h2; exact (h j i hj hi sj si h1.symm (by omega)).elim
   ·rw [mix_out si, mix_out sj] at h1; rw [mix_out si] at h2; exact hg.inj i j hi hj h1 h2
def put1 (f : Nat → Int) (b : Nat) (x : Int) : Nat → Int := fun i => if i = b then x else f i
theorem put1_eq {f : Nat → Int} {b : Nat} {x : Int} : put1 f b x b = x := if_pos rfl
theorem put1_ne {f : Nat → Int} {b i : Nat} {x : Int} (h : i ≠ b) : put1 f b x i = f i := if_neg h
theorem put1_dv {n m b : Nat} {f : Nat → Int} {x : Int} (hf : Dv n m f) (hx : -1 ≤ x ∧ x < m) (h : ∀ i, i < n → i ≠ b → f i = x → 0 ≤ x → False) : Dv n m (put1 f b x) := by
 refine ⟨fun i hi => ?_, fun i j hi hj h1 h2 => ?_⟩
 ·by_cases e : i = b
  ·rw [e, put1_eq]; exact hx
  ·rw [put1_ne e]; exact hf.rg i hi
 ·by_cases ei : i = b
  ·by_cases ej : j = b
   ·omega
   ·rw [ei, put1_eq] at h1 h2; rw [put1_ne ej] at h1; exact (h j hj ej h1.symm h2).elim
  ·by_cases ej : j = b
   ·rw [put1_ne ei] at h1 h2; rw [ej, put1_eq] at h1; exact (h i hi ei h1 (by omega)).elim
   ·rw [put1_ne ei] at h1 h2; rw [put1_ne ej] at h1; exact hf.inj i j hi hj h1 h2
section
variable {n m : Nat} {v : Nat → Int → Int} {d t : Nat → Int}
theorem ex_own {b c : Nat} (hz : ∀ i, v i (-1) = 0) (hd : Dv n m d) (ht : Dv n m t) (hopt : ∀ u, Dv n m u → wt n v u ≤ wt n v d) (hb : b < n) (hc : c < n) (hbc : b ≠ c) (htb : t b = -1) (hdc : 0 ≤ d c) :
  ∃ A, Dv n m A ∧ A c = -1 ∧ wt n v A ≥ wt n v t + v b (d c) - v c (d c) := by
 let nx : Nat → Nat → Prop := fun i j => i < n ∧ j < n ∧ 0 ≤ d i ∧ t j = d i
 have hS : ∀ i, Rc b c nx i → i < n := fun i h => by
  cases h with
  | base => exact hb
  | step _ _ h => exact h.2.1
 have back : ∀ i, Rc b c nx i → i ≠ b → ∃ j, j < n ∧ Rc b c nx j ∧ j ≠ c ∧ 0 ≤ d j ∧ t i = d j := fun i h hi => by
  cases h with
  | base => exact absurd rfl hi
  | step h1 h2 h3 => exact ⟨_, h3.1, h1, h2, h3.2.2.1, h3.2.2.2⟩
 by_cases hcS : Rc b c nx c
 ·-- on the way the owner is met
  have dA : Dv n m (put1 (mix (Rc b c nx) d t) c (-1)) := by
   refine ⟨fun i hi => ?_, fun i j hi hj h1 h2 => ?_⟩
   ·by_cases e : i = c
    ·rw [e, put1_eq]; omega
    ·rw [put1_ne e]
     by_cases hs : Rc b c nx i
     ·rw [mix_in hs]; exact hd.rg i hi
     ·rw [mix_out hs]; exact ht.rg i hi
   ·by_cases ei : i = c
    ·rw [ei, put1_eq] at h2; omega
    ·by_cases ej : j = c
     ·rw [ej, put1_eq] at h1; omega
     ·rw [put1_ne ei] at h1 h2; rw [put1_ne ej] at h1
      by_cases si : Rc b c nx i
      ·by_cases sj : Rc b c nx j
       ·rw [mix_in si, mix_in sj] at h1; rw [mix_in si] at h2; exact hd.inj i j hi hj h1 h2
       ·rw [mix_in si, mix_out sj] at h1; rw [mix_in si] at h2
        exact absurd (Rc.step si ei ⟨hi, hj, h2, h1.symm⟩) sj
      ·by_cases sj : Rc b c nx j
       ·rw [mix_out si, mix_in sj] at h1; rw [mix_out si] at h2
        exact absurd (Rc.step sj ej ⟨hj, hi, by omega, h1⟩) si
       ·rw [mix_out si, mix_out sj] at h1; rw [mix_out si] at h2; exact ht.inj i j hi hj h1 h2
  have dB0 : Dv n m (mix (Rc b c nx) t d) := mix_dv ht hd fun i j hi hj si sj e h0 => by
   by_cases hi' : i = b
   ·subst hi'; omega
   ·obtain ⟨k, hk, sk, _, k2, k3⟩ := back i si hi'
    have := hd.inj k j hk hj (by omega) k2
    subst this; exact sj sk
  have dB : Dv n m (put1 (mix (Rc b c nx) t d) b (d c)) := put1_dv dB0 (hd.rg c hc) fun i hi hib e h0 => by
   by_cases si : Rc b c nx i
   ·rw [mix_in si] at e
    obtain ⟨k, hk, _, k1, k2, k3⟩ := back i si hib
    exact k1 (hd.inj k c hk hc (by omega) k2)
   ·rw [mix_out si] at e
    have := hd.inj i c hi hc e (by omega)
    subst this; exact si hcS
  refine ⟨_, dA, put1_eq, ?_⟩
  have hB := hopt _ dB
  have e : wt n v (put1 (mix (Rc b c nx) d t) c (-1)) + wt n v (put1 (mix (Rc b c nx) t d) b (d c)) = wt n v t + wt n v d + v b (d c) + (- v c (d c)) := by
   refine sm_two hb hc hbc (fun i hi ib ic => ?_) ?_ ?_
   ·rw [put1_ne ic, put1_ne ib]
    by_cases si : Rc b c nx i
    ·rw [mix_in si, mix_in si]; omega
    ·rw [mix_out si, mix_out si]
   ·rw [put1_ne hbc, put1_eq, mix_in Rc.base, htb, hz b]; omega
   ·rw [put1_eq, put1_ne (fun e => hbc e.symm), mix_in hcS, hz c]; omega
  omega
 ·have dB : Dv n m (mix (Rc b c nx) d t) := mix_dv hd ht fun i j hi hj si sj e h0 => by
   by_cases hi' : i = c
   ·subst hi'; exact hcS si
   ·exact sj (Rc.step si hi' ⟨hi, hj, h0, e.symm⟩)
  have dA0 : Dv n m (mix (Rc b c nx) t d) := mix_dv ht hd fun i j hi hj si sj e h0 => by
   by_cases hi' : i = b
   ·subst hi'; omega
   ·obtain ⟨k, hk, sk, _, k2, k3⟩ := back i si hi'
    have := hd.inj k j hk hj (by omega) k2
    subst this; exact sj sk
  have dA1 : Dv n m (put1 (mix (Rc b c nx) t d) c (-1)) := put1_dv dA0 (by omega) (fun _ _ _ _ h => by omega)
  have dA : Dv n m (put1 (put1 (mix (Rc b c nx) t d) c (-1)) b (d c)) := put1_dv dA1 (hd.rg c hc) fun i hi hib e h0 => by
   by_cases hic : i = c
   ·subst hic; rw [put1_eq] at e; omega
   ·rw [put1_ne hic] at e
    by_cases si : Rc b c nx i
    ·rw [mix_in si] at e
     obtain ⟨k, hk, _, k1, k2, k3⟩ := back i si hib
     exact k1 (hd.inj k c hk hc (by omega) k2)
    ·rw [mix_out si] at e
     exact hic (hd.inj i c hi hc e (by omega))
  refine ⟨_, dA, by rw [put1_ne (fun e => hbc e.symm), put1_eq], ?_⟩
  have hB := hopt _ dB
  have e : wt n v (put1 (put1 (mix (Rc b c nx) t d) c (-1)) b (d c)) + wt n v (mix (Rc b c nx) d t) = wt n v t + wt n v d + v b (d c) + (- v c (d c)) := by
   refine sm_two hb hc hbc (fun i hi ib ic => ?_) ?_ ?_
   ·rw [put1_ne ib, put1_ne ic]
    by_cases si : Rc b c nx i
    ·rw [mix_in si, mix_in si]
    ·rw [mix_out si, mix_out si]; omega
   ·rw [put1_eq, mix_in Rc.base, htb, hz b]; omega
   ·rw [put1_ne (fun e => hbc e.symm), put1_eq, mix_out hcS, hz c]; omega
  omega
theorem ex_free {b : Nat} {l : Int} (hz : ∀ i, v i (-1) = 0) (hd : Dv n m d) (ht : Dv n m t) (hopt : ∀ u, Dv n m u → wt n v u ≤ wt n v d) (hb : b < n) (htb : t b = -1) (hl : 0 ≤ l ∧ l < m) (hfree : ∀ i, i < n → d i ≠ l) :
  wt n v t + v b l ≤ wt n v d := by
 let nx : Nat → Nat → Prop := fun i j => i < n ∧ j < n ∧ 0 ≤ d i ∧ t j = d i
 have back : ∀ i, Rc b n nx i → i ≠ b → ∃ j, j < n ∧ Rc b n nx j ∧ 0 ≤ d j ∧ t i = d j := fun i h hi => by
  cases h with
  | base => exact absurd rfl hi
  | step h1 h2 h3 => exact ⟨_, h3.1, h1, h3.2.2.1, h3.2.2.2⟩
 have dB : Dv n m (mix (Rc b n nx) d t) := mix_dv hd ht fun i j hi hj si sj e h0 => sj (Rc.step si (by omega) ⟨hi, hj, h0, e.symm⟩)
 have dA0 : Dv n m (mix (Rc b n nx) t d) := mix_dv ht hd fun i j hi hj si sj e h0 => by
  by_cases hi' : i = b
  ·subst hi'; omega
  ·obtain ⟨k, hk, sk, k2, k3⟩ := back i si hi'
   have := hd.inj k j hk hj (by omega) k2
   subst this; exact sj sk
 have dA : Dv n m (put1 (mix (Rc b n nx) t d) b l) := put1_dv dA0 (by omega) fun i hi hib e h0 => by
  by_cases si : Rc b n nx i
  ·rw [mix_in si] at e
   obtain ⟨k, hk, _, k2, k3⟩ := back i si hib
   exact hfree k hk (by omega)
  ·rw [mix_out si] at e
   exact hfree i hi e
 have hA := hopt _ dA
 have hB := hopt _ dB
 have e : wt n v (put1 (mix (Rc b n nx) t d) b l) + wt n v (mix (Rc b n nx) d t) = wt n v t + wt n v d + v b l := by
  refine sm_at hb (fun i hi ib => ?_) ?_
  ·rw [put1_ne ib]
   by_cases si : Rc b n nx i
   ·rw [mix_in si, mix_in si]
   ·rw [mix_out si, mix_out si]; omega
  ·rw [put1_eq, mix_in Rc.base, htb, hz b]; omega
 omega
theorem ex_lot {b : Nat} {l : Int} (hd : Dv n m d) (ht : Dv n m t) (hopt : ∀ u, Dv n m u → wt n v u ≤ wt n v d) (hb : b < n) (hl : 0 ≤ l ∧ l < m) (hav : ∀ i, i < n → t i ≠ l) (hbl : d b ≠ l) :
  ∃ A, Dv n m A ∧ (0 ≤ d b → ∀ i, i < n → A i ≠ d b) ∧ wt n v A ≥ wt n v t + v b l - v b (d b) := by
 by_cases hown : ∃ c, c < n ∧ d c = l
 ·obtain ⟨c, hc, hcl⟩ := hown
  have hbc : b ≠ c := fun e => hbl (by rw [e]; exact hcl)
  let nx : Nat → Nat → Prop := fun i j => i < n ∧ j < n ∧ 0 ≤ t i ∧ d j = t i
  have back : ∀ i, Rc c b nx i → i ≠ c → ∃ j, j < n ∧ Rc c b nx j ∧ j ≠ b ∧ 0 ≤ t j ∧ d i = t j := fun i h hi => by
   cases h with
   | base => exact absurd rfl hi
   | step h1 h2 h3 => exact ⟨_, h3.1, h1, h2, h3.2.2.1, h3.2.2.2⟩
  by_cases hbS : Rc c b nx b
  ·have key : ∀ i, Rc c b nx i → i < n := fun i h => by
    cases h with
    | base => exact hc
    | step _ _ h => exact h.2.1
   obtain ⟨k, hk, sk, k1, k2, k3⟩ := back b hbS hbc
   -- the others on the way as before, all the rest as in t
   have dA : Dv n m (mix (fun i => Rc c b nx i ∧ i ≠ b) d t) := mix_dv hd ht fun i j hi hj si sj e h0 => by
    by_cases hi' : i = c
    ·subst hi'; exact hav j hj (by omega)
    ·obtain ⟨q, hq, sq, q1, q2, q3⟩ := back i si.1 hi'
     have := ht.inj q j hq hj (by omega) q2
     subst this; exact sj ⟨sq, q1⟩
   have dB0 : Dv n m (mix (fun i => Rc c b nx i ∧ i ≠ b) t (put1 d b (-1))) := mix_dv ht (put1_dv hd (by omega) (fun _ _ _ _ h => by omega)) fun i j hi hj si sj e h0 => by
    by_cases hj' : j = b
    ·subst hj'; rw [put1_eq] at e; omega
    ·rw [put1_ne hj'] at e
     exact sj ⟨Rc.step si.1 si.2 ⟨hi, hj, h0, e.symm⟩, hj'⟩
   have dB : Dv n m (put1 (mix (fun i => Rc c b nx i ∧ i ≠ b) t (put1 d b (-1))) b l) := put1_dv dB0 (by omega) fun i hi hib e h0 => by
    by_cases si : Rc c b nx i ∧ i ≠ b
    ·rw [mix_in si] at e; exact hav i hi e
    ·rw [mix_out si, put1_ne hib] at e
     have := hd.inj i c hi hc (by omega) (by omega)
     subst this; exact si ⟨Rc.base, hib⟩
   refine ⟨_, dA, fun h0 i hi e => ?_, ?_⟩
   ·by_cases si : Rc c b nx i ∧ i ≠ b
    ·rw [mix_in si] at e
     exact si.2 (hd.inj i b hi hb e (by omega))
    ·rw [mix_out si] at e
     have := ht.inj i k hi hk (by omega) (by omega)
     subst this; exact si ⟨sk, k1⟩
   have hB := hopt _ dB
   have e : wt n v (mix (fun i => Rc c b nx i ∧ i ≠ b) d t) + wt n v (put1 (mix (fun i => Rc c b nx i ∧ i ≠ b) t (put1 d b (-1))) b l) = wt n v t + wt n v d + (v b l - v b (d b)) := by
    refine sm_at hb (fun i hi ib => ?_) ?_
    ·rw [put1_ne ib]
     by_cases si : Rc c b nx i ∧ i ≠ b
     ·rw [mix_in si, mix_in si]; omega
     ·rw [mix_out si, mix_out si, put1_ne ib]
    ·rw [put1_eq, mix_out (fun h => h.2 rfl)]; omega
   omega
  ·have dB : Dv n m (mix (Rc c b nx) d t) := mix_dv hd ht fun i j hi hj si sj e h0 => by
    by_cases hi' : i = c
    ·subst hi'; exact hav j hj (by omega)
    ·obtain ⟨q, hq, sq, q1, q2, q3⟩ := back i si hi'
     have := ht.inj q j hq hj (by omega) q2
     subst this; exact sj sq
   have dA0 : Dv n m (mix (Rc c b nx) t d) := mix_dv ht hd fun i j hi hj si sj e h0 => by
    by_cases hi' : i = b
    ·subst hi'; exact hbS si
    ·exact sj (Rc.step si hi' ⟨hi, hj, h0, e.symm⟩)
   have dA : Dv n m (put1 (mix (Rc c b nx) t d) b l) := put1_dv dA0 (by omega) fun i hi hib e h0 => by
    by_cases si : Rc c b nx i
    ·rw [mix_in si] at e; exact hav i hi e
    ·rw [mix_out si] at e
     have := hd.inj i c hi hc (by omega) (by omega)
     subst this; exact si Rc.base
   refine ⟨_, dA, fun h0 i hi e => ?_, ?_⟩
   ·by_cases hib : i = b
    ·subst hib; rw [put1_eq] at e; exact hbl e.symm
    ·rw [put1_ne hib] at e
     by_cases si : Rc c b nx i
     ·rw [mix_in si] at e
      exact hbS (Rc.step si hib ⟨hi, hb, by omega, e.symm⟩)
     ·rw [mix_out si] at e
      exact hib (hd.inj i b hi hb e (by omega))
   have hB := hopt _ dB
   have e : wt n v (put1 (mix (Rc c b nx) t d) b l) + wt n v (mix (Rc c b nx) d t) = wt n v t + wt n v d + (v b l - v b (d b)) := by
    refine sm_at hb (fun i hi ib => ?_) ?_
    ·rw [put1_ne ib]
     by_cases si : Rc c b nx i
     ·rw [mix_in si, mix_in si]
     ·rw [mix_out si, mix_out si]; omega
    ·rw [put1_eq, mix_out hbS]; omega
   omega
 ·have hown : ∀ i, i < n → d i ≠ l := fun i hi e => hown ⟨i, hi, e⟩
  refine ⟨put1 d b l, put1_dv hd (by omega) (fun i hi _ e _ => hown i hi e), fun h0 i hi e => ?_, ?_⟩
  ·by_cases hib : i = b
   ·subst hib; rw [put1_eq] at e; exact hbl e.symm
   ·rw [put1_ne hib] at e
    exact hib (hd.inj i b hi hb e (by omega))
  have ht' := hopt _ ht
  have e : wt n v (put1 d b l) + wt n v t = wt n v t + wt n v d + (v b l - v b (d b)) := by
   refine sm_at hb (fun i hi ib => ?_) ?_
   ·rw [put1_ne ib]; omega
   ·rw [put1_eq]; omega
  omega
end

def pr (p : List Int) (x : Int) : Int := if x < 0 then 0 else (p[x.toNat]?).getD 0
theorem pr_neg {p : List Int} : pr p (-1) = 0 := rfl
theorem pr_nat {p : List Int} {l : Nat} (h : l < p.length) : pr p (l : Int) = p[l] := by
 unfold pr; rw [if_neg (by omega), Int.toNat_natCast, List.getElem?_eq_getElem h, Option.getD_some]
noncomputable def cif (P : Prop) (x : Int) : Int := by
 classical
 exact if P then x else 0
theorem cif_pos {P : Prop} {x : Int} (h : P) : cif P x = x := by unfold cif; rw [if_pos h]
theorem cif_neg {P : Prop} {x : Int} (h : ¬ P) : cif P x = 0 := by unfold cif; rw [if_neg h]
theorem sm_lots {m : Nat} {p : List Int} {S : Nat → Prop} {t : Nat → Int} : ∀ (n : Nat), Dv n m t → sm n (fun i => cif (S i) (pr p (t i))) = sm m (fun l => cif (∃ i, i < n ∧ S i ∧ t i = (l : Int)) (pr p l)) := by
 intro n
 induction n with
 | zero =>
  intro _
  have : ∀ k : Nat, sm k (fun l => cif (∃ i, i < 0 ∧ S i ∧ t i = (l : Int)) (pr p l)) = 0 := fun k => by
   induction k with
   | zero => rfl
   | succ k ih =>
    rw [sm, ih, cif_neg]
    ·rfl
    ·rintro ⟨i, hi, _⟩; omega
  exact (this m).symm
 | succ n ih =>
  intro h
  have hr := h.rg n (by omega)
  rw [sm, ih ⟨fun i hi => h.rg i (by omega), fun i j hi hj => h.inj i j (by omega) (by omega)⟩]
  by_cases hs : S n ∧ 0 ≤ t n
  ·obtain ⟨x, hx⟩ : ∃ x : Nat, t n = x := ⟨(t n).toNat, by omega⟩
   rw [cif_pos hs.1, hx]
   rw [← sm_one (n := m) (b := x) (c := pr p (x : Int)) (by omega), ← sm_add]
   refine sm_congr fun l hl => ?_
   by_cases hlx : l = x
   ·subst hlx
    rw [if_pos rfl, cif_neg, cif_pos ⟨n, by omega, hs.1, hx⟩]
    ·omega
    ·rintro ⟨i, hi, _, e⟩
     have := h.inj i n (by omega) (by omega) (by omega) (by omega)
     omega
   ·rw [if_neg hlx, Int.add_zero]
    by_cases hex : ∃ i, i < n ∧ S i ∧ t i = (l : Int)
    ·obtain ⟨i, h1, h2, h3⟩ := hex
     rw [cif_pos ⟨i, h1, h2, h3⟩, cif_pos ⟨i, by omega, h2, h3⟩]
    ·rw [cif_neg hex, cif_neg]
     rintro ⟨i, h1, h2, h3⟩
     by_cases hin : i = n
     ·subst hin; omega
     ·exact hex ⟨i, by omega, h2, h3⟩
  ·have e0 : cif (S n) (pr p (t n)) = 0 := by
    by_cases h1 : S n
    ·have : t n = -1 := by
      have : ¬ 0 ≤ t n := fun h2 => hs ⟨h1, h2⟩
      omega
     rw [cif_pos h1, this, pr_neg]
    ·rw [cif_neg h1]
   rw [e0, Int.add_zero]
   refine sm_congr fun l hl => ?_
   by_cases hex : ∃ i, i < n ∧ S i ∧ t i = (l : Int)
   ·obtain ⟨i, h1, h2, h3⟩ := hex
    rw [cif_pos ⟨i, h1, h2, h3⟩, cif_pos ⟨i, by omega, h2, h3⟩]
   ·rw [cif_neg hex, cif_neg]
    rintro ⟨i, h1, h2, h3⟩
    by_cases hin : i = n
    ·subst hin; exact hs ⟨h2, by omega⟩
    ·exact hex ⟨i, by omega, h2, h3⟩
structure Fp (n m : Nat) (v : Nat → Int → Int) (p : List Int) (d : Nat → Int) : Prop where
 len : p.length = m
 nn : ∀ l : Nat, l < m → 0 ≤ pr p l
 own : ∀ i, i < n → 0 ≤ v i (d i) - pr p (d i)
 best : ∀ i, i < n → ∀ l : Nat, l < m → v i l - pr p l ≤ v i (d i) - pr p (d i)
 free : ∀ l : Nat, l < m → (∀ i, i < n → d i ≠ l) → pr p l = 0
section
variable {n m : Nat} {v : Nat → Int → Int} {d t : Nat → Int} {p : List Int}
theorem sm_sold (hd : Dv n m d) (hfree : ∀ l : Nat, l < m → (∀ i, i < n → d i ≠ l) → pr p l = 0) : sm n (fun i => pr p (d i)) = sm m (fun l => pr p l) := by
 have e := sm_lots (p := p) (S := fun _ => True) n hd
 simp only [cif_pos trivial] at e
 rw [e]
 refine sm_congr fun l hl => ?_
 by_cases hex : ∃ i, i < n ∧ True ∧ d i = (l : Int)
 ·rw [cif_pos hex]
 ·rw [cif_neg hex, hfree l hl fun i hi e => hex ⟨i, hi, trivial, e⟩]
theorem sm_some (ht : Dv n m t) (hp : ∀ l : Nat, l < m → 0 ≤ pr p l) : sm n (fun i => pr p (t i)) ≤ sm m (fun l => pr p l) := by
 have e := sm_lots (p := p) (S := fun _ => True) n ht
 simp only [cif_pos trivial] at e
 rw [e]
 refine sm_le fun l hl => ?_
 by_cases hex : ∃ i, i < n ∧ True ∧ t i = (l : Int)
 ·rw [cif_pos hex]; exact Int.le_refl _
 ·rw [cif_neg hex]; exact hp l hl
theorem sm_sub {n : Nat} {f g : Nat → Int} : sm n (fun i => f i - g i) = sm n f - sm n g := by
 induction n with
 | zero => rfl
 | succ n ih => rw [sm, sm, sm, ih]; omega
theorem Fp.opts (h : Fp n m v p d) (hz : ∀ i, v i (-1) = 0) {i : Nat} (hi : i < n) {x : Int} (hx : -1 ≤ x ∧ x < m) : v i x - pr p x ≤ v i (d i) - pr p (d i) := by
 by_cases h0 : x < 0
 ·rw [show x = -1 by omega, hz, pr_neg]; exact h.own i hi
 ·have := h.best i hi x.toNat (by omega)
  rwa [show ((x.toNat : Nat) : Int) = x by omega] at this
theorem Fp.opt (h : Fp n m v p d) (hd : Dv n m d) (hz : ∀ i, v i (-1) = 0) (ht : Dv n m t) : wt n v t ≤ wt n v d := by
 have h1 : sm n (fun i => v i (t i) - pr p (t i)) ≤ sm n (fun i => v i (d i) - pr p (d i)) := sm_le fun i hi => h.opts hz hi (ht.rg i hi)
 rw [sm_sub, sm_sub, sm_sold hd h.free] at h1
 have h2 := sm_some ht h.nn
 show sm n (fun i => v i (t i)) ≤ sm n (fun i => v i (d i))
 omega
theorem sm_eq_of {n : Nat} {f g : Nat → Int} (h : ∀ i, i < n → f i ≤ g i) (e : sm n g ≤ sm n f) : ∀ i, i < n → f i = g i := by
 induction n with
 | zero => intro i hi; omega
 | succ n ih =>
  have h1 := sm_le (n := n) fun i hi => h i (by omega)
  have h2 := h n (by omega)
  rw [sm, sm] at e
  intro i hi
  by_cases hin : i = n
  ·subst hin; omega
  ·exact ih (fun i hi => h i (by omega)) (by omega) i (by omega)
theorem Fp.other (h : Fp n m v p d) (hd : Dv n m d) (hz : ∀ i, v i (-1) = 0) (ht : Dv n m t) (e : wt n v d ≤ wt n v t) : Fp n m v p t := by
 have h1 : ∀ i, i < n → v i (t i) - pr p (t i) ≤ v i (d i) - pr p (d i) := fun i hi => h.opts hz hi (ht.rg i hi)
 have h2 := sm_some ht h.nn
 have h3 := sm_sold hd h.free
 have e : sm n (fun i => v i (d i)) ≤ sm n (fun i => v i (t i)) := e
 have h4 := sm_eq_of h1 (by rw [sm_sub, sm_sub]; omega)
 have h5 : sm n (fun i => v i (t i) - pr p (t i)) = sm n (fun i => v i (d i) - pr p (d i)) := sm_congr h4
 rw [sm_sub, sm_sub] at h5
 refine ⟨h.len, h.nn, fun i hi => by rw [h4 i hi]; exact h.own i hi, fun i hi l hl => by rw [h4 i hi]; exact h.best i hi l hl, fun l hl hf => ?_⟩
 -- a lot that nobody gets costs nothing
 have q := sm_lots (p := p) (S := fun _ => True) n ht
 simp only [cif_pos trivial] at q
 have q2 := h.opt hd hz ht
 have q2 : sm n (fun i => v i (t i)) ≤ sm n (fun i => v i (d i)) := q2
 have q3 : sm n (fun i => pr p (t i)) = sm m (fun l => pr p l) := by omega
 rw [q] at q3
 have := sm_eq_of (n := m) (f := fun l => cif (∃ i, i < n ∧ True ∧ t i = (l : Int)) (pr p l)) (g := fun l => pr p (l : Int)) (fun l hl => by
  by_cases hex : ∃ i, i < n ∧ True ∧ t i = (l : Int)
  ·rw [cif_pos hex]; exact Int.le_refl _
  ·rw [cif_neg hex]; exact h.nn l hl) (by rw [q3]; exact Int.le_refl _) l hl

 rw [cif_neg] at this
 ·exact this.symm
 ·rintro ⟨i, hi, _, e⟩; exact hf i hi e
end
end
section
theorem mem_cand_of {m L : Nat} {x : Int} (h : -1 ≤ x ∧ x < m) (hb : 0 ≤ x → L.testBit x.toNat = true) : x ∈ cand m L true := by
 unfold cand
 by_cases h0 : x < 0
 ·rw [show x = -1 by omega]; simp
 ·simp only [if_true, List.mem_cons, List.mem_map, List.mem_filter, List.mem_range]
  exact .inr ⟨x.toNat, ⟨by omega, hb (by omega)⟩, by omega⟩
theorem dx_bit {L : Nat} (hL : L < 32) {x : Int} (hx : x < 5) {j : Nat} (hj : j < 5) : (dx L x).testBit j = (L.testBit j && decide ((j : Int) ≠ x)) := by
 unfold dx
 by_cases h0 : x < 0
 ·rw [if_pos h0, decide_eq_true (by omega), Bool.and_true]
 ·obtain ⟨l, rfl⟩ : ∃ l : Nat, x = l := ⟨x.toNat, by omega⟩
  rw [if_neg h0, Int.toNat_natCast, (look_L hL (by omega)).2.2.2 j hj]
  congr 1
  by_cases e : j = l
  ·subst e; simp
  ·rw [decide_eq_true (by omega)]; simpa using e
theorem mem_ds_iff {m : Nat} (hm : m ≤ 5) : ∀ (k i L : Nat) (l : List Int), L < 32 → (l ∈ ds m (-1) k i L ↔ l.length = k ∧ (∀ x ∈ l, -1 ≤ x ∧ x < m ∧ (0 ≤ x → L.testBit x.toNat = true)) ∧ l.Pairwise (fun a b => 0 ≤ a → a ≠ b))
 | 0, i, L, l, _ => by
  simp only [ds, List.mem_singleton]
  constructor
  ·rintro rfl; exact ⟨rfl, by simp, List.Pairwise.nil⟩
  ·rintro ⟨h, _, _⟩; exact List.eq_nil_of_length_eq_zero h
 | k + 1, i, L, l, hL => by
  have hi : decide ((i : Int) ≠ -1) = true := by simp <;> omega
  simp only [ds, hi]
  constructor
  ·intro h
   obtain ⟨x, hx, h⟩ := List.mem_flatMap.1 h
   obtain ⟨u, hu, rfl⟩ := List.mem_map.1 h
   obtain ⟨h1, h2, h3⟩ := (mem_ds_iff hm k (i + 1) (dx L x) u (dx_lt hm hL hx)).1 hu
   have hxr : -1 ≤ x ∧ x < m ∧ (0 ≤ x → L.testBit x.toNat = true) := by
    rcases mem_cand hx with rfl | ⟨j, rfl, h1, h2⟩
    ·exact ⟨by omega, by omega, fun h => by omega⟩
    ·exact ⟨by omega, by omega, fun _ => by rw [Int.toNat_natCast]; exact h2⟩
   refine ⟨by simp [h1], fun y hy => ?_, List.Pairwise.cons (fun y hy h0 e => ?_) h3⟩
   ·rcases List.mem_cons.1 hy with rfl | hy
    ·exact hxr
    ·have := h2 y hy
     refine ⟨this.1, this.2.1, fun h0 => ?_⟩
     have hb := this.2.2 h0
     rw [dx_bit hL (by omega) (by omega)] at hb
     simp only [Bool.and_eq_true] at hb
     exact hb.1
   ·have := h2 y hy
    have hb := this.2.2 (by omega)
    rw [dx_bit hL (by omega) (by omega)] at hb
    simp only [Bool.and_eq_true, decide_eq_true_eq] at hb
    exact hb.2 (by omega)
  ·rintro ⟨h1, h2, h3⟩
   match l, h1, h2, h3 with
   | x :: u, h1, h2, h3 =>
    have hx := h2 x (by simp)
    have hxc := mem_cand_of ⟨hx.1, hx.2.1⟩ hx.2.2
    refine List.mem_flatMap.2 ⟨x, hxc, List.mem_map.2 ⟨u, (mem_ds_iff hm k (i + 1) (dx L x) u (dx_lt hm hL hxc)).2 ⟨by simpa using h1, fun y hy => ?_, (List.pairwise_cons.1 h3).2⟩, rfl⟩⟩
    have hy2 := h2 y (by simp [hy])
    refine ⟨hy2.1, hy2.2.1, fun h0 => ?_⟩
    rw [dx_bit hL (by omega) (by omega), hy2.2.2 h0, Bool.true_and]
    refine decide_eq_true fun e => ?_
    exact (List.pairwise_cons.1 h3).1 y hy (by omega) (by omega)
def fl (l : List Int) : Nat → Int := fun i => l[i]?.getD (-1)
theorem fl_get {l : List Int} {i : Nat} (h : i < l.length) : fl l i = l[i] := by unfold fl; rw [List.getElem?_eq_getElem h, Option.getD_some]
theorem fl_map {n i : Nat} {t : Nat → Int} (h : i < n) : fl ((List.range n).map t) i = t i := by
 rw [fl_get (by simpa using h)]; simp
theorem ds_dv {m n L : Nat} (hm : m ≤ 5) (hL : L < 32) {l : List Int} (h : l ∈ ds m (-1) n 0 L) : Dv n m (fl l) ∧ ∀ i, i < n → 0 ≤ fl l i → L.testBit (fl l i).toNat = true := by
 obtain ⟨h1, h2, h3⟩ := (mem_ds_iff hm n 0 L l hL).1 h
 have hr : ∀ i, i < n → fl l i ∈ l := fun i hi => by rw [fl_get (by omega)]; exact List.getElem_mem _
 refine ⟨⟨fun i hi => ⟨(h2 _ (hr i hi)).1, (h2 _ (hr i hi)).2.1⟩, fun i j hi hj e h0 => ?_⟩, fun i hi h0 => (h2 _ (hr i hi)).2.2 h0⟩
 rw [List.pairwise_iff_getElem] at h3
 rw [fl_get (by omega), fl_get (by omega)] at e
 rw [fl_get (by omega)] at h0
 by_cases hij : i < j
 ·exact absurd e (h3 i j (by omega) (by omega) hij h0)
 ·by_cases hji : j < i
  ·exact absurd e.symm (h3 j i (by omega) (by omega) hji (by omega))
  ·omega
theorem dv_ds {m n L : Nat} (hm : m ≤ 5) (hL : L < 32) {t : Nat → Int} (h : Dv n m t) (hb : ∀ i, i < n → 0 ≤ t i → L.testBit (t i).toNat = true) : (List.range n).map t ∈ ds m (-1) n 0 L := by
 refine (mem_ds_iff hm n 0 L _ hL).2 ⟨by simp, fun x hx => ?_, ?_⟩
 ·obtain ⟨i, hi, rfl⟩ := List.mem_map.1 hx
  have hi := List.mem_range.1 hi
  exact ⟨(h.rg i hi).1, (h.rg i hi).2, hb i hi⟩
 ·rw [List.pairwise_iff_getElem]
  intro i j hi hj hij h0 e
  have hi' : i < n := by simpa using hi
  have hj' : j < n := by simpa using hj
  rw [List.getElem_map, List.getElem_range] at h0 e
  rw [List.getElem_map, List.getElem_range] at e
  have := h.inj i j hi' hj' e h0
  omega
theorem sm_front (n : Nat) (f : Nat → Int) : sm (n + 1) f = f 0 + sm n (fun i => f (i + 1)) := by
 induction n with
 | zero => simp [sm]
 | succ n ih => rw [sm, ih, sm]; omega
def va (s : List (List Int)) (i : Nat) (x : Int) : Int := vl (s[i]?.getD []) x
theorem va_none (s : List (List Int)) (i : Nat) : va s i (-1) = 0 := rfl
theorem wv_wt : ∀ (s : List (List Int)) (l : List Int), l.length = s.length → wv s l = wt s.length (va s) (fl l)
 | [], l, h => by cases l <;> rfl
 | r :: rs, [], h => by simp at h
 | r :: rs, x :: xs, h => by
  rw [wv, wv_wt rs xs (by simpa using h)]
  show _ = sm (rs.length + 1) _
  rw [sm_front]
  rfl
theorem all_lt {m : Nat} (hm : m ≤ 5) : all_ m < 32 := (f69_eq (F := 0) (M := []) (s := []) hm).2
section
variable {m : Nat} {s : List (List Int)} (hv : Vs m s)
include hv
theorem moL_top {L : Nat} (hL : L < 32) : (∀ t, Dv s.length m t → (∀ i, i < s.length → 0 ≤ t i → L.testBit (t i).toNat = true) → wt s.length (va s) t ≤ (mo m (-1) s 0 L).1) ∧
  ∃ t, Dv s.length m t ∧ (∀ i, i < s.length → 0 ≤ t i → L.testBit (t i).toNat = true) ∧ wt s.length (va s) t = (mo m (-1) s 0 L).1 := by
 have e := mo_ds (-1) s 0 L hv.ok
 obtain ⟨q1, q2, _⟩ := mxc_max ((ds m (-1) s.length 0 L).map (wv s)) (fun w hw => by obtain ⟨t, _, rfl⟩ := List.mem_map.1 hw; exact wv_nn s t hv.ok)
 rw [← e] at q1 q2
 constructor
 ·intro t ht hb
  have := q1 _ (List.mem_map.2 ⟨_, dv_ds hv.m5 hL ht hb, rfl⟩)
  rw [wv_wt s _ (by simp)] at this
  rw [show wt s.length (va s) t = wt s.length (va s) (fl ((List.range s.length).map t)) from sm_congr fun i hi => by rw [fl_map hi]]
  exact this
 ·obtain ⟨t, ht, h⟩ := List.mem_map.1 (q2 (by simp [ds_ne]))
  obtain ⟨h1, h2⟩ := ds_dv hv.m5 hL ht
  refine ⟨fl t, h1, h2, ?_⟩
  rw [← wv_wt s t (ds_range _ _ _ _ ht).1]
  exact h
theorem bit_all {t : Nat → Int} (ht : Dv s.length m t) : ∀ i, i < s.length → 0 ≤ t i → (all_ m).testBit (t i).toNat = true := fun i hi h0 => by
 have _ := hv
 have := ht.rg i hi
 rw [all_bit]; exact decide_eq_true (by omega)
theorem best_dv : Dv s.length m (lot m s) := (ds_dv hv.m5 (all_lt hv.m5) (best_mem hv).1).1
theorem best_wt : wt s.length (va s) (lot m s) = W m s (-1) := by
 rw [← best_W hv, wv_wt s _ (best_len hv).1]
 rfl
theorem best_opt {u : Nat → Int} (h : Dv s.length m u) : wt s.length (va s) u ≤ wt s.length (va s) (lot m s) := by
 rw [best_wt hv]
 exact (moL_top hv (all_lt hv.m5)).1 u h (bit_all hv h)
theorem W_le {b : Nat} (hb : b < s.length) {t : Nat → Int} (ht : Dv s.length m t) (h : t b = -1) : wt s.length (va s) t ≤ W m s b := by
 have h1 := (W_top hv b).1 _ (dv_ds hv.m5 (all_lt hv.m5) ht (bit_all hv ht))
 have h2 := wB_split (b := b) s ((List.range s.length).map t) 0 (by simp) (by omega) (by omega)
 have e : ((List.range s.length).map t)[b - 0]?.getD (-1) = -1 := by
  rw [Nat.sub_zero, show ((List.range s.length).map t)[b]?.getD (-1) = fl ((List.range s.length).map t) b from rfl, fl_map hb, h]
 rw [e, wv_wt s _ (by simp), show vl (s[b - 0]?.getD []) (-1) = 0 from rfl] at h2
 rw [show wt s.length (va s) t = wt s.length (va s) (fl ((List.range s.length).map t)) from sm_congr fun i hi => by rw [fl_map hi]]
 omega
theorem W_ex {b : Nat} (hb : b < s.length) : ∃ t, Dv s.length m t ∧ t b = -1 ∧ wt s.length (va s) t = W m s b := by
 obtain ⟨t, h1, h2⟩ := (W_top hv b).2
 have hd := (ds_dv hv.m5 (all_lt hv.m5) h1).1
 refine ⟨put1 (fl t) b (-1), put1_dv hd (by omega) (fun _ _ _ _ h => by omega), put1_eq, ?_⟩
 have h3 := wB_split (b := b) s t 0 (ds_range _ _ _ _ h1).1 (by omega) (by omega)
 rw [wv_wt s t (ds_range _ _ _ _ h1).1, Nat.sub_zero, h2] at h3
 have e : wt s.length (va s) (put1 (fl t) b (-1)) + sm s.length (fun _ => 0) = wt s.length (va s) (fl t) + sm s.length (fun _ => 0) + (- va s b (fl t b)) := by
  refine sm_at hb (fun i hi ib => ?_) ?_
  ·rw [put1_ne ib]
  ·rw [put1_eq, va_none]; omega
 have e2 : vl (s[b]?.getD []) (t[b]?.getD (-1)) = va s b (fl t b) := rfl
 rw [e2] at h3
 omega
theorem pay_none {b : Nat} (hb : b < s.length) (h : lot m s b = -1) : pay m s b = 0 := by
 have := pay_bd hv hb
 rw [h, show vl (s[b]?.getD []) (-1) = 0 from rfl] at this
 omega
end
def ow (n : Nat) (d : Nat → Int) (l : Nat) : Option Nat := (List.range n).find? fun b => d b == (l : Int)
theorem ow_some {n m l b : Nat} {d : Nat → Int} (hd : Dv n m d) (hb : b < n) (h : d b = (l : Int)) : ow n d l = some b := by
 unfold ow
 cases hf : (List.range n).find? fun b => d b == (l : Int) with
 | some c =>
  have h1 := List.find?_some hf
  have h2 := List.mem_range.1 (List.mem_of_find?_eq_some hf)
  simp only [beq_iff_eq] at h1
  rw [hd.inj c b h2 hb (by omega) (by omega)]
 | none =>
  have := List.find?_eq_none.1 hf b (List.mem_range.2 hb)
  simp [h] at this
theorem ow_none {n l : Nat} {d : Nat → Int} (h : ∀ b, b < n → d b ≠ (l : Int)) : ow n d l = none := by
 unfold ow
 rw [List.find?_eq_none]
 intro b hb
 simpa using h b (List.mem_range.1 hb)
def lowP (m : Nat) (s : List (List Int)) : List Int := (List.range m).map fun l => match ow s.length (lot m s) l with | some b => pay m s b | none => 0
def Vx (m : Nat) (s : List (List Int)) (l : Nat) : Int := (mo m (-1) s 0 (dl (all_ m) l)).1
def highP (m : Nat) (s : List (List Int)) : List Int := (List.range m).map fun l => W m s (-1) - Vx m s l
theorem lowP_len {m : Nat} {s : List (List Int)} : (lowP m s).length = m := by simp [lowP]
theorem highP_len {m : Nat} {s : List (List Int)} : (highP m s).length = m := by simp [highP]
theorem lowP_pr {m l : Nat} {s : List (List Int)} (hl : l < m) : pr (lowP m s) l = match ow s.length (lot m s) l with | some b => pay m s b | none => 0 := by
 rw [pr_nat (by rw [lowP_len]; exact hl)]; unfold lowP; simp
theorem highP_pr {m l : Nat} {s : List (List Int)} (hl : l < m) : pr (highP m s) l = W m s (-1) - Vx m s l := by
 rw [pr_nat (by rw [highP_len]; exact hl)]; unfold highP; simp
section
variable {m : Nat} {s : List (List Int)} (hv : Vs m s)
include hv
theorem lowP_own {b l : Nat} (hb : b < s.length) (hl : l < m) (h : lot m s b = (l : Int)) : pr (lowP m s) l = pay m s b := by
 rw [lowP_pr hl, ow_some (best_dv hv) hb h]
theorem lowP_free {l : Nat} (hl : l < m) (h : ∀ b, b < s.length → lot m s b ≠ (l : Int)) : pr (lowP m s) l = 0 := by
 have _ := hv
 rw [lowP_pr hl, ow_none h]
theorem lowP_at {b : Nat} (hb : b < s.length) : pr (lowP m s) (lot m s b) = pay m s b := by
 have hr := (best_dv hv).rg b hb
 by_cases h0 : lot m s b < 0
 ·have e : lot m s b = -1 := by omega
  rw [e, pr_neg, pay_none hv hb e]
 ·obtain ⟨l, hl⟩ : ∃ l : Nat, lot m s b = l := ⟨(lot m s b).toNat, by omega⟩
  rw [hl, lowP_own hv hb (by omega) hl]
theorem own_or {l : Nat} : (∃ b, b < s.length ∧ lot m s b = (l : Int)) ∨ ∀ b, b < s.length → lot m s b ≠ (l : Int) := by
 have _ := hv
 by_cases h : ∃ b, b < s.length ∧ lot m s b = (l : Int)
 ·exact .inl h
 ·exact .inr fun b hb e => h ⟨b, hb, e⟩
theorem pay_W {b : Nat} : pay m s b = W m s b - (W m s (-1) - va s b (lot m s b)) := by
 have _ := hv
 exact rfl
theorem lowP_fair : Fp s.length m (va s) (lowP m s) (lot m s) := by
 have hd := best_dv hv
 refine ⟨lowP_len, fun l hl => ?_, fun i hi => ?_, fun i hi l hl => ?_, fun l hl h => lowP_free hv hl h⟩
 ·rcases own_or hv (l := l) with ⟨b, hb, e⟩ | h
  ·rw [lowP_own hv hb hl e]; exact (pay_bd hv hb).1
  ·rw [lowP_free hv hl h]; exact Int.le_refl _
 ·rw [lowP_at hv hi]
  have := (pay_bd hv hi).2
  have e : vl (s[i]?.getD []) (lot m s i) = va s i (lot m s i) := rfl
  omega
 ·rw [lowP_at hv hi]
  have hpi := pay_W hv (b := i)
  rcases own_or hv (l := l) with ⟨c, hc, e⟩ | h
  ·rw [lowP_own hv hc hl e]
   by_cases hic : i = c
   ·subst hic; rw [e]; exact Int.le_refl _
   ·obtain ⟨t, t1, t2, t3⟩ := W_ex hv hi
    obtain ⟨A, a1, a2, a3⟩ := ex_own (v := va s) (va_none s) hd t1 (fun u hu => best_opt hv hu) hi hc hic t2 (by omega)
    have := W_le hv hc a1 a2
    have hpc := pay_W hv (b := c)
    rw [e] at a3 hpc
    omega
  ·rw [lowP_free hv hl h]
   obtain ⟨t, t1, t2, t3⟩ := W_ex hv hi
   have := ex_free (v := va s) (l := (l : Int)) (va_none s) hd t1 (fun u hu => best_opt hv hu) hi t2 (by omega) h
   rw [best_wt hv] at this
   omega
theorem lowP_least {p : List Int} (hp : Fp s.length m (va s) p (lot m s)) {l : Nat} (hl : l < m) : pr (lowP m s) l ≤ pr p l := by
 have hd := best_dv hv
 rcases own_or hv (l := l) with ⟨b, hb, e⟩ | h
 ·rw [lowP_own hv hb hl e]
  obtain ⟨t, t1, t2, t3⟩ := W_ex hv hb
  have h1 : sm s.length (fun i => va s i (t i) - pr p (t i)) ≤ sm s.length (fun i => (va s i (lot m s i) - pr p (lot m s i)) + (if i = b then - (va s b (lot m s b) - pr p (lot m s b)) else 0)) := sm_le fun i hi => by
   by_cases hib : i = b
   ·subst hib; rw [if_pos rfl, t2, va_none, pr_neg]; omega
   ·rw [if_neg hib, Int.add_zero]; exact hp.opts (va_none s) hi (t1.rg i hi)
  rw [sm_add, sm_one hb, sm_sub, sm_sub, sm_sold hd hp.free] at h1
  have h2 := sm_some t1 hp.nn
  have h3 := best_wt hv
  have h3 : sm s.length (fun i => va s i (lot m s i)) = W m s (-1) := h3
  have t3 : sm s.length (fun i => va s i (t i)) = W m s b := t3
  have h4 := pay_W hv (b := b)
  rw [e] at h1 h4
  omega
 ·rw [lowP_free hv hl h]; exact hp.nn l hl
theorem Vx_le {l : Nat} (hl : l < m) {t : Nat → Int} (ht : Dv s.length m t) (h : ∀ i, i < s.length → t i ≠ (l : Int)) : wt s.length (va s) t ≤ Vx m s l := by
 have hm := hv.m5
 obtain ⟨_, _, a3, a4⟩ := look_L (all_lt hm) (show l < 5 by omega)
 refine (moL_top hv a3).1 t ht fun i hi h0 => ?_
 have := ht.rg i hi
 have hne := h i hi
 rw [a4 _ (by omega), all_bit, decide_eq_true (by omega), Bool.true_and]
 simp; omega
theorem Vx_ex {l : Nat} (hl : l < m) : ∃ t, Dv s.length m t ∧ (∀ i, i < s.length → t i ≠ (l : Int)) ∧ wt s.length (va s) t = Vx m s l := by
 have hm := hv.m5
 obtain ⟨_, _, a3, a4⟩ := look_L (all_lt hm) (show l < 5 by omega)
 obtain ⟨t, t1, t2, t3⟩ := (moL_top hv a3).2
 refine ⟨t, t1, fun i hi e => ?_, t3⟩
 have := t2 i hi (by omega)
 rw [e, Int.toNat_natCast, a4 l (by omega)] at this
 simp at this
theorem highP_fair : Fp s.length m (va s) (highP m s) (lot m s) := by
 have hd := best_dv hv
 have hW := best_wt hv
 have nn : ∀ l : Nat, l < m → 0 ≤ pr (highP m s) l := fun l hl => by
  obtain ⟨t, t1, _, t3⟩ := Vx_ex hv hl
  have := best_opt hv t1
  rw [highP_pr hl]; omega
 refine ⟨highP_len, nn, fun i hi => ?_, fun i hi l hl => ?_, fun l hl h => ?_⟩
 ·have hr := hd.rg i hi
  by_cases h0 : lot m s i < 0
  ·rw [show lot m s i = -1 by omega]; exact Int.le_refl _
  ·obtain ⟨l, hl⟩ : ∃ l : Nat, lot m s i = l := ⟨(lot m s i).toNat, by omega⟩
   have hu : Dv s.length m (put1 (lot m s) i (-1)) := put1_dv hd (by omega) (fun _ _ _ _ h => by omega)
   have := Vx_le hv (l := l) (by omega) hu fun j hj e => by
    by_cases hji : j = i
    ·subst hji; rw [put1_eq] at e; omega
    ·rw [put1_ne hji] at e; exact hji (hd.inj j i hj hi (by omega) (by omega))
   have e : wt s.length (va s) (put1 (lot m s) i (-1)) + sm s.length (fun _ => 0) = wt s.length (va s) (lot m s) + sm s.length (fun _ => 0) + (- va s i (lot m s i)) := by
    refine sm_at hi (fun j hj ij => ?_) ?_
    ·rw [put1_ne ij]
    ·rw [put1_eq, va_none]; omega
   rw [hl] at e ⊢
   rw [highP_pr (by omega)]
   omega
 ·by_cases hil : lot m s i = (l : Int)
  ·rw [hil]; exact Int.le_refl _
  ·obtain ⟨t, t1, t2, t3⟩ := Vx_ex hv hl
   obtain ⟨A, a1, a2, a3⟩ := ex_lot (v := va s) (l := (l : Int)) hd t1 (fun u hu => best_opt hv hu) hi (by omega) t2 hil
   have hr := hd.rg i hi
   rw [highP_pr hl]
   by_cases h0 : lot m s i < 0
   ·rw [show lot m s i = -1 by omega, va_none, pr_neg]
    rw [show lot m s i = -1 by omega, va_none] at a3
    have := best_opt hv a1
    omega
   ·obtain ⟨x, hx⟩ : ∃ x : Nat, lot m s i = x := ⟨(lot m s i).toNat, by omega⟩
    have := Vx_le hv (l := x) (by omega) a1 (fun j hj => by rw [← hx]; exact a2 (by omega) j hj)
    rw [hx] at a3 ⊢
    rw [highP_pr (by omega)]
    omega
 ·have h1 := nn l hl
  have h2 := Vx_le hv hl hd h
  rw [highP_pr hl] at h1 ⊢
  omega
theorem highP_most {p : List Int} (hp : Fp s.length m (va s) p (lot m s)) {l : Nat} (hl : l < m) : pr p l ≤ pr (highP m s) l := by
 have hd := best_dv hv
 rw [highP_pr hl]
 obtain ⟨t, t1, t2, t3⟩ := Vx_ex hv hl
 have h1 : sm s.length (fun i => va s i (t i) - pr p (t i)) ≤ sm s.length (fun i => va s i (lot m s i) - pr p (lot m s i)) := sm_le fun i hi => hp.opts (va_none s) hi (t1.rg i hi)
 rw [sm_sub, sm_sub, sm_sold hd hp.free] at h1
 have e := sm_lots (p := p) (S := fun _ => True) s.length t1
 simp only [cif_pos trivial] at e
 have h2 : sm s.length (fun i => pr p (t i)) ≤ sm m (fun k => pr p k + if k = l then - pr p l else 0) := by
  rw [e]
  refine sm_le fun k hk => ?_
  by_cases hex : ∃ i, i < s.length ∧ True ∧ t i = (k : Int)
  ·rw [cif_pos hex]
   by_cases hkl : k = l
   ·subst hkl
    obtain ⟨i, hi, _, e⟩ := hex
    exact absurd e (t2 i hi)
   ·rw [if_neg hkl]; omega
  ·rw [cif_neg hex]
   by_cases hkl : k = l
   ·subst hkl; rw [if_pos rfl]; omega
   ·rw [if_neg hkl, Int.add_zero]; exact hp.nn k hk
 rw [sm_add, sm_one hl] at h2
 have h3 : sm s.length (fun i => va s i (lot m s i)) = W m s (-1) := best_wt hv
 have t3 : sm s.length (fun i => va s i (t i)) = Vx m s l := t3
 omega
theorem pr_ext {p q : List Int} (hp : p.length = m) (hq : q.length = m) (h : ∀ l : Nat, l < m → pr p l = pr q l) : p = q := by
 have _ := hv
 refine List.ext_getElem (by omega) fun l h1 h2 => ?_
 have := h l (by omega)
 rwa [pr_nat h1, pr_nat h2] at this
end
end
section
abbrev tot (m : Nat) (p : List Int) : Int := sm m fun l => pr p (l : Int)
theorem pr_opt {p : List Int} {l : Nat} (h : l < p.length) : p[l]? = some (pr p l) := by rw [pr_nat h, List.getElem?_eq_getElem h]
theorem pr_set {p : List Int} {l k : Nat} {w : Int} (hl : l < p.length) : pr (p.set l w) (k : Int) = if k = l then w else pr p k := by
 unfold pr
 have h0 : ¬ (k : Int) < 0 := by omega
 rw [if_neg h0, if_neg h0, Int.toNat_natCast, List.getElem?_set]
 by_cases h : k = l
 ·subst h; rw [if_pos rfl, if_pos rfl, if_pos hl]; rfl
 ·rw [if_neg (fun e => h e.symm), if_neg h]
theorem pr_set_neg {p : List Int} {l : Nat} {w x : Int} (hl : l < p.length) (hx : x ≠ (l : Int)) : pr (p.set l w) x = pr p x := by
 by_cases h : x < 0
 ·unfold pr; rw [if_pos h, if_pos h]
 ·obtain ⟨k, rfl⟩ : ∃ k : Nat, x = k := ⟨x.toNat, by omega⟩
  rw [pr_set hl, if_neg (by omega)]
theorem tot_set {m l : Nat} {p : List Int} {w : Int} (hp : p.length = m) (hl : l < m) : tot m (p.set l w) = tot m p + (w - pr p l) := by
 rw [show tot m p + (w - pr p l) = sm m (fun k => pr p (k : Int) + if k = l then w - pr p l else 0) by rw [sm_add, sm_one hl]]
 refine sm_congr fun k hk => ?_
 rw [pr_set (by omega)]
 by_cases h : k = l
 ·subst h; rw [if_pos rfl, if_pos rfl]; omega
 ·rw [if_neg h, if_neg h, Int.add_zero]
theorem sm_bd {m : Nat} {f : Nat → Int} {c : Int} (h : ∀ l, l < m → 0 ≤ f l ∧ f l ≤ c) : 0 ≤ sm m f ∧ sm m f ≤ m * c := by
 induction m with
 | zero => simp [sm]
 | succ m ih =>
  have h1 := ih fun l hl => h l (by omega)
  have h2 := h m (by omega)
  have e : ((m + 1 : Nat) : Int) * c = m * c + c := by rw [show ((m + 1 : Nat) : Int) = (m : Int) + 1 by omega, Int.add_mul, Int.one_mul]
  rw [sm, e]; omega
section
variable {m : Nat} {s : List (List Int)} (hv : Vs m s)
include hv
theorem va_at {i l : Nat} (hi : i < s.length) (hl : l < m) (h : l < s[i].length) : s[i][l] = va s i l := by
 have _ := hv
 unfold va vl
 rw [if_neg (by omega), Int.toNat_natCast, List.getElem?_eq_getElem hi, Option.getD_some, List.getElem?_eq_getElem h, Option.getD_some]
theorem va_bd {i : Nat} {x : Int} : 0 ≤ va s i x ∧ va s i x ≤ 99 := row_bd (b := i) hv x
theorem lowP_bd {l : Nat} (hl : l < m) : 0 ≤ pr (lowP m s) l ∧ pr (lowP m s) l ≤ 99 := by
 refine ⟨(lowP_fair hv).nn l hl, ?_⟩
 rcases own_or hv (l := l) with ⟨b, hb, e⟩ | h
 ·have := (lowP_fair hv).own b hb
  have := va_bd hv (i := b) (x := lot m s b)
  rw [← e]; omega
 ·rw [lowP_free hv hl h]; decide
end
structure Lo (m : Nat) (P p : List Int) : Prop where
 len : p.length = m
 bd : ∀ l : Nat, l < m → 0 ≤ pr p l ∧ pr p l ≤ pr P l
section
variable {m i F : Nat} {s : List (List Int)} {M : Mm} {P D : List Int}
theorem Lo.set {p : List Int} {l : Nat} {w : Int} (h : Lo m P p) (hl : l < m) (h1 : pr p l < w) (h2 : w ≤ pr P l) : Lo m P (p.set l w) ∧ tot m p < tot m (p.set l w) := by
 have h0 := h.bd l hl
 refine ⟨⟨by rw [List.length_set]; exact h.len, fun k hk => ?_⟩, ?_⟩
 ·rw [pr_set (by rw [h.len]; exact hl)]
  by_cases e : k = l
  ·subst e; rw [if_pos rfl]; omega
  ·rw [if_neg e]; exact h.bd k hk
 ·rw [tot_set h.len hl]; omega
theorem low_own (hv : Vs m s) (hi : i < s.length) {x : Nat} (hx : x < m) (hP9 : ∀ l : Nat, l < m → pr P l ≤ 1000) (hP : ∀ l : Nat, l < m → pr P x + (va s i l - va s i x) ≤ pr P l) : ∀ (k j : Nat) (f : Bool) (p : List Int), m < k + j → j ≤ m → Lo m P p →
  ∃ f' p', f88_p10_4 F 0 m D i x M s m k f j p = some (f', p') ∧ Lo m P p' ∧ ((f' = f ∧ p' = p ∧ ∀ l : Nat, j ≤ l → l < m → l ≠ x → pr p x + (va s i l - va s i x) ≤ pr p l) ∨ (f' = true ∧ tot m p < tot m p')) := by
 have hm := hv.m5
 intro k
 induction k with
 | zero => intro j f p h _; omega
 | succ k ih =>
  intro j f p h1 h2 h3
  unfold f88_p10_4
  by_cases hj : j < m
  ·have hlen := (hv.ok _ (List.getElem_mem hi)).1
   have e1 : w64 ((j : Int) + 1) = ((j + 1 : Nat) : Int) := w64_succ (by omega)
   rw [if_pos (by simp; omega), e1]
   by_cases hjx : j = x
   ·rw [if_neg (by simp [hjx])]
    obtain ⟨f', p', g1, g2, g3⟩ := ih (j + 1) f p (by omega) (by omega) h3
    refine ⟨f', p', g1, g2, ?_⟩
    rcases g3 with ⟨a, b, c⟩ | g3
    ·exact .inl ⟨a, b, fun l hl1 hl2 hl3 => c l (by omega) hl2 hl3⟩
    ·exact .inr g3
   ·have b1 := h3.bd j hj
    have b2 := h3.bd x hx
    have b3 := va_bd hv (i := i) (x := (j : Int))
    have b4 := va_bd hv (i := i) (x := (x : Int))
    have b5 := hP9 x hx
    have b6 := hP j hj
    have ev : vl s[i] (x : Int) = va s i x := by unfold va; rw [List.getElem?_eq_getElem hi, Option.getD_some]
    rw [if_pos (by simp; omega), req_pos (by omega), at_get hi, Option.bind_some, at_get (by omega), Option.bind_some, f72_eq hv.ok hi ⟨by omega, by omega⟩, Option.bind_some, va_at hv hi hj, ev, w64_in (n := va s i j - va s i x) (by omega)]
    unfold f89
    rw [Nat.zero_add, Nat.zero_add, Int.toNat_natCast, Int.toNat_natCast, pr_opt (l := j) (by rw [h3.len]; exact hj), Option.bind_some, pr_opt (l := x) (by rw [h3.len]; exact hx), Option.bind_some, w64_in (by omega)]
    by_cases hc : pr p j ≥ pr p x + (va s i j - va s i x)
    ·rw [if_pos (by simpa using hc), Option.bind_some]
     dsimp only
     unfold f88_p13_9
     rw [if_neg (by decide), Option.bind_some]
     obtain ⟨f', p', g1, g2, g3⟩ := ih (j + 1) f p (by omega) (by omega) h3
     refine ⟨f', p', g1, g2, ?_⟩
     rcases g3 with ⟨a, b, c⟩ | g3
     ·refine .inl ⟨a, b, fun l hl1 hl2 hl3 => ?_⟩
      by_cases hlj : l = j
      ·subst hlj; exact hc
      ·exact c l (by omega) hl2 hl3
     ·exact .inr g3
    ·obtain ⟨s1, s2⟩ := h3.set hj (w := pr p x + (va s i j - va s i x)) (by omega) (by omega)
     rw [if_neg (by simpa using hc), req_pos (by rw [h3.len]; exact hj), Option.bind_some]
     dsimp only
     unfold f88_p13_9
     rw [if_pos rfl, Option.bind_some]
     obtain ⟨f', p', g1, g2, g3⟩ := ih (j + 1) true _ (by omega) (by omega) s1
     refine ⟨f', p', g1, g2, .inr ?_⟩
     rcases g3 with ⟨a, b, c⟩ | g3
     ·rw [b]; exact ⟨a, s2⟩
     ·exact ⟨g3.1, by omega⟩
  ·rw [if_neg (by simp; omega)]
   exact ⟨f, p, rfl, h3, .inl ⟨rfl, rfl, fun l hl1 hl2 => by omega⟩⟩
theorem low_none (hv : Vs m s) (hi : i < s.length) (hP : ∀ l : Nat, l < m → va s i l ≤ pr P l) : ∀ (k j : Nat) (f : Bool) (p : List Int), m < k + j → j ≤ m → Lo m P p →
  ∃ f' p', f88_p10_5 F 0 m D i (-1) M s m k f j p = some (f', p') ∧ Lo m P p' ∧ ((f' = f ∧ p' = p ∧ ∀ l : Nat, j ≤ l → l < m → va s i l ≤ pr p l) ∨ (f' = true ∧ tot m p < tot m p')) := by
 have hm := hv.m5
 intro k
 induction k with
 | zero => intro j f p h _; omega
 | succ k ih =>
  intro j f p h1 h2 h3
  unfold f88_p10_5
  by_cases hj : j < m
  ·have hlen := (hv.ok _ (List.getElem_mem hi)).1
   have e1 : w64 ((j : Int) + 1) = ((j + 1 : Nat) : Int) := w64_succ (by omega)
   have b1 := h3.bd j hj
   have b3 := va_bd hv (i := i) (x := (j : Int))
   have b6 := hP j hj
   rw [if_pos (by simp; omega), e1, if_pos (by simp <;> omega), req_pos (by omega), at_get hi, Option.bind_some, at_get (by omega), Option.bind_some, f72_eq hv.ok hi ⟨by omega, by omega⟩, Option.bind_some, va_at hv hi hj, show vl s[i] (-1) = 0 from rfl, Int.sub_zero, w64_in (n := va s i j) (by omega)]
   unfold f89_1
   rw [Nat.zero_add, Int.toNat_natCast, pr_opt (l := j) (by rw [h3.len]; exact hj), Option.bind_some, Int.zero_add, w64_in (n := va s i j) (by omega)]
   by_cases hc : pr p j ≥ va s i j
   ·rw [if_pos (by simpa using hc), Option.bind_some]
    dsimp only
    unfold f88_p13_11
    rw [if_neg (by decide), Option.bind_some]
    obtain ⟨f', p', g1, g2, g3⟩ := ih (j + 1) f p (by omega) (by omega) h3
    refine ⟨f', p', g1, g2, ?_⟩
    rcases g3 with ⟨a, b, c⟩ | g3
    ·refine .inl ⟨a, b, fun l hl1 hl2 => ?_⟩
     by_cases hlj : l = j
     ·subst hlj; exact hc
     ·exact c l (by omega) hl2
    ·exact .inr g3
   ·obtain ⟨s1, s2⟩ := h3.set hj (w := va s i j) (by omega) (by omega)
    rw [if_neg (by simpa using hc), req_pos (by rw [h3.len]; exact hj), Option.bind_some]
    dsimp only
    unfold f88_p13_11
    rw [if_pos rfl, Option.bind_some]
    obtain ⟨f', p', g1, g2, g3⟩ := ih (j + 1) true _ (by omega) (by omega) s1
    refine ⟨f', p', g1, g2, .inr ?_⟩
    rcases g3 with ⟨a, b, c⟩ | g3
    ·rw [b]; exact ⟨a, s2⟩
    ·exact ⟨g3.1, by omega⟩
  ·rw [if_neg (by simp; omega)]
   exact ⟨f, p, rfl, h3, .inl ⟨rfl, rfl, fun l hl1 hl2 => by omega⟩⟩
abbrev Con (m : Nat) (s : List (List Int)) (i : Nat) (p : List Int) : Prop := ∀ l : Nat, l < m → va s i l - pr p l ≤ va s i (lot m s i) - pr p (lot m s i)
theorem low_pass (hF : 100 ≤ F) (hv : Vs m s) : ∀ (k i : Nat) (f : Bool) (p : List Int), i ≤ s.length → s.length < k + i → Lo m (lowP m s) p →
  ∃ f' p', f88_p5_1 F 0 m (bestD m s) M s m k f i p = some (f', p') ∧ Lo m (lowP m s) p' ∧ ((f' = f ∧ p' = p ∧ ∀ q, i ≤ q → q < s.length → Con m s q p) ∨ (f' = true ∧ tot m p < tot m p')) := by
 have hn := hv.n
 have hm := hv.m5
 have hbl := (best_len hv).1
 have hP := lowP_fair hv
 intro k
 induction k with
 | zero => intro i f p _ h; omega
 | succ k ih =>
  intro i f p h1 h2 h3
  unfold f88_p5_1
  by_cases hi : i < s.length
  ·obtain ⟨p1, p2⟩ := at_best hv hi
   have e1 : w64 ((i : Int) + 1) = ((i + 1 : Nat) : Int) := w64_succ (by omega)
   rw [if_pos (by simp; omega), p1, Option.bind_some, e1]
   have step : ∃ f' p', (Option.bind (f88_p8_3 F 0 m (bestD m s) f i (lot m s i) M s m p) fun
     | .c0 => Option.bind (f88_p10_4 F 0 m (bestD m s) i (lot m s i) M s m F f 0 p) fun (x121, x122) => f88_p5_1 F 0 m (bestD m s) M s m k x121 ((i + 1 : Nat) : Int) x122
     | .c1 => Option.bind (f88_p10_5 F 0 m (bestD m s) i (lot m s i) M s m F f 0 p) fun (x140, x141) => f88_p5_1 F 0 m (bestD m s) M s m k x140 ((i + 1 : Nat) : Int) x141) = f88_p5_1 F 0 m (bestD m s) M s m k f' ((i + 1 : Nat) : Int) p' ∧ Lo m (lowP m s) p' ∧ ((f' = f ∧ p' = p ∧ Con m s i p) ∨ (f' = true ∧ tot m p < tot m p')) := by
    unfold f88_p8_3
    by_cases h0 : lot m s i ≥ 0
    ·obtain ⟨x, hx⟩ : ∃ x : Nat, lot m s i = x := ⟨(lot m s i).toNat, by omega⟩
     rw [hx] at p2 ⊢
     have hb := fun l hl => hP.best i hi l hl
     rw [hx] at hb
     obtain ⟨f', p', g1, g2, g3⟩ := low_own (F := F) (M := M) (P := lowP m s) (D := bestD m s) hv hi (x := x) (by omega) (fun l hl => by have := lowP_bd hv hl; omega) (fun l hl => by have := hb l hl; omega) F 0 f p (by omega) (by omega) h3
     rw [if_pos (by simp), req_pos (by omega), Option.bind_some]
     dsimp only
     rw [show f88_p10_4 F 0 m (bestD m s) i x M s m F f 0 p = _ from g1, Option.bind_some]
     refine ⟨f', p', rfl, g2, ?_⟩
     rcases g3 with ⟨a, b, c⟩ | g3
     ·refine .inl ⟨a, b, fun l hl => ?_⟩
      rw [hx]
      by_cases hlx : l = x
      ·subst hlx; exact Int.le_refl _
      ·have := c l (by omega) hl hlx; omega
     ·exact .inr g3
    ·have hx : lot m s i = -1 := by omega
     rw [hx]
     have hb := fun l hl => hP.best i hi l hl
     rw [hx, va_none, pr_neg] at hb
     obtain ⟨f', p', g1, g2, g3⟩ := low_none (F := F) (M := M) (P := lowP m s) (D := bestD m s) hv hi (fun l hl => by have := hb l hl; omega) F 0 f p (by omega) (by omega) h3
     rw [if_neg (by simp), Option.bind_some]
     dsimp only
     rw [show f88_p10_5 F 0 m (bestD m s) i (-1) M s m F f 0 p = _ from g1, Option.bind_some]
     refine ⟨f', p', rfl, g2, ?_⟩
     rcases g3 with ⟨a, b, c⟩ | g3
     ·refine .inl ⟨a, b, fun l hl => ?_⟩
      rw [hx, va_none, pr_neg]
      have := c l (by omega) hl; omega
     ·exact .inr g3
   obtain ⟨fb1, q1, s1, s2, s3⟩ := step
   obtain ⟨f', p', g1, g2, g3⟩ := ih (i + 1) fb1 q1 (by omega) (by omega) s2
   refine ⟨f', p', s1.trans g1, g2, ?_⟩
   rcases s3 with ⟨a, b, c⟩ | s3
   ·subst a; subst b
    rcases g3 with ⟨a, b, c'⟩ | g3
    ·refine .inl ⟨a, b, fun q hq1 hq2 => ?_⟩
     by_cases e : q = i
     ·subst e; exact c
     ·exact c' q (by omega) hq2
    ·exact .inr g3
   ·rcases g3 with ⟨a, b, c'⟩ | g3
    ·subst b; exact .inr ⟨by rw [a]; exact s3.1, s3.2⟩
    ·exact .inr ⟨g3.1, by omega⟩
  ·rw [if_neg (by simp; omega)]
   exact ⟨f, p, rfl, h3, .inl ⟨rfl, rfl, fun q hq1 hq2 => by omega⟩⟩
theorem low_loop (hF : 100 ≤ F) (hv : Vs m s) : ∀ (k : Nat) (f : Bool) (p : List Int), Lo m (lowP m s) p → (f = true ∨ ∀ q, q < s.length → Con m s q p) → tot m (lowP m s) - tot m p + 2 ≤ k →
  f88_p1_18 F 0 m (bestD m s) M s m k f p = some (lowP m s) := by
 have hn := hv.n
 have hP := lowP_fair hv
 intro k
 induction k with
 | zero =>
  intro f p h1 _ h3
  have : tot m p ≤ tot m (lowP m s) := sm_le fun l hl => (h1.bd l hl).2
  omega
 | succ k ih =>
  intro f p h1 h2 h3
  unfold f88_p1_18
  cases f with
  | true =>
   obtain ⟨f', p', g1, g2, g3⟩ := low_pass (M := M) hF hv F 0 false p (by omega) (by omega) h1
   rw [if_pos rfl, show f88_p5_1 F 0 m (bestD m s) M s m F false 0 p = _ from g1, Option.bind_some]
   dsimp only
   rcases g3 with ⟨a, b, c⟩ | g3
   ·have : tot m p ≤ tot m (lowP m s) := sm_le fun l hl => (h1.bd l hl).2
    subst a; subst b
    match k, h3 with
    | 0, h3 => omega
    | k + 1, _ =>
     have hfair : Fp s.length m (va s) p' (lot m s) := ⟨h1.len, fun l hl => (h1.bd l hl).1, fun i hi => by
      have q1 := hP.own i hi
      have hr := (best_dv hv).rg i hi
      by_cases h0 : lot m s i < 0
      ·rw [show lot m s i = -1 by omega]; exact Int.le_refl _
      ·have q2 := (h1.bd (lot m s i).toNat (by omega)).2
       rw [show (((lot m s i).toNat : Nat) : Int) = lot m s i by omega] at q2
       omega, fun i hi => c i (by omega) hi, fun l hl hf => by
      have q1 := h1.bd l hl
      have q2 := hP.free l hl hf
      omega⟩
     have e : p' = lowP m s := pr_ext hv h1.len lowP_len fun l hl => by
      have q1 := (h1.bd l hl).2
      have q2 := lowP_least hv hfair hl
      omega
     unfold f88_p1_18
     rw [if_neg (by decide), e]
   ·refine ih f' p' g2 (.inl g3.1) (by omega)
  | false =>
   rw [if_neg (by decide)]
   have c := h2.resolve_left (by decide)
   have hfair : Fp s.length m (va s) p (lot m s) := ⟨h1.len, fun l hl => (h1.bd l hl).1, fun i hi => by
    have q1 := hP.own i hi
    have hr := (best_dv hv).rg i hi
    by_cases h0 : lot m s i < 0
    ·rw [show lot m s i = -1 by omega]; exact Int.le_refl _
    ·have q2 := (h1.bd (lot m s i).toNat (by omega)).2
     rw [show (((lot m s i).toNat : Nat) : Int) = lot m s i by omega] at q2
     omega, fun i hi => c i hi, fun l hl hf => by
    have q1 := h1.bd l hl
    have q2 := hP.free l hl hf
    omega⟩
   have e : p = lowP m s := pr_ext hv h1.len lowP_len fun l hl => by
    have q1 := (h1.bd l hl).2
    have q2 := lowP_least hv hfair hl
    omega
   rw [e]
theorem pr_zero {m l : Nat} (hl : l < m) : pr (List.replicate m 0) l = 0 := by
 rw [pr_nat (by simpa using hl)]; simp
theorem f39_eq (hF : 1000 ≤ F) (s : List (List Int)) : f39 F s = some (if ckS s ≠ 0 then ([], ckS s) else (lowP (s[0]?.getD []).length s, 0)) := by
 unfold f39
 rw [f65_eq (by omega), Option.bind_some]
 by_cases h : ckS s = 0
 ·have hv := ckS_ok h
  have hm := hv.m5
  generalize hmm : (s[0]?.getD []).length = m at *
  obtain ⟨M', e1, e2⟩ := f66_eq (F := F) (by omega) hv (Good.nil _ s)
  have hb : 0 ≤ tot m (lowP m s) ∧ tot m (lowP m s) ≤ m * 99 := sm_bd (m := m) (f := fun l => pr (lowP m s) (l : Int)) (c := 99) fun l hl => lowP_bd hv hl
  have e0 : tot m (List.replicate m 0) = 0 := by
   have := sm_bd (m := m) (f := fun l => pr (List.replicate m 0) (l : Int)) (c := 0) fun l hl => by rw [pr_zero hl]; omega
   rw [Int.mul_zero] at this
   show sm m (fun l => pr (List.replicate m 0) (l : Int)) = 0
   omega
  have hlo : Lo m (lowP m s) (List.replicate m 0) := ⟨by simp, fun l hl => by rw [pr_zero hl]; exact ⟨Int.le_refl _, (lowP_bd hv hl).1⟩⟩
  have hl := low_loop (M := M') (by omega : 100 ≤ F) hv F true _ hlo (.inl rfl) (by rw [e0]; omega)
  rw [if_neg (by simpa using h), if_neg (by simpa using h)]
  dsimp only
  rw [if_neg (by decide), req_pos (by omega), Int.toNat_natCast]
  unfold f88
  rw [e1, Option.bind_some]
  dsimp only
  rw [hl, Option.bind_some, Option.bind_some]
  dsimp only
  rw [req_pos (by rw [lowP_len]; omega), Nat.zero_add, List.drop_zero, List.take_of_length_le (by rw [lowP_len]; omega)]
 ·rw [if_pos h, if_pos h]
  dsimp only
  rw [if_pos (by simpa using h)]
end
end
section
structure Hi (m : Nat) (s : List (List Int)) (p : List Int) : Prop where
 len : p.length = m
 ge : ∀ l : Nat, l < m → pr (highP m s) l ≤ pr p l
 own : ∀ i, i < s.length → pr p (lot m s i) ≤ va s i (lot m s i)
 free : ∀ l : Nat, l < m → (∀ i, i < s.length → lot m s i ≠ (l : Int)) → pr p l = 0
section
variable {m i F : Nat} {s : List (List Int)} {M : Mm} {D : List Int}
theorem highP_nn (hv : Vs m s) {l : Nat} (hl : l < m) : 0 ≤ pr (highP m s) l := (highP_fair hv).nn l hl
theorem Hi.bd {p : List Int} (h : Hi m s p) (hv : Vs m s) {l : Nat} (hl : l < m) : 0 ≤ pr p l ∧ pr p l ≤ 99 := by
 have h1 := h.ge l hl
 have h2 := highP_nn hv hl
 refine ⟨by omega, ?_⟩
 rcases own_or hv (l := l) with ⟨b, hb, e⟩ | h'
 ·have h3 := h.own b hb
  have := va_bd hv (i := b) (x := lot m s b)
  rw [e] at h3 this; omega
 ·rw [h.free l hl h']; decide
theorem Hi.set {p : List Int} {x : Nat} {w : Int} (h : Hi m s p) (hv : Vs m s) (hi : i < s.length) (hx : lot m s i = (x : Int)) (h1 : w < pr p x) (h2 : pr (highP m s) x ≤ w) : Hi m s (p.set x w) ∧ tot m (p.set x w) < tot m p := by
 have hd := best_dv hv
 have hr := hd.rg i hi
 have hxl : x < p.length := by rw [h.len]; omega
 refine ⟨⟨by rw [List.length_set]; exact h.len, fun k hk => ?_, fun j hj => ?_, fun k hk hf => ?_⟩, ?_⟩
 ·rw [pr_set hxl]
  by_cases e : k = x
  ·subst e; rw [if_pos rfl]; exact h2
  ·rw [if_neg e]; exact h.ge k hk
 ·by_cases e : j = i
  ·subst e
   have := h.own j hj
   rw [hx] at this ⊢
   rw [pr_set hxl, if_pos rfl]; omega
  ·rw [pr_set_neg hxl (fun e2 => e (hd.inj j i hj hi (by omega) (by omega)))]
   exact h.own j hj
 ·rw [pr_set hxl]
  by_cases e : k = x
  ·subst e; exact absurd hx (hf i hi)
  ·rw [if_neg e]; exact h.free k hk hf
 ·rw [tot_set h.len (by omega)]; omega
theorem high_own (hv : Vs m s) (hi : i < s.length) {x : Nat} (hx : lot m s i = (x : Int)) : ∀ (k j : Nat) (f : Bool) (p : List Int), m < k + j → j ≤ m → Hi m s p →
  ∃ f' p', f88_1_p10_8 F 0 m D i x M s m 0 k f j p = some (f', p') ∧ Hi m s p' ∧ ((f' = f ∧ p' = p ∧ ∀ l : Nat, j ≤ l → l < m → l ≠ x → pr p x + (va s i l - va s i x) ≤ pr p l) ∨ (f' = true ∧ tot m p' < tot m p)) := by
 have hm := hv.m5
 have hr := (best_dv hv).rg i hi
 intro k
 induction k with
 | zero => intro j f p h _; omega
 | succ k ih =>
  intro j f p h1 h2 h3
  unfold f88_1_p10_8
  by_cases hj : j < m
  ·have hlen := (hv.ok _ (List.getElem_mem hi)).1
   have e1 : w64 ((j : Int) + 1) = ((j + 1 : Nat) : Int) := w64_succ (by omega)
   rw [if_pos (by simp; omega), e1]
   by_cases hjx : j = x
   ·rw [if_neg (by simp [hjx])]
    obtain ⟨f', p', g1, g2, g3⟩ := ih (j + 1) f p (by omega) (by omega) h3
    refine ⟨f', p', g1, g2, ?_⟩
    rcases g3 with ⟨a, b, c⟩ | g3
    ·exact .inl ⟨a, b, fun l hl1 hl2 hl3 => c l (by omega) hl2 hl3⟩
    ·exact .inr g3
   ·have b1 := h3.bd hv hj
    have b2 := h3.bd hv (l := x) (by omega)
    have b3 := va_bd hv (i := i) (x := (j : Int))
    have b4 := va_bd hv (i := i) (x := (x : Int))
    have b5 := h3.ge j hj
    have b6 := (highP_fair hv).best i hi j hj
    rw [hx] at b6
    have ev : vl s[i] (x : Int) = va s i x := by unfold va; rw [List.getElem?_eq_getElem hi, Option.getD_some]
    rw [if_pos (by simp; omega), req_pos (by omega), at_get hi, Option.bind_some, at_get (by omega), Option.bind_some, f72_eq hv.ok hi ⟨by omega, by omega⟩, Option.bind_some, va_at hv hi hj, ev, w64_in (n := va s i j - va s i x) (by omega)]
    unfold f91
    rw [Nat.zero_add, Nat.zero_add, Int.toNat_natCast, Int.toNat_natCast, pr_opt (l := j) (by rw [h3.len]; exact hj), Option.bind_some, pr_opt (l := x) (by rw [h3.len]; omega), Option.bind_some, w64_in (n := pr p x + _) (by omega), w64_in (n := pr p j - _) (by omega)]
    by_cases hc : pr p j ≥ pr p x + (va s i j - va s i x)
    ·rw [if_pos (by simpa using hc), Option.bind_some]
     dsimp only
     unfold f88_1_p13_17
     rw [if_neg (by decide), Option.bind_some]
     obtain ⟨f', p', g1, g2, g3⟩ := ih (j + 1) f p (by omega) (by omega) h3
     refine ⟨f', p', g1, g2, ?_⟩
     rcases g3 with ⟨a, b, c⟩ | g3
     ·refine .inl ⟨a, b, fun l hl1 hl2 hl3 => ?_⟩
      by_cases hlj : l = j
      ·subst hlj; exact hc
      ·exact c l (by omega) hl2 hl3
     ·exact .inr g3
    ·obtain ⟨s1, s2⟩ := h3.set hv hi hx (w := pr p j - (va s i j - va s i x)) (by omega) (by omega)
     rw [if_neg (by simpa using hc), req_pos (by rw [h3.len]; omega), Option.bind_some]
     dsimp only
     unfold f88_1_p13_17
     rw [if_pos rfl, Option.bind_some]
     obtain ⟨f', p', g1, g2, g3⟩ := ih (j + 1) true _ (by omega) (by omega) s1
     refine ⟨f', p', g1, g2, .inr ?_⟩
     rcases g3 with ⟨a, b, c⟩ | g3
     ·rw [b]; exact ⟨a, s2⟩
     ·exact ⟨g3.1, by omega⟩
  ·rw [if_neg (by simp; omega)]
   exact ⟨f, p, rfl, h3, .inl ⟨rfl, rfl, fun l hl1 hl2 => by omega⟩⟩
theorem high_none (hv : Vs m s) (hi : i < s.length) (hx : lot m s i = -1) : ∀ (k j : Nat) (f : Bool) (p : List Int), m < k + j → j ≤ m → Hi m s p →
  f88_1_p10_9 F 0 m D i (-1) M s m p k f j 0 = some (f, 0) := by
 have hm := hv.m5
 intro k
 induction k with
 | zero => intro j f p h _; omega
 | succ k ih =>
  intro j f p h1 h2 h3
  unfold f88_1_p10_9
  by_cases hj : j < m
  ·have hlen := (hv.ok _ (List.getElem_mem hi)).1
   have e1 : w64 ((j : Int) + 1) = ((j + 1 : Nat) : Int) := w64_succ (by omega)
   have b1 := h3.bd hv hj
   have b3 := va_bd hv (i := i) (x := (j : Int))
   have b5 := h3.ge j hj
   have b6 := (highP_fair hv).best i hi j hj
   rw [hx, va_none, pr_neg] at b6
   rw [if_pos (by simp; omega), e1, if_pos (by simp <;> omega), req_pos (by omega), at_get hi, Option.bind_some, at_get (by omega), Option.bind_some, f72_eq hv.ok hi ⟨by omega, by omega⟩, Option.bind_some, va_at hv hi hj, show vl s[i] (-1) = 0 from rfl, Int.sub_zero, w64_in (n := va s i j) (by omega)]
   unfold f91_1
   rw [Nat.zero_add, Int.toNat_natCast, pr_opt (l := j) (by rw [h3.len]; exact hj), Option.bind_some, Int.zero_add, w64_in (n := va s i j) (by omega), if_pos (by simp; omega), Option.bind_some]
   dsimp only
   unfold f88_1_p13_19
   rw [if_neg (by decide), Option.bind_some]
   exact ih (j + 1) f p (by omega) (by omega) h3
  ·rw [if_neg (by simp; omega)]
theorem high_pass (hF : 100 ≤ F) (hv : Vs m s) : ∀ (k i : Nat) (f : Bool) (p : List Int), i ≤ s.length → s.length < k + i → Hi m s p →
  ∃ f' p', f88_1_p5_1 F 0 m (bestD m s) M s m k f i p 0 = some (f', p', 0) ∧ Hi m s p' ∧ ((f' = f ∧ p' = p ∧ ∀ q, i ≤ q → q < s.length → Con m s q p) ∨ (f' = true ∧ tot m p' < tot m p)) := by
 have hn := hv.n
 have hm := hv.m5
 have hbl := (best_len hv).1
 have hP := highP_fair hv
 intro k
 induction k with
 | zero => intro i f p _ h; omega
 | succ k ih =>
  intro i f p h1 h2 h3
  unfold f88_1_p5_1
  by_cases hi : i < s.length
  ·obtain ⟨p1, p2⟩ := at_best hv hi
   have e1 : w64 ((i : Int) + 1) = ((i + 1 : Nat) : Int) := w64_succ (by omega)
   rw [if_pos (by simp; omega), p1, Option.bind_some, e1]
   have step : ∃ f' p', (Option.bind (f88_1_p8_5 F 0 m (bestD m s) f i (lot m s i) M s m p 0) fun
     | .c0 => Option.bind (f88_1_p10_8 F 0 m (bestD m s) i (lot m s i) M s m 0 F f 0 p) fun (x209, x210) => f88_1_p5_1 F 0 m (bestD m s) M s m k x209 ((i + 1 : Nat) : Int) x210 0
     | .c1 => Option.bind (f88_1_p10_9 F 0 m (bestD m s) i (lot m s i) M s m p F f 0 0) fun (x228, x229) => f88_1_p5_1 F 0 m (bestD m s) M s m k x228 ((i + 1 : Nat) : Int) p x229) = f88_1_p5_1 F 0 m (bestD m s) M s m k f' ((i + 1 : Nat) : Int) p' 0 ∧ Hi m s p' ∧ ((f' = f ∧ p' = p ∧ Con m s i p) ∨ (f' = true ∧ tot m p' < tot m p)) := by
    unfold f88_1_p8_5
    by_cases h0 : lot m s i ≥ 0
    ·obtain ⟨x, hx⟩ : ∃ x : Nat, lot m s i = x := ⟨(lot m s i).toNat, by omega⟩
     obtain ⟨f', p', g1, g2, g3⟩ := high_own (F := F) (M := M) (D := bestD m s) hv hi hx F 0 f p (by omega) (by omega) h3
     rw [hx] at p2 ⊢
     rw [if_pos (by simp), req_pos (by omega), Option.bind_some]
     dsimp only
     rw [show f88_1_p10_8 F 0 m (bestD m s) i x M s m 0 F f 0 p = _ from g1, Option.bind_some]
     refine ⟨f', p', rfl, g2, ?_⟩
     rcases g3 with ⟨a, b, c⟩ | g3
     ·refine .inl ⟨a, b, fun l hl => ?_⟩
      rw [hx]
      by_cases hlx : l = x
      ·subst hlx; exact Int.le_refl _
      ·have := c l (by omega) hl hlx; omega
     ·exact .inr g3
    ·have hx : lot m s i = -1 := by omega
     have g1 := high_none (F := F) (M := M) (D := bestD m s) hv hi hx F 0 f p (by omega) (by omega) h3
     rw [hx]
     rw [if_neg (by simp), Option.bind_some]
     dsimp only
     rw [show f88_1_p10_9 F 0 m (bestD m s) i (-1) M s m p F f 0 0 = _ from g1, Option.bind_some]
     refine ⟨f, p, rfl, h3, .inl ⟨rfl, rfl, fun l hl => ?_⟩⟩
     have b5 := h3.ge l hl
     have b6 := hP.best i hi l hl
     rw [hx, va_none, pr_neg] at b6 ⊢
     omega
   obtain ⟨fb1, q1, s1, s2, s3⟩ := step
   obtain ⟨f', p', g1, g2, g3⟩ := ih (i + 1) fb1 q1 (by omega) (by omega) s2
   refine ⟨f', p', s1.trans g1, g2, ?_⟩
   rcases s3 with ⟨a, b, c⟩ | s3
   ·subst a; subst b
    rcases g3 with ⟨a, b, c'⟩ | g3
    ·refine .inl ⟨a, b, fun q hq1 hq2 => ?_⟩
     by_cases e : q = i
     ·subst e; exact c
     ·exact c' q (by omega) hq2
    ·exact .inr g3
   ·rcases g3 with ⟨a, b, c'⟩ | g3
    ·subst b; exact .inr ⟨by rw [a]; exact s3.1, s3.2⟩
    ·exact .inr ⟨g3.1, by omega⟩
  ·rw [if_neg (by simp; omega)]
   exact ⟨f, p, rfl, h3, .inl ⟨rfl, rfl, fun q hq1 hq2 => by omega⟩⟩
theorem Hi.done (hv : Vs m s) {p : List Int} (h1 : Hi m s p) (c : ∀ q, q < s.length → Con m s q p) : p = highP m s := by
 have hfair : Fp s.length m (va s) p (lot m s) := ⟨h1.len, fun l hl => (h1.bd hv hl).1, fun i hi => by
  have := h1.own i hi; omega, fun i hi => c i hi, h1.free⟩
 refine pr_ext hv h1.len highP_len fun l hl => ?_
 have q1 := h1.ge l hl
 have q2 := highP_most hv hfair hl
 omega
theorem high_loop (hF : 100 ≤ F) (hv : Vs m s) : ∀ (k : Nat) (f : Bool) (p : List Int), Hi m s p → (f = true ∨ ∀ q, q < s.length → Con m s q p) → tot m p - tot m (highP m s) + 2 ≤ k →
  f88_1_p1_30 F 0 m (bestD m s) M s m k f p 0 = some (highP m s) := by
 have hn := hv.n
 intro k
 induction k with
 | zero =>
  intro f p h1 _ h3
  have : tot m (highP m s) ≤ tot m p := sm_le fun l hl => h1.ge l hl
  omega
 | succ k ih =>
  intro f p h1 h2 h3
  unfold f88_1_p1_30
  cases f with
  | true =>
   obtain ⟨f', p', g1, g2, g3⟩ := high_pass (M := M) hF hv F 0 false p (by omega) (by omega) h1
   rw [if_pos rfl, show f88_1_p5_1 F 0 m (bestD m s) M s m F false 0 p 0 = _ from g1, Option.bind_some]
   dsimp only
   rcases g3 with ⟨a, b, c⟩ | g3
   ·have : tot m (highP m s) ≤ tot m p := sm_le fun l hl => h1.ge l hl
    subst a; subst b
    match k, h3 with
    | 0, h3 => omega
    | k + 1, _ =>
     unfold f88_1_p1_30
     rw [if_neg (by decide), h1.done hv fun q hq => c q (by omega) hq]
   ·exact ih f' p' g2 (.inl g3.1) (by omega)
  | false =>
   rw [if_neg (by decide), h1.done hv (h2.resolve_left (by decide))]
theorem f41_p2_eq (hv : Vs m s) : ∀ (k i : Nat) (p : List Int), i ≤ s.length → s.length < k + i → p.length = m → (∀ q, q < i → pr p (lot m s q) = va s q (lot m s q)) → (∀ l : Nat, l < m → (∀ q, q < i → lot m s q ≠ (l : Int)) → pr p l = 0) →
  ∃ p', f41_p2 F s m (bestD m s) M s k i p = some p' ∧ p'.length = m ∧ (∀ q, q < s.length → pr p' (lot m s q) = va s q (lot m s q)) ∧ (∀ l : Nat, l < m → (∀ q, q < s.length → lot m s q ≠ (l : Int)) → pr p' l = 0) := by
 have hn := hv.n
 have hm := hv.m5
 have hbl := (best_len hv).1
 have hd := best_dv hv
 intro k
 induction k with
 | zero => intro i p _ h; omega
 | succ k ih =>
  intro i p h1 h2 h3 h4 h5
  unfold f41_p2
  by_cases hi : i < s.length
  ·obtain ⟨p1, p2⟩ := at_best hv hi
   have hlen := (hv.ok _ (List.getElem_mem hi)).1
   rw [if_pos (by simp; omega), p1, Option.bind_some, w64_succ (by omega)]
   unfold f41_p5_1
   by_cases h0 : lot m s i ≥ 0
   ·obtain ⟨x, hx⟩ : ∃ x : Nat, lot m s i = x := ⟨(lot m s i).toNat, by omega⟩
    rw [hx] at p2 ⊢
    have hxl : x < p.length := by omega
    rw [if_pos (by simp), at_get hi, Option.bind_some, at_get (by omega), Option.bind_some, req_pos (by rw [Int.toNat_natCast]; omega), Int.toNat_natCast, Nat.zero_add, req_pos hxl, Option.bind_some, va_at hv hi (by omega)]
    refine ih (i + 1) _ (by omega) (by omega) (by rw [List.length_set]; exact h3) (fun q hq => ?_) (fun l hl hf => ?_)
    ·by_cases e : q = i
     ·subst e; rw [hx, pr_set hxl, if_pos rfl]
     ·rw [pr_set_neg hxl (fun e2 => e (hd.inj q i (by omega) hi (by omega) (by omega)))]
      exact h4 q (by omega)
    ·rw [pr_set hxl]
     by_cases e : l = x
     ·subst e; exact absurd hx (hf i (by omega))
     ·rw [if_neg e]; exact h5 l hl fun q hq => hf q (by omega)
   ·have hx : lot m s i = -1 := by omega
    rw [if_neg (by simp; omega), Option.bind_some]
    refine ih (i + 1) p (by omega) (by omega) h3 (fun q hq => ?_) (fun l hl hf => h5 l hl fun q hq => hf q (by omega))
    by_cases e : q = i
    ·subst e; rw [hx]; rfl
    ·exact h4 q (by omega)
  ·rw [if_neg (by simp; omega)]
   obtain rfl : i = s.length := by omega
   exact ⟨p, rfl, h3, h4, h5⟩
theorem f41_eq (hF : 1000 ≤ F) (s : List (List Int)) : f41 F s = some (if ckS s ≠ 0 then ([], ckS s) else (highP (s[0]?.getD []).length s, 0)) := by
 unfold f41
 rw [f65_eq (by omega), Option.bind_some]
 by_cases h : ckS s = 0
 ·have hv := ckS_ok h
  have hm := hv.m5
  have hn := hv.n
  generalize hmm : (s[0]?.getD []).length = m at *
  obtain ⟨M', e1, e2⟩ := f66_eq (F := F) (by omega) hv (Good.nil _ s)
  obtain ⟨M'', e3, e4⟩ := f66_eq (F := F) (by omega) hv e2
  obtain ⟨p, q1, q2, q3, q4⟩ := f41_p2_eq (F := F) (M := M') hv F 0 (List.replicate m 0) (by omega) (by omega) (by simp) (fun q hq => by omega) (fun l hl _ => pr_zero hl)
  have hH := highP_fair hv
  have hi : Hi m s p := ⟨q2, fun l hl => by
   rcases own_or hv (l := l) with ⟨b, hb, e⟩ | h'
   ·have a1 := hH.own b hb
    have a2 := q3 b hb
    rw [e] at a1 a2; omega
   ·rw [hH.free l hl h', q4 l hl h']; exact Int.le_refl _, fun i hi => by rw [q3 i hi]; exact Int.le_refl _, q4⟩
  have hb : 0 ≤ tot m p ∧ tot m p ≤ m * 99 := sm_bd (m := m) (f := fun l => pr p (l : Int)) (c := 99) fun l hl => hi.bd hv hl
  have hb2 : 0 ≤ tot m (highP m s) := by
   have := sm_le (n := m) (f := fun _ => 0) (g := fun l => pr (highP m s) (l : Int)) fun l hl => highP_nn hv hl
   have z : ∀ k : Nat, sm k (fun _ => 0) = 0 := fun k => by
    induction k with
    | zero => rfl
    | succ k ih => rw [sm, ih]; rfl
   rw [z] at this
   exact this
  have hl := high_loop (M := M'') (by omega : 100 ≤ F) hv F true p hi (.inl rfl) (by omega)
  rw [if_neg (by simpa using h), if_neg (by simpa using h)]
  dsimp only
  rw [if_neg (by decide), req_pos (by omega), e1, Option.bind_some]
  dsimp only
  rw [Int.toNat_natCast, show f41_p2 F s m (bestD m s) M' s F 0 (List.replicate m 0) = _ from q1, Option.bind_some]
  unfold f88_1
  rw [e3, Option.bind_some]
  dsimp only
  rw [hl, Option.bind_some, Option.bind_some]
  dsimp only
  rw [req_pos (by rw [highP_len]; omega), Nat.zero_add, List.drop_zero, List.take_of_length_le (by rw [highP_len]; omega)]
 ·rw [if_pos h, if_pos h]
  dsimp only
  rw [if_pos (by simpa using h)]
end
end
section
section
variable {n m : Nat} {v : Nat → Int → Int} {d t : Nat → Int} {p : List Int}
end
section
variable {m : Nat} {s : List (List Int)} {r : List Int} (hv : Vs m s) (hr : Vs m (s ++ [r]))
include hv hr
end
section
variable {m : Nat} {s : List (List Int)} (hv : Vs m s) (hm4 : m ≤ 4)
include hv hm4
end
section
variable {m : Nat} {s : List (List Int)} (hv : Vs m s) (hm4 : m ≤ 4)
include hv hm4
end
end
section
def mxw (f : Nat → Int) : Nat → Int
 | 0 => 0
 | j + 1 => if f j > mxw f j then f j else mxw f j
theorem ds_okD {m : Nat} {but : Int} : ∀ (k i L : Nat) (l : List Int), l ∈ ds m but k i L → okD L l = true
 | 0, _, _, l, h => by simp [ds] at h; subst h; rfl
 | k + 1, i, L, l, h => by
  rw [ds] at h
  obtain ⟨x, hx, h⟩ := List.mem_flatMap.1 h
  obtain ⟨t, ht, rfl⟩ := List.mem_map.1 h
  rw [okD, ds_okD k (i + 1) _ t ht, Bool.and_true]
  rcases mem_cand (cand_free hx) with rfl | ⟨j, rfl, h1, h2⟩
  ·rfl
  ·rw [Int.toNat_natCast, h2, Bool.or_true]
def gv (s : List (List Int)) (p : List Int) (i l : Nat) : Int := va s i l - pr p l
section
variable {m i F : Nat} {s : List (List Int)} {M : Mm} {p : List Int}
abbrev mxg (m : Nat) (s : List (List Int)) (p : List Int) (i : Nat) : Int := mxw (gv s p i) m
def owng (s : List (List Int)) (p : List Int) (i : Nat) (x : Int) : Int := va s i x - pr p x
end
end
section
section
variable {m i F : Nat} {s : List (List Int)} {M : Mm} {p : List Int}
end
end
section
section
variable {m F : Nat} {s : List (List Int)} {p : List Int}
end

section
variable {m : Nat} {s : List (List Int)} {p : List Int}
end
end
section
theorem sub_len {α : Type} [BEq α] [LawfulBEq α] : ∀ (A C : List α), A.Nodup → (∀ x ∈ A, x ∈ C) → A.length ≤ C.length
 | [], _, _, _ => by simp
 | x :: A, C, h, hs => by
  have hx := hs x (List.mem_cons_self ..)
  have := sub_len A (C.erase x) (List.nodup_cons.1 h).2 fun y hy => by
   have hne : y ≠ x := fun e => (List.nodup_cons.1 h).1 (e ▸ hy)
   exact (List.mem_erase_of_ne hne).2 (hs y (List.mem_cons_of_mem _ hy))
  rw [List.length_erase_of_mem hx] at this
  have := List.length_pos_of_mem hx
  rw [List.length_cons]; omega
section
variable {m : Nat} {s : List (List Int)} {p : List Int}
def wD (m : Nat) (s : List (List Int)) (p : List Int) (i : Nat) (x : Int) : Bool := decide (owng s p i x = mxg m s p i)
def an (m : Nat) (s : List (List Int)) (p : List Int) (f : Nat → Bool) (x : Int) : Bool := (List.range s.length).any fun i => f i && wD m s p i x
end
end
section
structure Rn (n : Nat) (σ σi : Nat → Nat) : Prop where
 a : ∀ i, i < n → σ i < n ∧ σi (σ i) = i
 b : ∀ i, i < n → σi i < n ∧ σ (σi i) = i
theorem Rn.symm {n : Nat} {σ σi : Nat → Nat} (h : Rn n σ σi) : Rn n σi σ := ⟨h.b, h.a⟩
theorem sm_zero (n : Nat) : sm n (fun _ => 0) = 0 := by
 induction n with
 | zero => rfl
 | succ n ih => rw [sm, ih]; rfl
theorem sm_swap {k : Nat} {g : Nat → Nat → Int} : ∀ {n : Nat}, sm n (fun i => sm k (fun c => g i c)) = sm k (fun c => sm n (fun i => g i c))
 | 0 => by
  show (0 : Int) = sm k (fun _ => 0)
  rw [sm_zero]
 | n + 1 => by
  rw [sm, sm_swap (n := n), ← sm_add]; rfl
theorem sm_perm {n : Nat} {σ σi : Nat → Nat} (h : Rn n σ σi) (f : Nat → Int) : sm n (fun i => f (σ i)) = sm n f := by
 have e1 : sm n (fun i => f (σ i)) = sm n (fun i => sm n (fun c => if c = σ i then f (σ i) else 0)) := sm_congr fun i hi => (sm_one (h.a i hi).1).symm
 have e2 : sm n f = sm n (fun c => sm n (fun i => if i = σi c then f c else 0)) := sm_congr fun c hc => (sm_one (h.b c hc).1).symm
 rw [e1, e2, sm_swap]
 refine sm_congr fun c hc => sm_congr fun i hi => ?_
 by_cases e : c = σ i
 ·rw [if_pos e, if_pos (by rw [e]; exact (h.a i hi).2.symm), e]
 ·rw [if_neg e, if_neg (fun e2 => e (by rw [e2]; exact (h.b c hc).2.symm))]
def tx (τ : Nat → Nat) (x : Int) : Int := if x < 0 then -1 else ((τ x.toNat : Nat) : Int)
theorem tx_none {τ : Nat → Nat} : tx τ (-1) = -1 := rfl
theorem tx_nat {τ : Nat → Nat} {l : Nat} : tx τ (l : Int) = (τ l : Nat) := by unfold tx; rw [if_neg (by omega), Int.toNat_natCast]
theorem lot_or {m : Nat} {x : Int} (h : -1 ≤ x ∧ x < m) : x = -1 ∨ ∃ l : Nat, l < m ∧ x = (l : Int) := by
 by_cases h0 : x < 0
 ·exact .inl (by omega)
 ·exact .inr ⟨x.toNat, by omega, by omega⟩
theorem tx_back {m : Nat} {τ τi : Nat → Nat} (h : Rn m τ τi) {x : Int} (hx : -1 ≤ x ∧ x < m) : tx τi (tx τ x) = x := by
 rcases lot_or hx with rfl | ⟨l, hl, rfl⟩
 ·rfl
 ·rw [tx_nat, tx_nat, (h.a l hl).2]
theorem tx_rg {m : Nat} {τ τi : Nat → Nat} (h : Rn m τ τi) {x : Int} (hx : -1 ≤ x ∧ x < m) : -1 ≤ tx τ x ∧ tx τ x < m := by
 rcases lot_or hx with rfl | ⟨l, hl, rfl⟩
 ·exact hx
 ·rw [tx_nat]; have := (h.a l hl).1; omega
def tr (σi τ : Nat → Nat) (d : Nat → Int) : Nat → Int := fun i => tx τ (d (σi i))
section
variable {n m : Nat} {σ σi τ τi : Nat → Nat}
theorem tr_dv (hσ : Rn n σ σi) (hτ : Rn m τ τi) {d : Nat → Int} (hd : Dv n m d) : Dv n m (tr σi τ d) := by
 refine ⟨fun i hi => tx_rg hτ (hd.rg _ (hσ.b i hi).1), fun i j hi hj e h0 => ?_⟩
 have hi' := hσ.b i hi
 have hj' := hσ.b j hj
 have e2 : d (σi i) = d (σi j) := by rw [← tx_back hτ (hd.rg _ hi'.1), ← tx_back hτ (hd.rg _ hj'.1)]; exact congrArg (tx τi) e
 have h1 : 0 ≤ d (σi i) := by
  rcases lot_or (hd.rg _ hi'.1) with h | ⟨l, _, h⟩
  ·have : tr σi τ d i = -1 := by unfold tr; rw [h]; rfl
   omega
  ·omega
 have := hd.inj _ _ hi'.1 hj'.1 e2 h1
 rw [← hi'.2, ← hj'.2, this]
end
structure Sr (m : Nat) (s o : List (List Int)) (σ σi τ τi : Nat → Nat) : Prop where
 hs : Vs m s
 ho : Vs m o
 len : o.length = s.length
 p : Rn s.length σ σi
 q : Rn m τ τi
 va : ∀ b, b < s.length → ∀ l : Nat, l < m → va o (σ b) (τ l : Nat) = va s b l
section
variable {m : Nat} {s o : List (List Int)} {σ σi τ τi : Nat → Nat}
theorem Sr.symm (h : Sr m s o σ σi τ τi) : Sr m o s σi σ τi τ := by
 refine ⟨h.ho, h.hs, h.len.symm, by rw [h.len]; exact h.p.symm, h.q.symm, fun b hb l hl => ?_⟩
 rw [h.len] at hb
 have h1 := h.p.b b hb
 have h2 := h.q.b l hl
 have := h.va _ h1.1 _ h2.1
 rw [h1.2, h2.2] at this
 exact this.symm
theorem Sr.va' (h : Sr m s o σ σi τ τi) {b : Nat} (hb : b < s.length) {x : Int} (hx : -1 ≤ x ∧ x < m) : Sale.va o (σ b) (tx τ x) = Sale.va s b x := by
 rcases lot_or hx with rfl | ⟨l, hl, rfl⟩
 ·rfl
 ·rw [tx_nat]; exact h.va b hb l hl
theorem Sr.wt (h : Sr m s o σ σi τ τi) {d : Nat → Int} (hd : Dv s.length m d) : Sale.wt s.length (Sale.va o) (tr σi τ d) = Sale.wt s.length (Sale.va s) d := by
 show sm s.length (fun i => Sale.va o i (tr σi τ d i)) = sm s.length (fun i => Sale.va s i (d i))
 rw [← sm_perm h.p]
 refine sm_congr fun i hi => ?_
 have h1 := h.p.a i hi
 show Sale.va o (σ i) (tx τ (d (σi (σ i)))) = _
 rw [h1.2, h.va' hi (hd.rg i hi)]
theorem Sr.W_le (h : Sr m s o σ σi τ τi) : W m s (-1) ≤ W m o (-1) := by
 have hd := best_dv h.hs
 have h1 := best_opt h.ho (u := tr σi τ (lot m s)) (by rw [h.len]; exact tr_dv h.p h.q hd)
 rw [best_wt h.ho, h.len, h.wt hd, best_wt h.hs] at h1
 exact h1
theorem Sr.W_eq (h : Sr m s o σ σi τ τi) : W m s (-1) = W m o (-1) := Int.le_antisymm h.W_le h.symm.W_le

def pn (m : Nat) (τi : Nat → Nat) (p : List Int) : List Int := (List.range m).map fun l => pr p (τi l : Nat)
theorem pn_pr {p : List Int} {l : Nat} (hl : l < m) : pr (pn m τi p) l = pr p (τi l : Nat) := by
 rw [pr_nat (by simpa [pn] using hl)]; simp [pn]
theorem Sr.fair (h : Sr m s o σ σi τ τi) {p : List Int} {d : Nat → Int} (hd : Dv s.length m d) (hf : Fp s.length m (Sale.va s) p d) : Fp o.length m (Sale.va o) (pn m τi p) (tr σi τ d) := by
 have hp : ∀ x : Int, -1 ≤ x ∧ x < m → pr (pn m τi p) (tx τ x) = pr p x := fun x hx => by
  rcases lot_or hx with rfl | ⟨l, hl, rfl⟩
  ·rfl
  ·rw [tx_nat, pn_pr (h.q.a l hl).1, (h.q.a l hl).2]
 have hv : ∀ i, i < s.length → ∀ x : Int, -1 ≤ x ∧ x < m → Sale.va o i (tx τ x) = Sale.va s (σi i) x := fun i hi x hx => by
  have h1 := h.p.b i hi
  have := h.va' h1.1 hx
  rw [h1.2] at this
  exact this
 rw [h.len]
 refine ⟨by simp [pn], fun l hl => ?_, fun i hi => ?_, fun i hi l hl => ?_, fun l hl hu => ?_⟩
 ·rw [pn_pr hl]; exact hf.nn _ (h.q.b l hl).1
 ·have h1 := h.p.b i hi
  have hr := hd.rg _ h1.1
  show 0 ≤ Sale.va o i (tx τ (d (σi i))) - pr (pn m τi p) (tx τ (d (σi i)))
  rw [hv i hi _ hr, hp _ hr]
  exact hf.own _ h1.1
 ·have h1 := h.p.b i hi
  have hr := hd.rg _ h1.1
  have h2 := h.q.b l hl
  show Sale.va o i l - pr (pn m τi p) l ≤ Sale.va o i (tx τ (d (σi i))) - pr (pn m τi p) (tx τ (d (σi i)))
  rw [hv i hi _ hr, hp _ hr, show ((l : Nat) : Int) = tx τ ((τi l : Nat) : Int) by rw [tx_nat, h2.2], hv i hi _ (by omega), hp _ (by omega)]
  exact hf.best _ h1.1 _ h2.1
 ·have h2 := h.q.b l hl
  rw [pn_pr hl]
  refine hf.free _ h2.1 fun i hi e => ?_
  have h1 := h.p.a i hi
  refine hu (σ i) h1.1 ?_
  show tx τ (d (σi (σ i))) = l
  rw [h1.2, e, tx_nat, h2.2]
theorem Sr.fair' (h : Sr m s o σ σi τ τi) {p : List Int} (hf : Fp s.length m (Sale.va s) p (lot m s)) : Fp o.length m (Sale.va o) (pn m τi p) (lot m o) := by
 have hd := best_dv h.hs
 have hd' : Dv o.length m (tr σi τ (lot m s)) := by rw [h.len]; exact tr_dv h.p h.q hd
 refine (h.fair hd hf).other hd' (va_none o) (best_dv h.ho) ?_
 exact best_opt h.ho hd'
theorem Sr.low_le (h : Sr m s o σ σi τ τi) {l : Nat} (hl : l < m) : pr (lowP m o) l ≤ pr (lowP m s) (τi l : Nat) := by
 have := lowP_least h.ho (h.fair' (lowP_fair h.hs)) hl
 rwa [pn_pr hl] at this
theorem Sr.low (h : Sr m s o σ σi τ τi) {l : Nat} (hl : l < m) : pr (lowP m o) (τ l : Nat) = pr (lowP m s) l := by
 have h1 := h.q.a l hl
 have h2 := h.low_le h1.1
 have h3 := h.symm.low_le hl
 rw [h1.2] at h2
 omega
theorem Sr.high_le (h : Sr m s o σ σi τ τi) {l : Nat} (hl : l < m) : pr (highP m s) (τi l : Nat) ≤ pr (highP m o) l := by
 have := highP_most h.ho (h.fair' (highP_fair h.hs)) hl
 rwa [pn_pr hl] at this
theorem Sr.high (h : Sr m s o σ σi τ τi) {l : Nat} (hl : l < m) : pr (highP m o) (τ l : Nat) = pr (highP m s) l := by
 have h1 := h.q.a l hl
 have h2 := h.high_le h1.1
 have h3 := h.symm.high_le hl
 rw [h1.2] at h2
 omega
end

theorem cand_nodup {m L : Nat} {b : Bool} : (cand m L b).Nodup := by
 unfold cand
 refine List.nodup_cons.2 ⟨fun h => ?_, ?_⟩
 ·split at h
  ·obtain ⟨l, _, e⟩ := List.mem_map.1 h; omega
  ·cases h
 ·split
  ·have h : ((List.range m).filter fun l => L.testBit l).Nodup := List.Pairwise.filter _ List.nodup_range
   generalize ((List.range m).filter fun l => L.testBit l) = l at h
   induction l with
   | nil => simp
   | cons x l ih =>
    rw [List.map_cons, List.nodup_cons]
    refine ⟨fun hx => ?_, ih (List.nodup_cons.1 h).2⟩
    obtain ⟨y, hy, e⟩ := List.mem_map.1 hx
    have : y = x := by omega
    exact (List.nodup_cons.1 h).1 (this ▸ hy)
  ·simp
theorem ds_nodup {m : Nat} {but : Int} : ∀ (k i L : Nat), (ds m but k i L).Nodup
 | 0, _, _ => by simp [ds]
 | k + 1, i, L => by
  rw [ds]
  have hc : (cand m L (decide ((i : Int) ≠ but))).Nodup := cand_nodup
  generalize cand m L (decide ((i : Int) ≠ but)) = c at hc
  induction c with
  | nil => simp
  | cons x c ih =>
   rw [List.flatMap_cons, List.nodup_append]
   refine ⟨?_, ih (List.nodup_cons.1 hc).2, fun a ha b hb e => ?_⟩
   ·have h := ds_nodup (m := m) (but := but) k (i + 1) (dx L x)
    generalize ds m but k (i + 1) (dx L x) = t at h
    induction t with
    | nil => simp
    | cons y t ih =>
     rw [List.map_cons, List.nodup_cons]
     refine ⟨fun hy => ?_, ih (List.nodup_cons.1 h).2⟩
     obtain ⟨z, hz, e⟩ := List.mem_map.1 hy
     have : z = y := (List.cons.inj e).2
     exact (List.nodup_cons.1 h).1 (this ▸ hz)
   ·obtain ⟨t, _, rfl⟩ := List.mem_map.1 ha
    obtain ⟨y, hy, hb⟩ := List.mem_flatMap.1 hb
    obtain ⟨t', _, rfl⟩ := List.mem_map.1 hb
    exact (List.nodup_cons.1 hc).1 ((List.cons.inj e).1 ▸ hy)
def bests (m : Nat) (s : List (List Int)) : List (List Int) := (ds m (-1) s.length 0 (all_ m)).filter fun t => decide (wv s t = (mo m (-1) s 0 (all_ m)).1)
def ties (m : Nat) (s : List (List Int)) : Int := (mo m (-1) s 0 (all_ m)).2
section
variable {m : Nat} {s o : List (List Int)} {σ σi τ τi : Nat → Nat}
theorem ties_len (hv : Vs m s) : ties m s = ((bests m s).length : Nat) := (mo_top hv).2.2
theorem bests_nodup : (bests m s).Nodup := List.Pairwise.filter _ (ds_nodup _ _ _)
theorem bests_in (hv : Vs m s) {l : List Int} (h : l ∈ bests m s) : l.length = s.length ∧ Dv s.length m (fl l) ∧ wt s.length (va s) (fl l) = W m s (-1) := by
 obtain ⟨h1, h2⟩ := List.mem_filter.1 h
 have h3 := (ds_range _ _ _ _ h1).1
 refine ⟨h3, (ds_dv hv.m5 (all_lt hv.m5) h1).1, ?_⟩
 rw [← wv_wt s l h3]; exact of_decide_eq_true h2
theorem bests_of (hv : Vs m s) {t : Nat → Int} (ht : Dv s.length m t) (e : wt s.length (va s) t = W m s (-1)) : (List.range s.length).map t ∈ bests m s := by
 refine List.mem_filter.2 ⟨dv_ds hv.m5 (all_lt hv.m5) ht (bit_all hv ht), decide_eq_true ?_⟩
 rw [wv_wt s _ (by simp)]
 show wt s.length (va s) (fl ((List.range s.length).map t)) = W m s (-1)
 rw [← e]
 exact sm_congr fun i hi => by rw [fl_map hi]
theorem Sr.ties_le (h : Sr m s o σ σi τ τi) : (bests m s).length ≤ (bests m o).length := by
 have h1 : ((bests m s).map fun l => (List.range o.length).map (tr σi τ (fl l))).length ≤ (bests m o).length := by
  refine sub_len _ _ ?_ fun x hx => ?_
  ·have hnd := bests_nodup (m := m) (s := s)
   have hin := fun l (hl : l ∈ bests m s) => bests_in h.hs hl
   generalize bests m s = L at hnd hin
   induction L with
   | nil => simp
   | cons x L ih =>
    rw [List.map_cons, List.nodup_cons]
    refine ⟨fun hx => ?_, ih (List.nodup_cons.1 hnd).2 fun l hl => hin l (List.mem_cons_of_mem _ hl)⟩
    obtain ⟨y, hy, e⟩ := List.mem_map.1 hx
    obtain ⟨x1, x2, _⟩ := hin x (List.mem_cons_self ..)
    obtain ⟨y1, y2, _⟩ := hin y (List.mem_cons_of_mem _ hy)
    have : y = x := by
     refine List.ext_getElem (by omega) fun i i1 i2 => ?_
     have hi : i < s.length := by omega
     have hσ := h.p.a i hi
     have e2 : tr σi τ (fl y) (σ i) = tr σi τ (fl x) (σ i) := by
      have := congrArg (fun l => fl l (σ i)) e
      rw [fl_map (by rw [h.len]; exact hσ.1), fl_map (by rw [h.len]; exact hσ.1)] at this
      exact this
     unfold tr at e2
     rw [hσ.2] at e2
     have e3 := congrArg (tx τi) e2
     rw [tx_back h.q (y2.rg i hi), tx_back h.q (x2.rg i hi), fl_get i1, fl_get i2] at e3
     exact e3
    exact (List.nodup_cons.1 hnd).1 (this ▸ hy)
  ·obtain ⟨l, hl, rfl⟩ := List.mem_map.1 hx
   obtain ⟨_, l2, l3⟩ := bests_in h.hs hl
   refine bests_of h.ho (by rw [h.len]; exact tr_dv h.p h.q l2) ?_
   rw [h.len, h.wt l2, l3, h.W_eq]
 simpa using h1
theorem Sr.ties (h : Sr m s o σ σi τ τi) : Sale.ties m s = Sale.ties m o := by
 rw [ties_len h.hs, ties_len h.ho]
 have h1 := h.ties_le
 have h2 := h.symm.ties_le
 omega
theorem only_best (hv : Vs m s) (ht : ties m s = 1) {t : Nat → Int} (hd : Dv s.length m t) (e : wt s.length (va s) t = W m s (-1)) {i : Nat} (hi : i < s.length) : t i = lot m s i := by
 rw [ties_len hv] at ht
 have h1 := bests_of hv hd e
 have h2 := bests_of hv (best_dv hv) (best_wt hv)
 obtain ⟨x, hx⟩ := List.length_eq_one_iff.1 (show (bests m s).length = 1 by omega)
 rw [hx, List.mem_singleton] at h1 h2
 have := congrArg (fun l => fl l i) (h1.trans h2.symm)
 rw [fl_map hi, fl_map hi] at this
 exact this
theorem Sr.lot (h : Sr m s o σ σi τ τi) (ht : Sale.ties m s = 1) {b : Nat} (hb : b < s.length) : Sale.lot m o (σ b) = tx τ (Sale.lot m s b) := by
 have hd := best_dv h.ho
 have hd' : Dv s.length m (tr σ τi (Sale.lot m o)) := by
  have := tr_dv h.symm.p h.symm.q hd
  rw [h.len] at this; exact this
 have hw : Sale.wt s.length (Sale.va s) (tr σ τi (Sale.lot m o)) = W m s (-1) := by
  have := h.symm.wt hd
  rw [h.len] at this
  rw [this, ← h.len, best_wt h.ho, h.W_eq]
 have e := only_best h.hs ht hd' hw hb
 have hr := hd.rg (σ b) (by rw [h.len]; exact (h.p.a b hb).1)
 have e2 := congrArg (tx τ) e
 unfold tr at e2
 rw [tx_back h.q.symm hr] at e2
 exact e2
end
end

end Go.Gh.Sale
