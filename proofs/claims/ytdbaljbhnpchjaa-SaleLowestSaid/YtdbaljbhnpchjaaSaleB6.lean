/- What is needed of the plain texts. -/
import Derived.Test.YtdbaljbhnpchjaaSale6N0
namespace Go.Gh.Sale
set_option linter.unusedVariables false
set_option linter.unusedSimpArgs false

section
theorem w64_in {n : Int} (h : -9223372036854775808 ≤ n ∧ n < 9223372036854775808) : w64 n = n := by
 unfold w64 IntKind.wrap
 simp [IntKind.bits, IntKind.signed]
 split <;> omega
theorem w64_succ {n : Nat} (h : n < 1000000000) : w64 ((n : Int) + 1) = ((n + 1 : Nat) : Int) := by rw [w64_in (by omega)]; omega
theorem at_of {α : Type} {l : List α} {i : Nat} {x : α} (h : l[i]? = some x) : at? l ((i : Nat) : Int) = some x := by
 unfold at?; rw [if_pos (by omega), Int.toNat_natCast]; exact h
theorem at_get {α : Type} {l : List α} {i : Nat} (h : i < l.length) : at? l ((i : Nat) : Int) = some l[i] := at_of (List.getElem?_eq_getElem h)
theorem req_pos {α : Type} {p : Prop} [Decidable p] {x : Option α} (h : p) : req p x = x := by unfold req; rw [if_pos h]
theorem take0 {α : Type} (l : List α) : List.drop 0 (List.take (0 + l.length) l) = l := by simp
theorem drop_cons {α : Type} {l : List α} {i : Nat} (h : i < l.length) : l.drop i = l[i] :: l.drop (i + 1) := List.drop_eq_getElem_cons h
def dl (L l : Nat) : Nat := if L.testBit l = true then L - 2 ^ l else L
def lookL : Bool := (List.range 32).all fun (L : Nat) => (List.range 5).all fun (l : Nat) => (iAndNot .u8 (L : Int) (iShl .u8 1 (l : Int)) == ((dl L l : Nat) : Int)) && ((iAnd .u8 (iShr .u8 (L : Int) (l : Int)) 1 == 1) == L.testBit l) && decide (dl L l < 32) &&
 (List.range 5).all fun j => (dl L l).testBit j == (L.testBit j && j != l)
theorem lookL_true : lookL = true := by decide +kernel
theorem look_L {L l : Nat} (hL : L < 32) (hl : l < 5) : iAndNot .u8 (L : Int) (iShl .u8 1 (l : Int)) = ((dl L l : Nat) : Int) ∧ (iAnd .u8 (iShr .u8 (L : Int) (l : Int)) 1 == 1) = L.testBit l ∧ dl L l < 32 ∧ ∀ j, j < 5 → (dl L l).testBit j = (L.testBit j && j != l) := by
 have h := lookL_true
 unfold lookL at h
 simp only [List.all_eq_true, List.mem_range] at h
 have h2 := h L hL l hl
 simp only [Bool.and_eq_true, beq_iff_eq, List.all_eq_true, List.mem_range, decide_eq_true_eq] at h2
 exact ⟨h2.1.1.1, h2.1.1.2, h2.1.2, h2.2⟩
theorem f71_neg {F : Nat} {L : Int} : f71 F L (-1) = some (L, true) := by unfold f71; rw [if_pos (by decide)]
theorem f71_eq {F L l : Nat} (hL : L < 32) (hl : l < 5) : f71 F L l = some (((dl L l : Nat) : Int), L.testBit l) := by
 obtain ⟨h1, h2, _⟩ := look_L hL hl
 unfold f71
 rw [if_neg (by simp), req_pos (by omega), h1, h2]
def all_ (m : Nat) : Nat := 2 ^ m - 1
theorem all_look : ((List.range 6).all fun (m : Nat) => IntKind.wrap .u8 ((iShl .u8 1 (m : Int)) - 1) == ((all_ m : Nat) : Int) && decide (all_ m < 32)) = true := by decide +kernel
theorem f69_eq {F m : Nat} {M : Mm} {s : List (List Int)} (hm : m ≤ 5) : f69 F M s m = some ((all_ m : Nat) : Int) ∧ all_ m < 32 := by
 have h := all_look
 simp only [List.all_eq_true, List.mem_range, Bool.and_eq_true, beq_iff_eq, decide_eq_true_eq] at h
 have h2 := h m (by omega)
 unfold f69
 rw [req_pos (by omega), h2.1]
 exact ⟨rfl, h2.2⟩
theorem all_bit {m j : Nat} : (all_ m).testBit j = decide (j < m) := by unfold all_; exact Nat.testBit_two_pow_sub_one m j

def cand (m L : Nat) (free : Bool) : List Int := -1 :: (if free then ((List.range m).filter fun l => L.testBit l).map (fun (l : Nat) => (l : Int)) else [])
def dx (L : Nat) (x : Int) : Nat := if x < 0 then L else dl L x.toNat
def vl (r : List Int) (x : Int) : Int := if x < 0 then 0 else (r[x.toNat]?).getD 0
def comb (b a : Int × Int) : Int × Int := if a.1 > b.1 then a else if a.1 = b.1 then (b.1, b.2 + a.2) else b
def mo (m : Nat) (but : Int) : List (List Int) → Nat → Nat → Int × Int
 | [], _, _ => (0, 1)
 | r :: rs, i, L => (cand m L (decide ((i : Int) ≠ but))).foldl (fun b x => comb b ((mo m but rs (i + 1) (dx L x)).1 + vl r x, (mo m but rs (i + 1) (dx L x)).2)) (-1, 0)
def Ok (m : Nat) (s : List (List Int)) : Prop := ∀ r ∈ s, r.length = m ∧ ∀ x ∈ r, 0 ≤ x ∧ x ≤ 99
theorem vl_bd {m : Nat} {r : List Int} (h : r.length = m ∧ ∀ x ∈ r, 0 ≤ x ∧ x ≤ 99) (x : Int) : 0 ≤ vl r x ∧ vl r x ≤ 99 := by
 unfold vl
 split
 ·omega
 ·by_cases hx : x.toNat < r.length
  ·rw [List.getElem?_eq_getElem hx]
   exact h.2 _ (List.getElem_mem hx)
  ·rw [List.getElem?_eq_none (by omega)]
   exact ⟨Int.le_refl 0, by decide⟩
theorem cand_len (m L : Nat) (free : Bool) : (cand m L free).length ≤ m + 1 := by
 unfold cand
 cases free
 ·simp
 ·have := List.length_filter_le (fun l => L.testBit l) (List.range m)
  simp at this ⊢
  omega
theorem comb_bd {A C t : Int} {b a : Int × Int} (hb : -1 ≤ b.1 ∧ b.1 ≤ A ∧ 0 ≤ b.2 ∧ b.2 ≤ t * C) (ha : 0 ≤ a.1 ∧ a.1 ≤ A ∧ 1 ≤ a.2 ∧ a.2 ≤ C) (ht : 0 ≤ t) : 0 ≤ (comb b a).1 ∧ (comb b a).1 ≤ A ∧ 0 ≤ (comb b a).2 ∧ (comb b a).2 ≤ (t + 1) * C ∧ (0 ≤ b.1 → 1 ≤ b.2 → 1 ≤ (comb b a).2) ∧ (b = (-1, 0) → 1 ≤ (comb b a).2) := by
 have e : (t + 1) * C = t * C + C := by rw [Int.add_mul, Int.one_mul]
 have hC : 0 ≤ t * C := Int.mul_nonneg ht (by omega)
 unfold comb
 by_cases h1 : a.1 > b.1
 ·rw [if_pos h1]
  exact ⟨by omega, by omega, by omega, by omega, fun _ _ => by omega, fun _ => by omega⟩
 ·rw [if_neg h1]
  by_cases h2 : a.1 = b.1
  ·rw [if_pos h2]
   exact ⟨by show 0 ≤ b.1; omega, by show b.1 ≤ A; omega, by show 0 ≤ b.2 + a.2; omega, by show b.2 + a.2 ≤ _; omega, fun _ _ => by show 1 ≤ b.2 + a.2; omega, fun _ => by show 1 ≤ b.2 + a.2; omega⟩
  ·rw [if_neg h2]
   exact ⟨by omega, by omega, by omega, by omega, fun _ _ => by omega, fun h => by subst h; simp at h1; omega⟩
theorem fold_bd {A C : Int} (g : Int → Int × Int) (hg : ∀ x, 0 ≤ (g x).1 ∧ (g x).1 ≤ A ∧ 1 ≤ (g x).2 ∧ (g x).2 ≤ C) : ∀ (xs : List Int) (b : Int × Int) (t : Int), 0 ≤ t → -1 ≤ b.1 ∧ b.1 ≤ A ∧ 0 ≤ b.2 ∧ b.2 ≤ t * C →
  -1 ≤ (xs.foldl (fun b x => comb b (g x)) b).1 ∧ (xs.foldl (fun b x => comb b (g x)) b).1 ≤ A ∧ 0 ≤ (xs.foldl (fun b x => comb b (g x)) b).2 ∧ (xs.foldl (fun b x => comb b (g x)) b).2 ≤ (t + xs.length) * C ∧
  (0 ≤ b.1 → 1 ≤ b.2 → 0 ≤ (xs.foldl (fun b x => comb b (g x)) b).1 ∧ 1 ≤ (xs.foldl (fun b x => comb b (g x)) b).2) := by
 intro xs
 induction xs with
 | nil => intro b t ht hb; exact ⟨hb.1, hb.2.1, hb.2.2.1, by simpa using hb.2.2.2, fun h1 h2 => ⟨h1, h2⟩⟩
 | cons x xs ih =>
  intro b t ht hb
  have h1 := comb_bd hb (hg x) ht
  have h2 := ih (comb b (g x)) (t + 1) (by omega) ⟨by omega, h1.2.1, h1.2.2.1, h1.2.2.2.1⟩
  rw [List.foldl_cons]
  refine ⟨h2.1, h2.2.1, h2.2.2.1, ?_, fun a1 a2 => h2.2.2.2.2 (by omega) (h1.2.2.2.2.1 a1 a2)⟩
  have := h2.2.2.2.1
  rw [List.length_cons, show (t + ((xs.length + 1 : Nat) : Int)) = t + 1 + (xs.length : Int) by omega]
  exact this
theorem pow6 (k : Nat) : 1 ≤ (6 : Int) ^ k := by
 induction k with
 | zero => decide
 | succ k ih => rw [Int.pow_succ]; omega
theorem mo_bd {m : Nat} (hm : m ≤ 5) {but : Int} : ∀ (rows : List (List Int)) (i L : Nat), Ok m rows → 0 ≤ (mo m but rows i L).1 ∧ (mo m but rows i L).1 ≤ 99 * rows.length ∧ 1 ≤ (mo m but rows i L).2 ∧ (mo m but rows i L).2 ≤ 6 ^ rows.length := by
 intro rows
 induction rows with
 | nil => intro i L _; exact ⟨Int.le_refl 0, by show (0 : Int) ≤ 99 * ((0 : Nat) : Int); decide, Int.le_refl 1, Int.le_refl 1⟩
 | cons r rs ih =>
  intro i L h
  have hr := h r (by simp)
  have hrs : Ok m rs := fun x hx => h x (by simp [hx])
  have hg : ∀ x : Int, 0 ≤ ((mo m but rs (i + 1) (dx L x)).1 + vl r x, (mo m but rs (i + 1) (dx L x)).2).1 ∧ ((mo m but rs (i + 1) (dx L x)).1 + vl r x, (mo m but rs (i + 1) (dx L x)).2).1 ≤ 99 * ((r :: rs).length : Int) ∧
    1 ≤ ((mo m but rs (i + 1) (dx L x)).1 + vl r x, (mo m but rs (i + 1) (dx L x)).2).2 ∧ ((mo m but rs (i + 1) (dx L x)).1 + vl r x, (mo m but rs (i + 1) (dx L x)).2).2 ≤ 6 ^ rs.length := fun x => by
   have := ih (i + 1) (dx L x) hrs
   have := vl_bd hr x
   rw [List.length_cons]
   dsimp only
   omega
  have hc := cand_len m L (decide ((i : Int) ≠ but))
  have hp := pow6 rs.length
  simp only [mo]
  generalize hxs : cand m L (decide ((i : Int) ≠ but)) = xs at *
  match xs, hxs with
  | [], hxs => unfold cand at hxs; cases hxs
  | y :: ys, _ =>
   have h0 := comb_bd (b := ((-1 : Int), (0 : Int))) (A := 99 * ((r :: rs).length : Int)) (C := 6 ^ rs.length) (t := 0) ⟨Int.le_refl _, by omega, Int.le_refl 0, by omega⟩ (hg y) (Int.le_refl 0)
   have h1 := fold_bd (A := 99 * ((r :: rs).length : Int)) (C := 6 ^ rs.length) _ hg ys (comb (-1, 0) ((mo m but rs (i + 1) (dx L y)).1 + vl r y, (mo m but rs (i + 1) (dx L y)).2)) 1 (by decide) ⟨by omega, h0.2.1, h0.2.2.1, h0.2.2.2.1⟩
   rw [List.foldl_cons]
   have h2 := h1.2.2.2.2 h0.1 (h0.2.2.2.2.2 rfl)
   refine ⟨h2.1, h1.2.1, h2.2, Int.le_trans h1.2.2.2.1 ?_⟩
   rw [List.length_cons, Int.pow_succ, Int.mul_comm]
   refine Int.mul_le_mul_of_nonneg_left ?_ (by omega)
   simp only [List.length_cons] at hc
   omega

theorem mget_mset {α β : Type} [DecidableEq α] : ∀ (es : List (α × β)) (k j : α) (v : β), mget (mset es k v) j = if k = j then some v else mget es j
 | [], k, j, v => by simp only [mset, mget]
 | e :: es, k, j, v => by
  simp only [mset]
  by_cases h : e.1 = k
  ·rw [if_pos h]
   simp only [mget]
   by_cases h2 : k = j
   ·rw [if_pos h2, if_pos h2]
   ·rw [if_neg h2, if_neg h2, if_neg (by rw [h]; exact h2)]
  ·rw [if_neg h]
   simp only [mget]
   rw [mget_mset es k j v]
   by_cases h2 : e.1 = j
   ·rw [if_pos h2, if_pos h2, if_neg (by rw [← h2]; exact fun e => h e.symm)]
   ·rw [if_neg h2, if_neg h2]
def Good (m : Nat) (s : List (List Int)) (M : Mm) : Prop := ∀ (i L : Nat) (but : Int) v, i ≤ s.length → L < 32 → mget M ((i : Int), (but, ((L : Int), ()))) = some v → v = ((mo m but (s.drop i) i L).1, ((mo m but (s.drop i) i L).2, ()))
theorem Good.nil (m : Nat) (s : List (List Int)) : Good m s [] := fun _ _ _ _ _ _ h => by cases h
theorem Good.set {m : Nat} {s : List (List Int)} {M : Mm} (h : Good m s M) {i L : Nat} {but : Int} : Good m s (mset M ((i : Int), (but, ((L : Int), ()))) ((mo m but (s.drop i) i L).1, ((mo m but (s.drop i) i L).2, ()))) := by
 intro j L' but' v h1 h2 h3
 rw [mget_mset] at h3
 split at h3
 ·rename_i he
  simp only [Prod.mk.injEq] at he
  obtain ⟨e1, e2, e3, _⟩ := he
  have e1 : i = j := by omega
  have e3 : L = L' := by omega
  subst e1; subst e2; subst e3
  exact (Option.some.inj h3).symm
 ·exact h j L' but' v h1 h2 h3
theorem f72_eq {F i : Nat} {M : Mm} {s : List (List Int)} {x m : Int} {n : Nat} (ho : Ok n s) (hi : i < s.length) (hx : -1 ≤ x ∧ x < n) : f72 F i x M s m = some (vl s[i] x) := by
 unfold f72 vl
 by_cases h : x < 0
 ·rw [if_pos (by simpa using h), if_pos h]
 ·obtain ⟨l, rfl⟩ : ∃ l : Nat, x = l := ⟨x.toNat, by omega⟩
  have hl := (ho _ (List.getElem_mem hi)).1
  have hb : l < s[i].length := by omega
  rw [if_neg (by simp), if_neg h, at_get hi, Option.bind_some, at_get hb, Option.bind_some, Int.toNat_natCast, List.getElem?_eq_getElem hb]
  rfl
theorem comb_eq {F : Nat} {x v w t : Int} {b : Int × Int} {M : Mm} {s : List (List Int)} {m i but L : Int} (hw : 0 ≤ w ∧ w ≤ 1000) (hv : 0 ≤ v ∧ v ≤ 99) (ht : 0 ≤ t ∧ t ≤ 1000000) (hb : 0 ≤ b.2 ∧ b.2 ≤ 1000000000) :
  f68_p8_1 F x w v b.1 M s m i but L b.2 t = some (comb b (w + v, t)) ∧ f68_p8_2 F x w v b.1 M s m i but L b.2 t = some (comb b (w + v, t)) := by
 have e1 : w64 (w + v) = w + v := w64_in (by omega)
 have e2 : w64 (b.2 + t) = b.2 + t := w64_in (by omega)
 unfold f68_p8_1 f68_p8_2 f68_p9_1 f68_p9_2 comb
 rw [e1, e2]
 by_cases h1 : w + v > b.1
 ·rw [if_pos (by simpa using h1), if_pos h1]
  exact ⟨rfl, rfl⟩
 ·rw [if_neg (by simpa using h1), if_neg h1]
  by_cases h2 : w + v = b.1
  ·rw [if_pos (by simpa using h2), if_pos h2]
   exact ⟨rfl, rfl⟩
  ·rw [if_neg (by simpa using h2), if_neg h2]
   exact ⟨rfl, rfl⟩
def lotsF (m L : Nat) (free : Bool) (j : Nat) : List Int := if free then (((List.range m).drop j).filter fun l => L.testBit l).map (fun (l : Nat) => (l : Int)) else []
theorem lotsF_zero (m L : Nat) (free : Bool) : cand m L free = -1 :: lotsF m L free 0 := by unfold cand lotsF; rw [List.drop_zero]
theorem lotsF_step {m L j : Nat} {free : Bool} (h : j < m) : lotsF m L free j = if free && L.testBit j then (j : Int) :: lotsF m L free (j + 1) else lotsF m L free (j + 1) := by
 unfold lotsF
 cases free
 ·simp
 ·simp only [if_true, Bool.true_and]
  rw [show (List.range m).drop j = j :: (List.range m).drop (j + 1) by rw [List.drop_eq_getElem_cons (by simpa using h)]; simp]
  rw [List.filter_cons]
  split <;> simp
theorem lotsF_end {m L j : Nat} {free : Bool} (h : m ≤ j) : lotsF m L free j = [] := by
 unfold lotsF
 rw [List.drop_eq_nil_of_le (by simpa using h)]
 simp
abbrev gm (m : Nat) (but : Int) (rs : List (List Int)) (i L : Nat) (r : List Int) (x : Int) : Int × Int := ((mo m but rs (i + 1) (dx L x)).1 + vl r x, (mo m but rs (i + 1) (dx L x)).2)
theorem pow5 {k : Nat} (h : k ≤ 5) : (6 : Int) ^ k ≤ 7776 := by
 match k, h with
 | 0, _ => decide
 | 1, _ => decide
 | 2, _ => decide
 | 3, _ => decide
 | 4, _ => decide
 | 5, _ => decide
 | k + 6, h => omega
theorem f68_p3_eq {F m i L : Nat} {but : Int} {s : List (List Int)} (hm : m ≤ 5) (hn : s.length ≤ 5) (ho : Ok m s) (hL : L < 32) (hi : i < s.length)
  {rec : Int → Int → Int → Mm → List (List Int) → Int → Option (Int × Int × Mm)}
  (hrec : ∀ (L' : Nat) (M : Mm), L' < 32 → Good m s M → ∃ M', rec ((i + 1 : Nat) : Int) but (L' : Int) M s m = some ((mo m but (s.drop (i + 1)) (i + 1) L').1, (mo m but (s.drop (i + 1)) (i + 1) L').2, M') ∧ Good m s M') :
  ∀ (k j : Nat) (M : Mm) (b : Int × Int), m < k + j → Good m s M → 0 ≤ b.2 ∧ b.2 ≤ 10000 * (j + 1) → j ≤ m →
  ∃ M', f68_p3 F rec s m i but L k j M b.1 b.2 = some (M', ((lotsF m L (decide ((i : Int) ≠ but)) j).foldl (fun b x => comb b (gm m but (s.drop (i + 1)) i L s[i] x)) b)) ∧ Good m s M' := by
 have hr := ho _ (List.getElem_mem hi)
 have hrs : Ok m (s.drop (i + 1)) := fun r hr => ho r (List.mem_of_mem_drop hr)
 have hp := pow5 (k := (s.drop (i + 1)).length) (by simp; omega)
 have hlen : (s.drop (i + 1)).length ≤ 5 := by simp; omega
 intro k
 induction k with
 | zero => intro j M b h _ _ _; omega
 | succ k ih =>
  intro j M b h1 h2 h3 h4
  unfold f68_p3
  by_cases hj : j < m
  ·have e1 : w64 ((j : Int) + 1) = ((j + 1 : Nat) : Int) := w64_succ (by omega)
   rw [if_pos (by simp; omega), f71_eq hL (by omega), Option.bind_some, lotsF_step hj, e1]
   dsimp only
   by_cases ht : L.testBit j = true
   ·rw [ht, if_pos rfl, if_pos (by simp)]
    by_cases hb : (i : Int) = but
    ·rw [if_pos (by simpa using hb), decide_eq_false (by simpa using hb)]
     simp only [Bool.false_and, Bool.false_eq_true, if_false]
     have := ih (j + 1) M b (by omega) h2 (by omega) (by omega)
     rw [decide_eq_false (by simpa using hb)] at this
     exact this
    ·obtain ⟨h5, h6, h7, h8⟩ := look_L hL (show j < 5 by omega)
     obtain ⟨M1, g1, g2⟩ := hrec (dl L j) M h7 h2
     have bd := mo_bd (but := but) hm (s.drop (i + 1)) (i + 1) (dl L j) hrs
     have hv := vl_bd hr (j : Int)
     have edx : dx L (j : Int) = dl L j := by unfold dx; rw [if_neg (by omega), Int.toNat_natCast]
     rw [if_neg (by simpa using hb), decide_eq_true (by simpa using hb), w64_succ (by omega), g1, Option.bind_some]
     dsimp only
     rw [f72_eq ho hi ⟨by omega, by omega⟩, Option.bind_some]
     obtain ⟨c1, _⟩ := comb_eq (F := F) (x := (j : Int)) (v := vl s[i] j) (w := (mo m but (s.drop (i + 1)) (i + 1) (dl L j)).1) (t := (mo m but (s.drop (i + 1)) (i + 1) (dl L j)).2) (b := b) (M := M1) (s := s) (m := m) (i := i) (but := but) (L := L) ⟨by omega, by omega⟩ hv ⟨by omega, by omega⟩ ⟨by omega, by omega⟩
     rw [c1, Option.bind_some]
     simp only [Bool.true_and, if_true, List.foldl_cons]
     have hb2 : 0 ≤ (comb b ((mo m but (s.drop (i + 1)) (i + 1) (dl L j)).1 + vl s[i] j, (mo m but (s.drop (i + 1)) (i + 1) (dl L j)).2)).2 ∧ (comb b ((mo m but (s.drop (i + 1)) (i + 1) (dl L j)).1 + vl s[i] j, (mo m but (s.drop (i + 1)) (i + 1) (dl L j)).2)).2 ≤ 10000 * (((j + 1 : Nat) : Int) + 1) := by
      unfold comb
      dsimp only
      split
      ·dsimp only; omega
      ·split
       ·dsimp only; omega
       ·omega
     have := ih (j + 1) M1 (comb b ((mo m but (s.drop (i + 1)) (i + 1) (dl L j)).1 + vl s[i] j, (mo m but (s.drop (i + 1)) (i + 1) (dl L j)).2)) (by omega) g2 hb2 (by omega)
     rw [decide_eq_true (by simpa using hb)] at this
     rw [show gm m but (s.drop (i + 1)) i L s[i] (j : Int) = ((mo m but (s.drop (i + 1)) (i + 1) (dl L j)).1 + vl s[i] j, (mo m but (s.drop (i + 1)) (i + 1) (dl L j)).2) by unfold gm; rw [edx]]
     exact this
   ·have ht : L.testBit j = false := by simpa using ht
    rw [ht]
    simp only [Bool.and_false, Bool.false_eq_true, if_false]
    exact ih (j + 1) M b (by omega) h2 (by omega) (by omega)
  ·rw [if_neg (by simp; omega), lotsF_end (by omega)]
   exact ⟨M, rfl, h2⟩
theorem f68_eq {F m : Nat} {but : Int} {s : List (List Int)} (hF : 100 ≤ F) (hm : m ≤ 5) (hn : s.length ≤ 5) (ho : Ok m s) : ∀ (k i L : Nat) (M : Mm), i ≤ s.length → s.length < k + i → L < 32 → Good m s M →
  ∃ M', f68 F k i but L M s m = some ((mo m but (s.drop i) i L).1, (mo m but (s.drop i) i L).2, M') ∧ Good m s M' := by
 intro k
 induction k with
 | zero => intro i L M _ h; omega
 | succ k ih =>
  intro i L M h1 h2 h3 h4
  show ∃ M', f68_b F (f68 F k) i but L M s m = _ ∧ _
  unfold f68_b
  by_cases hi : i = s.length
  ·subst hi
   rw [if_pos (by simp), List.drop_length]
   exact ⟨M, rfl, h4⟩
  ·have hil : i < s.length := by omega
   rw [if_neg (by simp; omega)]
   cases hg : mget M ((i : Int), (but, ((L : Int), ()))) with
   | some v =>
    have := h4 i L but v h1 h3 hg
    subst this
    simp only [Option.isSome_some, if_true]
    exact ⟨M, rfl, h4⟩
   | none =>
    rw [if_neg (by simp)]
    have hr := ho _ (List.getElem_mem hil)
    have hrs : Ok m (s.drop (i + 1)) := fun r hr => ho r (List.mem_of_mem_drop hr)
    have hp := pow5 (k := (s.drop (i + 1)).length) (by simp; omega)
    have hlen : (s.drop (i + 1)).length ≤ 5 := by simp; omega
    have bd := mo_bd (but := but) hm (s.drop (i + 1)) (i + 1) L hrs
    have hrec : ∀ (L' : Nat) (M : Mm), L' < 32 → Good m s M → ∃ M', f68 F k ((i + 1 : Nat) : Int) but (L' : Int) M s m = some ((mo m but (s.drop (i + 1)) (i + 1) L').1, (mo m but (s.drop (i + 1)) (i + 1) L').2, M') ∧ Good m s M' :=
     fun L' M hL' hM => ih (i + 1) L' M (by omega) (by omega) hL' hM
    obtain ⟨M1, g1, g2⟩ := hrec L M h3 h4
    obtain ⟨_, c2⟩ := comb_eq (F := F) (x := (-1 : Int)) (v := vl s[i] (-1)) (w := (mo m but (s.drop (i + 1)) (i + 1) L).1) (t := (mo m but (s.drop (i + 1)) (i + 1) L).2) (b := ((-1 : Int), (0 : Int))) (M := M1) (s := s) (m := m) (i := i) (but := but) (L := L) ⟨by omega, by omega⟩ (vl_bd hr (-1)) ⟨by omega, by omega⟩ ⟨by decide, by decide⟩
    have hb2 : 0 ≤ (comb (-1, 0) ((mo m but (s.drop (i + 1)) (i + 1) L).1 + vl s[i] (-1), (mo m but (s.drop (i + 1)) (i + 1) L).2)).2 ∧ (comb (-1, 0) ((mo m but (s.drop (i + 1)) (i + 1) L).1 + vl s[i] (-1), (mo m but (s.drop (i + 1)) (i + 1) L).2)).2 ≤ 10000 * (((0 : Nat) : Int) + 1) := by
     unfold comb
     dsimp only
     split
     ·dsimp only; omega
     ·split
      ·dsimp only; omega
      ·dsimp only; omega
    obtain ⟨F', rfl⟩ : ∃ F', F = F' + 1 := ⟨F - 1, by omega⟩
    obtain ⟨M2, p1, p2⟩ := f68_p3_eq (F := F' + 1) (but := but) hm hn ho h3 hil hrec F' 0 M1 (comb (-1, 0) ((mo m but (s.drop (i + 1)) (i + 1) L).1 + vl s[i] (-1), (mo m but (s.drop (i + 1)) (i + 1) L).2)) (by omega) g2 hb2 (by omega)
    have hd : s.drop i = s[i] :: s.drop (i + 1) := drop_cons hil
    have emo : mo m but (s.drop i) i L = (lotsF m L (decide ((i : Int) ≠ but)) 0).foldl (fun b x => comb b (gm m but (s.drop (i + 1)) i L s[i] x)) (comb (-1, 0) ((mo m but (s.drop (i + 1)) (i + 1) L).1 + vl s[i] (-1), (mo m but (s.drop (i + 1)) (i + 1) L).2)) := by
     rw [hd]
     simp only [mo]
     rw [lotsF_zero, List.foldl_cons, show dx L (-1) = L from rfl]
    have e0 : f68_p3 (F' + 1) (f68 (F' + 1) k) s m i but L (F' + 1) (-1) M (-1) 0 = some (M2, mo m but (s.drop i) i L) := by
     unfold f68_p3
     by_cases hm0 : (-1 : Int) < m
     ·rw [if_pos (by simpa using hm0), f71_neg, Option.bind_some]
      dsimp only
      rw [if_pos rfl, if_neg (by decide), w64_succ (by omega), g1, Option.bind_some]
      dsimp only
      rw [f72_eq ho hil ⟨by omega, by omega⟩, Option.bind_some, c2, Option.bind_some, show w64 ((-1 : Int) + 1) = ((0 : Nat) : Int) by decide]
      rw [p1, emo]
     ·omega
    rw [e0, Option.bind_some]
    exact ⟨_, rfl, p2.set⟩
end
section
def ds (m : Nat) (but : Int) : Nat → Nat → Nat → List (List Int)
 | 0, _, _ => [[]]
 | k + 1, i, L => (cand m L (decide ((i : Int) ≠ but))).flatMap fun x => (ds m but k (i + 1) (dx L x)).map (x :: ·)
def wv : List (List Int) → List Int → Int
 | r :: rs, x :: xs => vl r x + wv rs xs
 | _, _ => 0
def mxc (ws : List Int) : Int × Int := ws.foldl (fun b w => comb b (w, 1)) (-1, 0)
theorem comb_assoc (a b c : Int × Int) : comb (comb a b) c = comb a (comb b c) := by
 obtain ⟨a1, a2⟩ := a
 obtain ⟨b1, b2⟩ := b
 obtain ⟨c1, c2⟩ := c
 unfold comb
 dsimp only
 by_cases h1 : b1 > a1
 ·rw [if_pos h1]
  by_cases h2 : c1 > b1
  ·simp only [if_pos h2]; rw [if_pos (by omega)]
  ·simp only [if_neg h2]
   by_cases h3 : c1 = b1
   ·simp only [if_pos h3]; rw [if_pos h1]
   ·simp only [if_neg h3]; rw [if_pos h1]
 ·rw [if_neg h1]
  by_cases h4 : b1 = a1
  ·subst h4
   simp only [if_true]
   by_cases h2 : c1 > b1
   ·simp only [if_pos h2]
   ·simp only [if_neg h2]
    by_cases h3 : c1 = b1
    ·simp only [if_pos h3]; rw [if_neg (by omega), if_pos trivial, Int.add_assoc]
    ·simp only [if_neg h3]; rw [if_neg (by omega), if_pos trivial]
  ·simp only [if_neg h4]
   by_cases h2 : c1 > b1
   ·simp only [if_pos h2]
   ·simp only [if_neg h2]
    by_cases h3 : c1 = b1
    ·simp only [if_pos h3]; rw [if_neg (by omega), if_neg (by omega), if_neg h1, if_neg h4]
    ·simp only [if_neg h3]; rw [if_neg (by omega), if_neg (by omega), if_neg h1, if_neg h4]
theorem comb_none {b : Int × Int} (h : -1 ≤ b.1) : comb b (-1, 0) = b := by
 unfold comb
 rw [if_neg (by dsimp only; omega)]
 split
 ·obtain ⟨b1, b2⟩ := b; simp
 ·rfl
theorem comb_first {w c : Int} (h : 0 ≤ w) : comb (-1, 0) (w, c) = (w, c) := by
 unfold comb; rw [if_pos (by dsimp only; omega)]
theorem comb_ge {b a : Int × Int} : b.1 ≤ (comb b a).1 ∧ a.1 ≤ (comb b a).1 := by
 unfold comb
 by_cases h1 : a.1 > b.1
 ·rw [if_pos h1]; omega
 ·rw [if_neg h1]
  by_cases h2 : a.1 = b.1
  ·rw [if_pos h2]; dsimp only; omega
  ·rw [if_neg h2]; omega
theorem fold_mxc : ∀ (ws : List Int) (b : Int × Int), (∀ w ∈ ws, 0 ≤ w) → -1 ≤ b.1 → ws.foldl (fun b w => comb b (w, 1)) b = comb b (mxc ws) := by
 intro ws
 induction ws with
 | nil => intro b _ h; exact (comb_none h).symm
 | cons w ws ih =>
  intro b h hb
  have hw := h w (by simp)
  have hws : ∀ w ∈ ws, 0 ≤ w := fun x hx => h x (by simp [hx])
  have e : mxc (w :: ws) = comb (w, 1) (mxc ws) := by
   unfold mxc
   rw [List.foldl_cons, comb_first hw]
   exact ih (w, 1) hws (by dsimp only; omega)
  rw [List.foldl_cons, e, ← comb_assoc]
  exact ih _ hws (by have := (comb_ge (b := b) (a := (w, 1))).1; omega)
theorem mxc_cons {w : Int} {ws : List Int} (hw : 0 ≤ w) (h : ∀ w ∈ ws, 0 ≤ w) : mxc (w :: ws) = comb (w, 1) (mxc ws) := by
 unfold mxc
 rw [List.foldl_cons, comb_first hw]
 exact fold_mxc ws (w, 1) h (by dsimp only; omega)
theorem mxc_append {as bs : List Int} (ha : ∀ w ∈ as, 0 ≤ w) (hb : ∀ w ∈ bs, 0 ≤ w) : mxc (as ++ bs) = comb (mxc as) (mxc bs) := by
 unfold mxc
 rw [List.foldl_append]
 refine fold_mxc bs _ hb ?_
 have := fold_mxc as (-1, 0) ha (by decide)
 rw [this]
 have := (comb_ge (b := ((-1 : Int), (0 : Int))) (a := mxc as)).1
 omega
theorem mxc_map {v : Int} (hv : 0 ≤ v) : ∀ (ws : List Int), (∀ w ∈ ws, 0 ≤ w) → ws ≠ [] → mxc (ws.map (v + ·)) = ((mxc ws).1 + v, (mxc ws).2) := by
 have key : ∀ (ws : List Int) (b : Int × Int), (ws.map (v + ·)).foldl (fun b w => comb b (w, 1)) (b.1 + v, b.2) = ((ws.foldl (fun b w => comb b (w, 1)) b).1 + v, (ws.foldl (fun b w => comb b (w, 1)) b).2) := by
  intro ws
  induction ws with
  | nil => intro b; rfl
  | cons w ws ih =>
   intro b
   rw [List.map_cons, List.foldl_cons, List.foldl_cons, ← ih]
   congr 1
   unfold comb
   dsimp only
   by_cases h1 : w > b.1
   ·rw [if_pos (by omega), if_pos h1]; simp [Int.add_comm]
   ·rw [if_neg (by omega), if_neg h1]
    by_cases h2 : w = b.1
    ·rw [if_pos (by omega), if_pos h2]
    ·rw [if_neg (by omega), if_neg h2]
 intro ws h hne
 cases ws with
 | nil => exact absurd rfl hne
 | cons w ws =>
  have hw := h w (by simp)
  unfold mxc
  rw [List.map_cons, List.foldl_cons, List.foldl_cons, comb_first hw, comb_first (by omega), ← key ws (w, 1), Int.add_comm]
theorem mxc_max : ∀ (ws : List Int), (∀ w ∈ ws, 0 ≤ w) → (∀ w ∈ ws, w ≤ (mxc ws).1) ∧ (ws ≠ [] → (mxc ws).1 ∈ ws) ∧ (mxc ws).2 = ((ws.filter fun w => decide (w = (mxc ws).1)).length : Nat) := by
 intro ws
 induction ws with
 | nil => intro _; exact ⟨by simp, by simp, rfl⟩
 | cons w ws ih =>
  intro h
  have hw := h w (by simp)
  have hws : ∀ w ∈ ws, 0 ≤ w := fun x hx => h x (by simp [hx])
  obtain ⟨i1, i2, i3⟩ := ih hws
  have e := mxc_cons hw hws
  rw [e]
  unfold comb
  dsimp only
  by_cases h1 : (mxc ws).1 > w
  ·rw [if_pos h1]
   refine ⟨fun x hx => ?_, fun _ => ?_, ?_⟩
   ·rcases List.mem_cons.1 hx with rfl | hx
    ·omega
    ·exact i1 x hx
   ·refine List.mem_cons_of_mem _ (i2 fun e => ?_)
    rw [e] at h1
    have : (mxc ([] : List Int)).1 = -1 := rfl
    omega
   ·rw [List.filter_cons, if_neg (by simp; omega)]; exact i3
  ·rw [if_neg h1]
   by_cases h2 : (mxc ws).1 = w
   ·rw [if_pos h2]
    refine ⟨fun x hx => ?_, fun _ => by simp, ?_⟩
    ·rcases List.mem_cons.1 hx with rfl | hx
     ·exact Int.le_refl _
     ·have := i1 x hx; omega
    ·dsimp only
     rw [List.filter_cons, if_pos (by simp), List.length_cons, i3, h2]
     omega
   ·rw [if_neg h2]
    refine ⟨fun x hx => ?_, fun _ => by simp, ?_⟩
    ·rcases List.mem_cons.1 hx with rfl | hx
     ·exact Int.le_refl _
     ·have := i1 x hx; omega
    ·dsimp only
     rw [List.filter_cons, if_pos (by simp), List.length_cons, List.filter_eq_nil_iff.2 (fun x hx => by have := i1 x hx; simp; omega)]
     rfl
theorem wv_nn {m : Nat} : ∀ (rows : List (List Int)) (l : List Int), Ok m rows → 0 ≤ wv rows l
 | [], _, _ => Int.le_refl 0
 | _ :: _, [], _ => Int.le_refl 0
 | r :: rs, x :: xs, h => by
  have := vl_bd (h r (by simp)) x
  have := wv_nn rs xs (fun y hy => h y (by simp [hy]))
  rw [wv]; omega
theorem ds_ne {m : Nat} {but : Int} : ∀ (k i L : Nat), ds m but k i L ≠ []
 | 0, _, _ => by simp [ds]
 | k + 1, i, L => by
  intro h
  rw [ds, lotsF_zero, List.flatMap_cons] at h
  have := ds_ne (m := m) (but := but) k (i + 1) (dx L (-1))
  simp at h
  exact this h.1
theorem mo_ds {m : Nat} (but : Int) : ∀ (rows : List (List Int)) (i L : Nat), Ok m rows → mo m but rows i L = mxc ((ds m but rows.length i L).map (wv rows)) := by
 intro rows
 induction rows with
 | nil => intro i L _; rfl
 | cons r rs ih =>
  intro i L h
  have hr := h r (by simp)
  have hrs : Ok m rs := fun x hx => h x (by simp [hx])
  have part : ∀ x : Int, ((mo m but rs (i + 1) (dx L x)).1 + vl r x, (mo m but rs (i + 1) (dx L x)).2) = mxc ((((ds m but rs.length (i + 1) (dx L x)).map (x :: ·))).map (wv (r :: rs))) := by
   intro x
   have := mxc_map (vl_bd hr x).1 ((ds m but rs.length (i + 1) (dx L x)).map (wv rs)) (fun w hw => by obtain ⟨t, _, rfl⟩ := List.mem_map.1 hw; exact wv_nn rs t hrs) (by simp [ds_ne])
   rw [← ih (i + 1) (dx L x) hrs] at this
   rw [← this, List.map_map, List.map_map]
   rfl
  simp only [mo, List.length_cons, ds]
  generalize cand m L (decide ((i : Int) ≠ but)) = xs
  have nn : ∀ ys : List Int, ∀ w ∈ (ys.flatMap fun x => (ds m but rs.length (i + 1) (dx L x)).map (x :: ·)).map (wv (r :: rs)), 0 ≤ w := fun ys w hw => by
   obtain ⟨t, _, rfl⟩ := List.mem_map.1 hw
   exact wv_nn _ _ h
  have main : ∀ (ys : List Int) (b : Int × Int), -1 ≤ b.1 → ys.foldl (fun b x => comb b ((mo m but rs (i + 1) (dx L x)).1 + vl r x, (mo m but rs (i + 1) (dx L x)).2)) b = comb b (mxc ((ys.flatMap fun x => (ds m but rs.length (i + 1) (dx L x)).map (x :: ·)).map (wv (r :: rs)))) := by
   intro ys
   induction ys with
   | nil => intro b hb; exact (comb_none hb).symm
   | cons y ys ihy =>
    intro b hb
    rw [List.foldl_cons, ihy _ (by have := (comb_ge (b := b) (a := ((mo m but rs (i + 1) (dx L y)).1 + vl r y, (mo m but rs (i + 1) (dx L y)).2))).1; omega), List.flatMap_cons, List.map_append, mxc_append (fun w hw => ?_) (nn ys), part y, comb_assoc]
    obtain ⟨t, _, rfl⟩ := List.mem_map.1 hw
    exact wv_nn _ _ h
  rw [main xs (-1, 0) (by decide)]
  have e : ∀ ws : List Int, (∀ w ∈ ws, 0 ≤ w) → comb (-1, 0) (mxc ws) = mxc ws := fun ws hws => (fold_mxc ws (-1, 0) hws (by decide)).symm
  exact e _ (nn xs)
def bst (m : Nat) : List (List Int) → Nat → Nat → List Int
 | [], _, _ => []
 | r :: rs, i, L => match (cand m L true).find? (fun x => decide ((mo m (-1) rs (i + 1) (dx L x)).1 + vl r x = (mo m (-1) (r :: rs) i L).1)) with
  | some x => x :: bst m rs (i + 1) (dx L x)
  | none => []
theorem mo_step {m : Nat} {r : List Int} {rs : List (List Int)} {i L : Nat} (h : Ok m (r :: rs)) : (∀ x ∈ cand m L true, (mo m (-1) rs (i + 1) (dx L x)).1 + vl r x ≤ (mo m (-1) (r :: rs) i L).1) ∧ ∃ x ∈ cand m L true, (mo m (-1) rs (i + 1) (dx L x)).1 + vl r x = (mo m (-1) (r :: rs) i L).1 := by
 have hi : decide ((i : Int) ≠ -1) = true := by simp <;> omega
 have hrs : Ok m rs := fun x hx => h x (by simp [hx])
 simp only [mo, hi]
 have hg : ∀ x : Int, 0 ≤ (mo m (-1) rs (i + 1) (dx L x)).1 + vl r x := fun x => by
  have := vl_bd (h r (by simp)) x
  have e := mo_ds (-1) rs (i + 1) (dx L x) hrs
  obtain ⟨_, q2, _⟩ := mxc_max ((ds m (-1) rs.length (i + 1) (dx L x)).map (wv rs)) (fun w hw => by obtain ⟨t, _, rfl⟩ := List.mem_map.1 hw; exact wv_nn rs t hrs)
  have := q2 (by simp [ds_ne])
  obtain ⟨t, _, ht⟩ := List.mem_map.1 this
  have := wv_nn (m := m) rs t hrs
  rw [e]; omega
 have main : ∀ (ys : List Int) (b : Int × Int), b.1 ≤ (ys.foldl (fun b x => comb b ((mo m (-1) rs (i + 1) (dx L x)).1 + vl r x, (mo m (-1) rs (i + 1) (dx L x)).2)) b).1 ∧
   (∀ x ∈ ys, (mo m (-1) rs (i + 1) (dx L x)).1 + vl r x ≤ (ys.foldl (fun b x => comb b ((mo m (-1) rs (i + 1) (dx L x)).1 + vl r x, (mo m (-1) rs (i + 1) (dx L x)).2)) b).1) ∧
   ((ys.foldl (fun b x => comb b ((mo m (-1) rs (i + 1) (dx L x)).1 + vl r x, (mo m (-1) rs (i + 1) (dx L x)).2)) b).1 = b.1 ∨ ∃ x ∈ ys, (mo m (-1) rs (i + 1) (dx L x)).1 + vl r x = (ys.foldl (fun b x => comb b ((mo m (-1) rs (i + 1) (dx L x)).1 + vl r x, (mo m (-1) rs (i + 1) (dx L x)).2)) b).1) := by
  intro ys
  induction ys with
  | nil => intro b; exact ⟨Int.le_refl _, by simp, .inl rfl⟩
  | cons y ys ih =>
   intro b
   obtain ⟨i1, i2, i3⟩ := ih (comb b ((mo m (-1) rs (i + 1) (dx L y)).1 + vl r y, (mo m (-1) rs (i + 1) (dx L y)).2))
   have hc := comb_ge (b := b) (a := ((mo m (-1) rs (i + 1) (dx L y)).1 + vl r y, (mo m (-1) rs (i + 1) (dx L y)).2))
   dsimp only at hc
   rw [List.foldl_cons]
   refine ⟨by omega, fun x hx => ?_, ?_⟩
   ·rcases List.mem_cons.1 hx with rfl | hx
    ·omega
    ·exact i2 x hx
   ·rcases i3 with i3 | ⟨x, hx, i3⟩
    ·have : (comb b ((mo m (-1) rs (i + 1) (dx L y)).1 + vl r y, (mo m (-1) rs (i + 1) (dx L y)).2)).1 = b.1 ∨ (comb b ((mo m (-1) rs (i + 1) (dx L y)).1 + vl r y, (mo m (-1) rs (i + 1) (dx L y)).2)).1 = (mo m (-1) rs (i + 1) (dx L y)).1 + vl r y := by
      unfold comb
      split
      ·exact .inr rfl
      ·split
       ·exact .inl rfl
       ·exact .inl rfl
     rcases this with e | e
     ·exact .inl (by omega)
     ·exact .inr ⟨y, by simp, by omega⟩
    ·exact .inr ⟨x, by simp [hx], i3⟩
 obtain ⟨_, m2, m3⟩ := main (cand m L true) (-1, 0)
 refine ⟨m2, ?_⟩
 rcases m3 with e | e
 ·have h1 := m2 (-1) (by simp [cand])
  have h2 := hg (-1)
  dsimp only at e
  omega
 ·exact e
theorem find_flat {α β : Type} {p : β → Bool} {g : α → List β} : ∀ (xs : List α), (xs.flatMap g).find? p = xs.findSome? fun x => (g x).find? p
 | [] => rfl
 | x :: xs => by
  rw [List.flatMap_cons, List.find?_append, find_flat xs, List.findSome?_cons]
  cases (g x).find? p <;> rfl
theorem bst_find {m : Nat} : ∀ (rows : List (List Int)) (i L : Nat), Ok m rows → (ds m (-1) rows.length i L).find? (fun l => decide (wv rows l = (mo m (-1) rows i L).1)) = some (bst m rows i L) := by
 intro rows
 induction rows with
 | nil => intro i L _; rfl
 | cons r rs ih =>
  intro i L h
  have hi : decide ((i : Int) ≠ -1) = true := by simp <;> omega
  have hrs : Ok m rs := fun x hx => h x (by simp [hx])
  obtain ⟨s1, x0, hx0, s2⟩ := mo_step (i := i) (L := L) h
  have part : ∀ x ∈ cand m L true, ((ds m (-1) rs.length (i + 1) (dx L x)).map (x :: ·)).find? (fun l => decide (wv (r :: rs) l = (mo m (-1) (r :: rs) i L).1)) =
    if (mo m (-1) rs (i + 1) (dx L x)).1 + vl r x = (mo m (-1) (r :: rs) i L).1 then some (x :: bst m rs (i + 1) (dx L x)) else none := by
   intro x hx
   rw [List.find?_map]
   have hle := s1 x hx
   by_cases he : (mo m (-1) rs (i + 1) (dx L x)).1 + vl r x = (mo m (-1) (r :: rs) i L).1
   ·rw [if_pos he, ← he]
    have e : ((fun l => decide (wv (r :: rs) l = (mo m (-1) rs (i + 1) (dx L x)).1 + vl r x)) ∘ (x :: ·)) = fun l => decide (wv rs l = (mo m (-1) rs (i + 1) (dx L x)).1) := by
     funext l
     show decide (vl r x + wv rs l = _) = _
     exact decide_eq_decide.2 ⟨fun h => by omega, fun h => by omega⟩
    rw [e, ih (i + 1) (dx L x) hrs]
    rfl
   ·rw [if_neg he]
    rw [List.find?_eq_none.2]
    ·rfl
    ·intro t ht
     have emo := mo_ds (-1) rs (i + 1) (dx L x) hrs
     obtain ⟨q1, _⟩ := mxc_max ((ds m (-1) rs.length (i + 1) (dx L x)).map (wv rs)) (fun w hw => by obtain ⟨t, _, rfl⟩ := List.mem_map.1 hw; exact wv_nn rs t hrs)
     have := q1 (wv rs t) (List.mem_map.2 ⟨t, ht, rfl⟩)
     rw [← emo] at this
     show ¬ decide (vl r x + wv rs t = _) = true
     simp
     omega
  have main : ∀ ys : List Int, (∀ y ∈ ys, y ∈ cand m L true) → (∃ y ∈ ys, (mo m (-1) rs (i + 1) (dx L y)).1 + vl r y = (mo m (-1) (r :: rs) i L).1) →
    (ys.findSome? fun x => ((ds m (-1) rs.length (i + 1) (dx L x)).map (x :: ·)).find? (fun l => decide (wv (r :: rs) l = (mo m (-1) (r :: rs) i L).1))) =
    (match ys.find? (fun x => decide ((mo m (-1) rs (i + 1) (dx L x)).1 + vl r x = (mo m (-1) (r :: rs) i L).1)) with | some x => some (x :: bst m rs (i + 1) (dx L x)) | none => some []) := by
   intro ys
   induction ys with
   | nil => intro _ h; obtain ⟨y, hy, _⟩ := h; cases hy
   | cons y ys ihy =>
    intro h1 h2
    rw [List.findSome?_cons, part y (h1 y (by simp)), List.find?_cons]
    by_cases he : (mo m (-1) rs (i + 1) (dx L y)).1 + vl r y = (mo m (-1) (r :: rs) i L).1
    ·rw [if_pos he, decide_eq_true he]
    ·rw [if_neg he, decide_eq_false he]
     refine ihy (fun z hz => h1 z (by simp [hz])) ?_
     obtain ⟨z, hz, h3⟩ := h2
     rcases List.mem_cons.1 hz with rfl | hz
     ·exact absurd h3 he
     ·exact ⟨z, hz, h3⟩
  simp only [List.length_cons, ds, hi]
  rw [find_flat, main _ (fun y hy => hy) ⟨x0, hx0, s2⟩]
  rw [bst]
  cases hf : (cand m L true).find? (fun x => decide ((mo m (-1) rs (i + 1) (dx L x)).1 + vl r x = (mo m (-1) (r :: rs) i L).1)) <;> rfl
end
section
def badW (x : Int) : Bool := !decide (0 ≤ x ∧ x ≤ 99)
def rowE (m : Int) (l : List Int) : Int := if (l.length : Int) ≠ m then 5 else if l.any badW = true then 1 else 0
def rowsE (m : Int) : List (List Int) → Int
 | [] => 0
 | r :: rs => if rowE m r ≠ 0 then rowE m r else rowsE m rs
def ckS (s : List (List Int)) : Int := if s.length = 0 then 4 else if s.length > 5 then 3 else if (s[0]?.getD []).length > 5 then 3 else rowsE (s[0]?.getD []).length s
theorem f70_eq {F : Nat} {a x b : Int} : f70 F a x b = some (decide (a ≤ x ∧ x ≤ b)) := by
 unfold f70
 by_cases h : a ≤ x <;> simp [h]
theorem f102_eq {F : Nat} {x : Int} : f102 F x = some (badW x) := by
 unfold f102 badW; rw [f70_eq, Option.bind_some]
theorem f107_p1_eq {F : Nat} {l : List Int} (hl : l.length ≤ 5000) : ∀ (k i : Nat), i ≤ l.length → l.length < k + i → ((l.drop i).any badW = true ∧ ∃ j : Nat, f107_p1 F l k i = some (.c0 j)) ∨ ((l.drop i).any badW = false ∧ f107_p1 F l k i = some .c1) := by
 intro k
 induction k with
 | zero => intro i _ h; omega
 | succ k ih =>
  intro i h1 h2
  unfold f107_p1
  by_cases hi : i < l.length
  ·rw [if_pos (by simp; omega), at_get hi, Option.bind_some, f102_eq, Option.bind_some, drop_cons hi, List.any_cons]
   cases hb : badW l[i]
   ·rw [if_neg (by simp), w64_succ (by omega), Bool.false_or]
    exact ih (i + 1) (by omega) (by omega)
   ·rw [if_pos rfl]
    exact .inl ⟨by simp, i, rfl⟩
  ·rw [if_neg (by simp; omega), List.drop_eq_nil_of_le (by omega)]
   exact .inr ⟨rfl, rfl⟩
theorem f101_eq {F : Nat} {l : List Int} (hl : l.length < F) (hF : F ≤ 5000 ∨ l.length ≤ 5000) : f101 F l = some (l.any badW) := by
 unfold f101 f107
 rcases f107_p1_eq (F := F) (l := l) (by omega) F 0 (by omega) (by omega) with ⟨h1, j, h2⟩ | ⟨h1, h2⟩
 ·rw [List.drop_zero] at h1
  rw [show f107_p1 F l F 0 = _ from h2, h1, Option.bind_some, Option.bind_some]; simp
 ·rw [List.drop_zero] at h1
  rw [show f107_p1 F l F 0 = _ from h2, h1, Option.bind_some, Option.bind_some]; simp
theorem f76_eq {F m : Nat} (hF : 100 ≤ F) (hm : m ≤ 50) {l : List Int} : f76 F l m = some (rowE m l) := by
 unfold f76 rowE
 by_cases h : (l.length : Int) = m
 ·rw [if_neg (by simpa using h), if_neg (by simpa using h), f101_eq (by omega) (by omega), Option.bind_some]
  split <;> rfl
 ·rw [if_pos (by simpa using h), if_pos h]
theorem f24_p4_eq {F : Nat} {s : List (List Int)} (hF : 100 ≤ F) (hs : s.length ≤ 5) (h0 : 0 < s.length) (hm : (s[0]?.getD []).length ≤ 5) : ∀ (k i : Nat), i ≤ s.length → s.length < k + i →
  f24_p4 F s k i = some (if rowsE (s[0]?.getD []).length (s.drop i) ≠ 0 then .c0 (rowsE (s[0]?.getD []).length (s.drop i)) else .c1) := by
 have e0 : at? s 0 = some (s[0]?.getD []) := by rw [List.getElem?_eq_getElem h0]; exact at_get h0
 intro k
 induction k with
 | zero => intro i _ h; omega
 | succ k ih =>
  intro i h1 h2
  unfold f24_p4
  by_cases hi : i < s.length
  ·rw [if_pos (by simp; omega), at_get hi, Option.bind_some, e0, Option.bind_some, f76_eq hF (by omega), Option.bind_some, drop_cons hi, rowsE]
   by_cases hr : rowE (s[0]?.getD []).length s[i] ≠ 0
   ·rw [if_pos (by simpa using hr), if_pos hr, if_pos hr]
   ·rw [if_neg (by simpa using hr), if_neg hr, w64_succ (by omega)]
    exact ih (i + 1) (by omega) (by omega)
  ·rw [if_neg (by simp; omega), List.drop_eq_nil_of_le (by omega)]
   rfl
theorem f24_eq {F : Nat} (hF : 100 ≤ F) (s : List (List Int)) : f24 F s = some (ckS s) := by
 unfold f24 ckS
 by_cases h1 : s.length = 0
 ·rw [if_pos (by simp [h1]), if_pos h1]
 ·rw [if_neg (by simp; intro h; simp [h] at h1), if_neg h1]
  by_cases h2 : s.length > 5
  ·rw [if_pos (by simp; omega), if_pos h2]
  ·have e0 : at? s 0 = some (s[0]?.getD []) := by rw [List.getElem?_eq_getElem (Nat.pos_of_ne_zero h1)]; exact at_get (Nat.pos_of_ne_zero h1)
   rw [if_neg (by simp; omega), if_neg h2, e0, Option.bind_some]
   by_cases h3 : (s[0]?.getD []).length > 5
   ·rw [if_pos (by simp; omega), if_pos h3]
   ·rw [if_neg (by simp; omega), if_neg h3]
    have e := f24_p4_eq hF (s := s) (by omega) (Nat.pos_of_ne_zero h1) (by omega) F 0 (Nat.zero_le _) (by omega)
    rw [show f24_p4 F s F 0 = _ from e, Option.bind_some, List.drop_zero]
    by_cases hr : rowsE (s[0]?.getD []).length s = 0
    ·rw [if_neg (by simpa using hr), hr]
    ·rw [if_pos hr]
structure Vs (m : Nat) (s : List (List Int)) : Prop where
 ok : Ok m s
 n : 0 < s.length ∧ s.length ≤ 5
 m5 : m ≤ 5
theorem rowsE_ok {m : Nat} : ∀ (s : List (List Int)), rowsE m s = 0 ↔ Ok m s := by
 intro s
 induction s with
 | nil => exact ⟨fun _ r hr => (by cases hr), fun _ => rfl⟩
 | cons r rs ih =>
  have hr : rowE m r = 0 ↔ r.length = m ∧ ∀ x ∈ r, 0 ≤ x ∧ x ≤ 99 := by
   unfold rowE
   by_cases h1 : (r.length : Int) = m
   ·rw [if_neg (by simpa using h1)]
    by_cases h2 : r.any badW = true
    ·rw [if_pos h2]
     refine ⟨fun h => (by cases h), fun h => ?_⟩
     obtain ⟨x, hx, hb⟩ := List.any_eq_true.1 h2
     have := h.2 x hx
     simp [badW] at hb
     omega
    ·rw [if_neg h2]
     refine ⟨fun _ => ⟨by omega, fun x hx => ?_⟩, fun _ => rfl⟩
     have : badW x = false := by
      cases hb : badW x
      ·rfl
      ·exact absurd (List.any_eq_true.2 ⟨x, hx, hb⟩) h2
     simp [badW] at this
     exact this
   ·rw [if_pos h1]
    exact ⟨fun h => (by cases h), fun h => absurd (by omega) h1⟩
  rw [rowsE]
  by_cases h : rowE m r = 0
  ·rw [if_neg (by simpa using h), ih]
   refine ⟨fun k x hx => ?_, fun k x hx => k x (by simp [hx])⟩
   rcases List.mem_cons.1 hx with rfl | hx
   ·exact hr.1 h
   ·exact k x hx
  ·rw [if_pos h]
   exact ⟨fun k => absurd k h, fun k => absurd (hr.2 (k r (by simp))) h⟩
theorem ckS_ok {s : List (List Int)} (h : ckS s = 0) : Vs (s[0]?.getD []).length s := by
 unfold ckS at h
 split at h
 ·cases h
 ·split at h
  ·cases h
  ·split at h
   ·cases h
   ·exact ⟨(rowsE_ok s).1 h, by omega, by omega⟩
theorem Vs.head {m : Nat} {s : List (List Int)} (h : Vs m s) : (s[0]?.getD []).length = m := by
 rw [List.getElem?_eq_getElem h.n.1]
 exact (h.ok _ (List.getElem_mem h.n.1)).1
theorem Vs.ck {m : Nat} {s : List (List Int)} (h : Vs m s) : ckS s = 0 := by
 have := h.n
 have := h.m5
 unfold ckS
 rw [h.head, if_neg (by omega), if_neg (by omega), if_neg (by omega)]
 exact (rowsE_ok s).2 h.ok
theorem Vs.at0 {m : Nat} {s : List (List Int)} (h : Vs m s) : ∃ r, at? s 0 = some r ∧ r.length = m := by
 have h0 := h.n.1
 exact ⟨s[0], at_get h0, (h.ok _ (List.getElem_mem h0)).1⟩
theorem f65_eq {F : Nat} (hF : 100 ≤ F) (s : List (List Int)) : f65 F s = some (if ckS s ≠ 0 then .c0 (ckS s) else .c1 0 [] s ((s[0]?.getD []).length : Nat)) := by
 unfold f65
 rw [f24_eq hF, Option.bind_some]
 by_cases h : ckS s = 0
 ·have hv := ckS_ok h
  have e0 : at? s 0 = some (s[0]?.getD []) := by rw [List.getElem?_eq_getElem hv.n.1]; exact at_get hv.n.1
  rw [if_neg (by simp [h]), if_neg (by simpa using h), e0, Option.bind_some]
 ·rw [if_pos (by simpa using h), if_pos h]
theorem f66_p5_eq {F m i L : Nat} {s : List (List Int)} (hF : 100 ≤ F) (hv : Vs m s) (hL : L < 32) (hi : i < s.length) : ∀ (k j : Nat) (M : Mm) (out : List Int) (x : Int), m < k + j → j ≤ m → Good m s M → out.length ≤ 100 →
  (lotsF m L true j).find? (fun x => decide ((mo m (-1) (s.drop (i + 1)) (i + 1) (dx L x)).1 + vl s[i] x = (mo m (-1) (s.drop i) i L).1)) = some x →
  ∃ M', f66_p5_2 F i s m k L j M out = some (((dx L x : Nat) : Int), M', out ++ [x]) ∧ Good m s M' ∧ dx L x < 32 := by
 have hm := hv.m5
 have hn := hv.n
 have hr := hv.ok _ (List.getElem_mem hi)
 intro k
 induction k with
 | zero => intro j M out x h _ _ _ _; omega
 | succ k ih =>
  intro j M out x h1 h2 h3 h4 h5
  by_cases hj : j < m
  ·obtain ⟨a1, a2, a3, a4⟩ := look_L hL (show j < 5 by omega)
   have e1 : w64 ((j : Int) + 1) = ((j + 1 : Nat) : Int) := w64_succ (by omega)
   rw [lotsF_step hj] at h5
   unfold f66_p5_2
   rw [if_pos (by simp; omega), f71_eq hL (by omega), Option.bind_some, e1]
   dsimp only
   by_cases ht : L.testBit j = true
   ·have edx : dx L (j : Int) = dl L j := by unfold dx; rw [if_neg (by omega), Int.toNat_natCast]
    obtain ⟨M1, b1, b2⟩ := f68_eq (but := -1) hF hm hn.2 hv.ok F (i + 1) (dl L j) M (by omega) (by omega) a3 h3
    obtain ⟨M2, c1, c2⟩ := f68_eq (but := -1) hF hm hn.2 hv.ok F i L M1 (by omega) (by omega) hL b2
    have bd := mo_bd (but := -1) hm (s.drop (i + 1)) (i + 1) (dl L j) (fun r hr => hv.ok r (List.mem_of_mem_drop hr))
    have hlen : (s.drop (i + 1)).length ≤ 5 := by simp; omega
    have hvl := vl_bd hr (j : Int)
    rw [ht, if_pos rfl, w64_succ (by omega), b1, Option.bind_some]
    dsimp only
    rw [f72_eq hv.ok hi ⟨by omega, by omega⟩, Option.bind_some, c1, Option.bind_some]
    dsimp only
    rw [w64_in (by omega)]
    rw [ht, Bool.true_and, if_pos rfl, List.find?_cons, edx] at h5
    by_cases he : (mo m (-1) (s.drop (i + 1)) (i + 1) (dl L j)).1 + vl s[i] j = (mo m (-1) (s.drop i) i L).1
    ·rw [decide_eq_true he] at h5
     have h5 : (j : Int) = x := by simpa using h5
     subst h5
     rw [if_pos (by simpa using he), req_pos (by simp; omega), edx]
     exact ⟨M2, rfl, c2, a3⟩
    ·rw [decide_eq_false he] at h5
     rw [if_neg (by simpa using he)]
     exact ih (j + 1) M2 out x (by omega) (by omega) c2 h4 h5
   ·have ht : L.testBit j = false := by simpa using ht
    rw [ht]
    rw [ht, Bool.and_false, if_neg (by simp)] at h5
    simp only [Bool.false_eq_true, if_false]
    exact ih (j + 1) M out x (by omega) (by omega) h3 h4 h5
  ·rw [lotsF_end (by omega)] at h5
   cases h5
theorem f66_p5_all {F m i L : Nat} {s : List (List Int)} (hF : 100 ≤ F) (hv : Vs m s) (hL : L < 32) (hi : i < s.length) {M : Mm} {out : List Int} {x : Int} (h3 : Good m s M) (h4 : out.length ≤ 100)
  (h5 : (cand m L true).find? (fun x => decide ((mo m (-1) (s.drop (i + 1)) (i + 1) (dx L x)).1 + vl s[i] x = (mo m (-1) (s.drop i) i L).1)) = some x) :
  ∃ M', f66_p5_2 F i s m F L (-1) M out = some (((dx L x : Nat) : Int), M', out ++ [x]) ∧ Good m s M' ∧ dx L x < 32 := by
 have hm := hv.m5
 have hn := hv.n
 have hr := hv.ok _ (List.getElem_mem hi)
 obtain ⟨F', rfl⟩ : ∃ F', F = F' + 1 := ⟨F - 1, by omega⟩
 obtain ⟨M1, b1, b2⟩ := f68_eq (but := -1) hF hm hn.2 hv.ok (F' + 1) (i + 1) L M (by omega) (by omega) hL h3
 obtain ⟨M2, c1, c2⟩ := f68_eq (but := -1) hF hm hn.2 hv.ok (F' + 1) i L M1 (by omega) (by omega) hL b2
 have bd := mo_bd (but := -1) hm (s.drop (i + 1)) (i + 1) L (fun r hr => hv.ok r (List.mem_of_mem_drop hr))
 have hlen : (s.drop (i + 1)).length ≤ 5 := by simp; omega
 have hvl := vl_bd hr (-1)
 rw [lotsF_zero, List.find?_cons] at h5
 unfold f66_p5_2
 rw [if_pos (by simp; omega), f71_neg, Option.bind_some]
 dsimp only
 rw [if_pos rfl, w64_succ (by omega), b1, Option.bind_some]
 dsimp only
 rw [f72_eq hv.ok hi ⟨by omega, by omega⟩, Option.bind_some, c1, Option.bind_some]
 dsimp only
 rw [w64_in (by omega)]
 rw [show dx L (-1) = L from rfl] at h5
 by_cases he : (mo m (-1) (s.drop (i + 1)) (i + 1) L).1 + vl s[i] (-1) = (mo m (-1) (s.drop i) i L).1
 ·rw [decide_eq_true he] at h5
  have h5 : (-1 : Int) = x := by simpa using h5
  subst h5
  rw [if_pos (by simpa using he), req_pos (by simp; omega)]
  exact ⟨M2, rfl, c2, hL⟩
 ·rw [decide_eq_false he] at h5
  rw [if_neg (by simpa using he), show w64 ((-1 : Int) + 1) = ((0 : Nat) : Int) by decide]
  exact f66_p5_eq hF hv hL hi F' 0 M2 out x (by omega) (by omega) c2 h4 h5
theorem cand_find {m : Nat} {r : List Int} {rs : List (List Int)} {i L : Nat} (h : Ok m (r :: rs)) : ∃ x, (cand m L true).find? (fun x => decide ((mo m (-1) rs (i + 1) (dx L x)).1 + vl r x = (mo m (-1) (r :: rs) i L).1)) = some x ∧ bst m (r :: rs) i L = x :: bst m rs (i + 1) (dx L x) := by
 obtain ⟨_, x, hx, he⟩ := mo_step (i := i) (L := L) h
 cases hf : (cand m L true).find? (fun x => decide ((mo m (-1) rs (i + 1) (dx L x)).1 + vl r x = (mo m (-1) (r :: rs) i L).1)) with
 | some y => exact ⟨y, rfl, by rw [bst, hf]⟩
 | none =>
  have := List.find?_eq_none.1 hf x hx
  simp [he] at this
theorem f66_p1_eq {F m : Nat} {s : List (List Int)} (hF : 100 ≤ F) (hv : Vs m s) : ∀ (k i L : Nat) (M : Mm) (out : List Int), i ≤ s.length → s.length < k + i → L < 32 → Good m s M → out.length = i →
  ∃ M', f66_p1 F s m k L i M out = some (M', out ++ bst m (s.drop i) i L) ∧ Good m s M' := by
 have hn := hv.n
 intro k
 induction k with
 | zero => intro i L M out _ h; omega
 | succ k ih =>
  intro i L M out h1 h2 h3 h4 h5
  unfold f66_p1
  by_cases hi : i < s.length
  ·have hd : s.drop i = s[i] :: s.drop (i + 1) := drop_cons hi
   have hok : Ok m (s[i] :: s.drop (i + 1)) := by rw [← hd]; exact fun r hr => hv.ok r (List.mem_of_mem_drop hr)
   obtain ⟨x, x1, x2⟩ := cand_find (i := i) (L := L) hok
   rw [← hd] at x1 x2
   obtain ⟨M1, e1, e2, e3⟩ := f66_p5_all hF hv h3 hi (out := out) h4 (by omega) x1
   obtain ⟨M2, g1, g2⟩ := ih (i + 1) (dx L x) M1 (out ++ [x]) (by omega) (by omega) e3 e2 (by simp; omega)
   rw [if_pos (by simp; omega), e1, Option.bind_some]
   dsimp only
   rw [w64_succ (by omega), g1, x2]
   exact ⟨M2, by simp, g2⟩
  ·rw [if_neg (by simp; omega), List.drop_eq_nil_of_le (by omega)]
   exact ⟨M, by simp [bst], h4⟩
def bestD (m : Nat) (s : List (List Int)) : List Int := bst m s 0 (all_ m)
theorem f66_eq {F m : Nat} {s : List (List Int)} (hF : 100 ≤ F) (hv : Vs m s) {M : Mm} (hM : Good m s M) : ∃ M', f66 F M s m = some (bestD m s, M') ∧ Good m s M' := by
 obtain ⟨a1, a2⟩ := f69_eq (F := F) (M := M) (s := s) hv.m5
 obtain ⟨M', e1, e2⟩ := f66_p1_eq hF hv F 0 (all_ m) M [] (by omega) (by have := hv.n; omega) a2 hM rfl
 unfold f66
 rw [a1, Option.bind_some, show f66_p1 F s m F (all_ m : Nat) 0 M [] = _ from e1, Option.bind_some, List.nil_append, List.drop_zero]
 dsimp only
 rw [take0]
 exact ⟨M', rfl, e2⟩
end
section
theorem f23_p2_eq {F : Nat} {a b : List Int} (hab : a.length = b.length) (ha : a.length ≤ 5000) : ∀ (k i : Nat), i ≤ a.length → a.length < k + i → f23_p2 F a b k i = some (if a.drop i = b.drop i then .c1 else .c0) := by
 intro k
 induction k with
 | zero => intro i _ h; omega
 | succ k ih =>
  intro i h1 h2
  unfold f23_p2
  by_cases hi : i < a.length
  ·rw [if_pos (by simp; omega), at_of (List.getElem?_eq_getElem hi), at_of (List.getElem?_eq_getElem (by omega : i < b.length)), Option.bind_some, Option.bind_some]
   have e : (List.drop i a = List.drop i b) = (a[i] = b[i] ∧ List.drop (i + 1) a = List.drop (i + 1) b) := by rw [drop_cons hi, drop_cons (by omega : i < b.length), List.cons.injEq]
   simp only [e]
   by_cases he : a[i] = b[i]
   ·rw [if_neg (by simp [he]), w64_succ (by omega), ih (i + 1) (by omega) (by omega)]
    simp only [he, true_and]
   ·rw [if_pos (by simp [he]), if_neg (fun h => he h.1)]
  ·rw [if_neg (by simp; omega), List.drop_eq_nil_of_le (by omega), List.drop_eq_nil_of_le (by omega)]
   rfl
theorem f23_eq {F : Nat} {a b : List Int} (ha : a.length < F) (h5 : a.length ≤ 5000) : f23 F a b = some (decide (a = b)) := by
 unfold f23
 by_cases hab : a.length = b.length
 ·have h := f23_p2_eq (F := F) hab (by omega) F 0 (by omega) (by omega)
  rw [List.drop_zero, List.drop_zero] at h
  rw [if_neg (by simp [hab]), show f23_p2 F a b F 0 = _ from h, Option.bind_some]
  by_cases he : a = b
  ·rw [if_pos he, decide_eq_true he]
  ·rw [if_neg he, decide_eq_false he]
 ·rw [if_pos (by simp; omega), decide_eq_false (fun h => hab (by rw [h]))]
def wB (but : Int) : Nat → List (List Int) → List Int → Int
 | i, r :: rs, x :: xs => (if (i : Int) = but then 0 else vl r x) + wB but (i + 1) rs xs
 | _, _, _ => 0
theorem wB_wv : ∀ (rows : List (List Int)) (l : List Int) (i : Nat), wB (-1) i rows l = wv rows l
 | r :: rs, x :: xs, i => by rw [wB, wv, wB_wv rs xs (i + 1), if_neg (by omega)]
 | [], _, _ => by rw [wB, wv] <;> simp
 | _ :: _, [], _ => by rw [wB, wv] <;> simp
def Avail (m L : Nat) (l : List Int) : Prop := L < 32 ∧ ∀ j : Nat, j < m → L.testBit j = !decide ((j : Int) ∈ l)
theorem Avail.all {m : Nat} (hm : m ≤ 5) : Avail m (all_ m) [] := ⟨(f69_eq (F := 0) (M := []) (s := []) hm).2, fun j hj => by rw [all_bit]; simp [hj]⟩
theorem mem_lotsF {m L : Nat} {x : Int} : ∀ j : Nat, x ∈ lotsF m L true j → ∃ l : Nat, x = l ∧ l < m ∧ L.testBit l = true := by
 intro j h
 unfold lotsF at h
 simp only [if_true, List.mem_map, List.mem_filter] at h
 obtain ⟨l, ⟨h1, h2⟩, rfl⟩ := h
 exact ⟨l, rfl, by simpa using List.mem_of_mem_drop h1, h2⟩
theorem mem_cand {m L : Nat} {x : Int} (h : x ∈ cand m L true) : x = -1 ∨ ∃ l : Nat, x = l ∧ l < m ∧ L.testBit l = true := by
 rw [lotsF_zero] at h
 rcases List.mem_cons.1 h with h | h
 ·exact .inl h
 ·exact .inr (mem_lotsF 0 h)
theorem Avail.next {m L : Nat} {l : List Int} (hm : m ≤ 5) (h : Avail m L l) {x : Int} (hx : x ∈ cand m L true) : Avail m (dx L x) (l ++ [x]) := by
 rcases mem_cand hx with rfl | ⟨y, rfl, h1, h2⟩
 ·refine ⟨h.1, fun j hj => ?_⟩
  rw [show dx L (-1) = L from rfl, h.2 j hj]
  congr 1
  refine decide_eq_decide.2 ⟨fun h => List.mem_append_left _ h, fun h => ?_⟩
  rcases List.mem_append.1 h with h | h
  ·exact h
  ·simp at h
 ·obtain ⟨_, _, a3, a4⟩ := look_L h.1 (show y < 5 by omega)
  have edx : dx L (y : Int) = dl L y := by unfold dx; rw [if_neg (by omega), Int.toNat_natCast]
  rw [edx]
  refine ⟨a3, fun j hj => ?_⟩
  rw [a4 j (by omega), h.2 j hj]
  by_cases e : j = y
  ·subst e; simp
  ·have e1 : (j != y) = true := by simpa using e
   rw [e1, Bool.and_true]
   congr 1
   refine decide_eq_decide.2 ⟨fun h => List.mem_append_left _ h, fun h => ?_⟩
   rcases List.mem_append.1 h with h | h
   ·exact h
   ·simp at h; omega
theorem ds_step {m k i L : Nat} {l : List Int} : (ds m (-1) (k + 1) i L).map (l ++ ·) = (cand m L true).flatMap fun x => (ds m (-1) k (i + 1) (dx L x)).map ((l ++ [x]) ++ ·) := by
 have hi : decide ((i : Int) ≠ -1) = true := by simp <;> omega
 simp only [ds, hi]
 rw [List.map_flatMap]
 congr 1
 funext x
 rw [List.map_map]
 congr 1
 funext t
 simp

theorem ds_len {m : Nat} (hm : m ≤ 5) {but : Int} : ∀ (k i L : Nat), (ds m but k i L).length ≤ 6 ^ k := by
 intro k
 induction k with
 | zero => intro i L; simp [ds]
 | succ k ih =>
  intro i L
  rw [ds]
  have hc := cand_len m L (decide ((i : Int) ≠ but))
  have : ∀ ys : List Int, (ys.flatMap fun x => (ds m but k (i + 1) (dx L x)).map (x :: ·)).length ≤ ys.length * 6 ^ k := by
   intro ys
   induction ys with
   | nil => simp
   | cons y ys ihy =>
    rw [List.flatMap_cons, List.length_append, List.length_map, List.length_cons, Nat.add_mul, Nat.one_mul]
    have := ih (i + 1) (dx L y)
    omega
  refine Nat.le_trans (this _) ?_
  rw [Nat.pow_succ, Nat.mul_comm]
  exact Nat.mul_le_mul_left _ (by omega)
end
section
theorem works10 : f16 10000 = some true := by decide +kernel
theorem ds_range {m : Nat} {but : Int} : ∀ (k i L : Nat) (l : List Int), l ∈ ds m but k i L → l.length = k ∧ ∀ x ∈ l, -1 ≤ x ∧ x < m
 | 0, _, _, l, h => by simp [ds] at h; subst h; exact ⟨rfl, by simp⟩
 | k + 1, i, L, l, h => by
  simp only [ds] at h
  obtain ⟨x, hx, h⟩ := List.mem_flatMap.1 h
  obtain ⟨t, ht, rfl⟩ := List.mem_map.1 h
  obtain ⟨h1, h2⟩ := ds_range k (i + 1) _ t ht
  refine ⟨by simp [h1], fun y hy => ?_⟩
  rcases List.mem_cons.1 hy with rfl | hy
  ·unfold cand at hx
   rcases List.mem_cons.1 hx with rfl | hx
   ·omega
   ·split at hx
    ·obtain ⟨j, hj, rfl⟩ := List.mem_map.1 hx
     have := List.mem_range.1 (List.mem_filter.1 hj).1
     omega
    ·cases hx
  ·exact h2 y hy
theorem best_mem {m : Nat} {s : List (List Int)} (hv : Vs m s) : bestD m s ∈ ds m (-1) s.length 0 (all_ m) ∧ wv s (bestD m s) = (mo m (-1) s 0 (all_ m)).1 := by
 have h := bst_find s 0 (all_ m) hv.ok
 have h2 : decide (wv s (bst m s 0 (all_ m)) = (mo m (-1) s 0 (all_ m)).1) = true := List.find?_some (p := fun l => decide (wv s l = (mo m (-1) s 0 (all_ m)).1)) h
 exact ⟨List.mem_of_find?_eq_some h, of_decide_eq_true h2⟩
end
section
theorem lotsF_mono {m L L' : Nat} (h : ∀ j : Nat, j < m → L'.testBit j = true → L.testBit j = true) {x : Int} : x ∈ cand m L' true → x ∈ cand m L true := by
 intro hx
 rcases mem_cand hx with rfl | ⟨l, rfl, h1, h2⟩
 ·simp [cand]
 ·unfold cand
  simp only [if_true, List.mem_cons, List.mem_map, List.mem_filter, List.mem_range]
  exact .inr ⟨l, ⟨h1, h l h1 h2⟩, rfl⟩
theorem cand_free {m L : Nat} {x : Int} {b : Bool} (h : x ∈ cand m L b) : x ∈ cand m L true := by
 cases b with
 | true => exact h
 | false => simp [cand] at h; subst h; simp [cand]
theorem dx_lt {m L : Nat} (hm : m ≤ 5) (hL : L < 32) {x : Int} (h : x ∈ cand m L true) : dx L x < 32 := by
 unfold dx
 rcases mem_cand h with rfl | ⟨l, rfl, h1, h2⟩
 ·rw [if_pos (by omega)]; exact hL
 ·rw [if_neg (by omega), Int.toNat_natCast]; exact (look_L hL (by omega)).2.2.1
theorem dx_sub {m L : Nat} (hm : m ≤ 5) (hL : L < 32) {x : Int} (h : x ∈ cand m L true) {j : Nat} (hj : j < 5) (hb : (dx L x).testBit j = true) : L.testBit j = true := by
 unfold dx at hb
 rcases mem_cand h with rfl | ⟨l, rfl, h1, h2⟩
 ·rw [if_pos (by omega)] at hb; exact hb
 ·rw [if_neg (by omega), Int.toNat_natCast, (look_L hL (by omega)).2.2.2 j hj] at hb
  cases h3 : L.testBit j
  ·rw [h3] at hb; cases hb
  ·rfl
theorem dx_mono {m L L' : Nat} (hm : m ≤ 5) (hL : L < 32) (hL' : L' < 32) (h : ∀ j : Nat, j < m → L'.testBit j = true → L.testBit j = true) {x : Int} (hx : x ∈ cand m L' true) : ∀ j : Nat, j < m → (dx L' x).testBit j = true → (dx L x).testBit j = true := by
 intro j hj hb
 unfold dx at hb ⊢
 rcases mem_cand hx with rfl | ⟨l, rfl, h1, h2⟩
 ·rw [if_pos (by omega)] at hb ⊢; exact h j hj hb
 ·rw [if_neg (by omega), Int.toNat_natCast] at hb ⊢
  rw [(look_L hL' (by omega)).2.2.2 j (by omega)] at hb
  rw [(look_L hL (by omega)).2.2.2 j (by omega)]
  simp only [Bool.and_eq_true] at hb ⊢
  exact ⟨h j hj hb.1, hb.2⟩
theorem ds_mono {m : Nat} {but : Int} (hm : m ≤ 5) : ∀ (k i L L' : Nat) (t : List Int), L < 32 → L' < 32 → (∀ j : Nat, j < m → L'.testBit j = true → L.testBit j = true) → t ∈ ds m but k i L' → t ∈ ds m but k i L
 | 0, _, _, _, t, _, _, _, h => h
 | k + 1, i, L, L', t, h1, h2, h3, h => by
  rw [ds] at h ⊢
  obtain ⟨x, hx, ht⟩ := List.mem_flatMap.1 h
  obtain ⟨u, hu, rfl⟩ := List.mem_map.1 ht
  have hx' := cand_free hx
  have hxL := lotsF_mono h3 hx'
  have hin : x ∈ cand m L (decide ((i : Int) ≠ but)) := by
   by_cases hb : (i : Int) ≠ but
   ·rw [decide_eq_true hb]; exact hxL
   ·rw [decide_eq_false hb] at hx ⊢; exact hx
  refine List.mem_flatMap.2 ⟨x, hin, List.mem_map.2 ⟨u, ?_, rfl⟩⟩
  exact ds_mono hm k (i + 1) _ _ u (dx_lt hm h1 hxL) (dx_lt hm h2 hx') (dx_mono hm h1 h2 h3 hx') hu
theorem ds_but {m : Nat} {but : Int} (hm : m ≤ 5) : ∀ (k i L : Nat) (t : List Int), L < 32 → t ∈ ds m (-1) k i L → ∃ t' ∈ ds m but k i L, ∀ rows : List (List Int), rows.length = k → wv rows t' = wB but i rows t
 | 0, i, L, t, _, h => by
  simp [ds] at h
  subst h
  exact ⟨[], by simp [ds], fun rows h => by rw [List.eq_nil_of_length_eq_zero h]; rfl⟩
 | k + 1, i, L, t, h1, h => by
  rw [ds] at h
  obtain ⟨x, hx, ht⟩ := List.mem_flatMap.1 h
  obtain ⟨u, hu, rfl⟩ := List.mem_map.1 ht
  have hx' := cand_free hx
  obtain ⟨u', a1, a2⟩ := ds_but hm k (i + 1) (dx L x) u (dx_lt hm h1 hx') hu
  by_cases hb : (i : Int) = but
  ·refine ⟨-1 :: u', ?_, fun rows hr => ?_⟩
   ·rw [ds]
    refine List.mem_flatMap.2 ⟨-1, by simp [cand], List.mem_map.2 ⟨u', ?_, rfl⟩⟩
    exact ds_mono hm k (i + 1) _ _ u' h1 (dx_lt hm h1 hx') (fun j hj hb => dx_sub hm h1 hx' (by omega) hb) a1
   ·match rows, hr with
    | r :: rs, hr =>
     rw [wv, wB, if_pos hb, a2 rs (by simpa using hr), show vl r (-1) = 0 from rfl]
  ·refine ⟨x :: u', ?_, fun rows hr => ?_⟩
   ·rw [ds, decide_eq_true hb]
    exact List.mem_flatMap.2 ⟨x, hx', List.mem_map.2 ⟨u', a1, rfl⟩⟩
   ·match rows, hr with
    | r :: rs, hr => rw [wv, wB, if_neg hb, a2 rs (by simpa using hr)]
theorem ds_back {m : Nat} {but : Int} : ∀ (k i L : Nat) (t : List Int), t ∈ ds m but k i L → t ∈ ds m (-1) k i L ∧ ∀ rows : List (List Int), rows.length = k → wB but i rows t = wv rows t
 | 0, i, L, t, h => by
  simp [ds] at h
  subst h
  exact ⟨by simp [ds], fun rows h => by rw [List.eq_nil_of_length_eq_zero h]; rfl⟩
 | k + 1, i, L, t, h => by
  rw [ds] at h
  obtain ⟨x, hx, ht⟩ := List.mem_flatMap.1 h
  obtain ⟨u, hu, rfl⟩ := List.mem_map.1 ht
  have hx' := cand_free hx
  obtain ⟨a1, a2⟩ := ds_back k (i + 1) (dx L x) u hu
  refine ⟨?_, fun rows hr => ?_⟩
  ·rw [ds, decide_eq_true (by omega : (i : Int) ≠ -1)]
   exact List.mem_flatMap.2 ⟨x, hx', List.mem_map.2 ⟨u, a1, rfl⟩⟩
  ·match rows, hr with
   | r :: rs, hr =>
    rw [wv, wB, a2 rs (by simpa using hr)]
    by_cases hb : (i : Int) = but
    ·rw [decide_eq_false (fun h => h hb)] at hx
     simp [cand] at hx
     subst hx
     rw [if_pos hb]; rfl
    ·rw [if_neg hb]

def W (m : Nat) (s : List (List Int)) (but : Int) : Int := (mo m but s 0 (all_ m)).1
theorem W_top {m : Nat} {s : List (List Int)} (hv : Vs m s) (but : Int) : (∀ t ∈ ds m (-1) s.length 0 (all_ m), wB but 0 s t ≤ W m s but) ∧ (∃ t ∈ ds m (-1) s.length 0 (all_ m), wB but 0 s t = W m s but) := by
 have hL : all_ m < 32 := (f69_eq (F := 0) (M := []) (s := []) hv.m5).2
 have e := mo_ds but s 0 (all_ m) hv.ok
 obtain ⟨q1, q2, _⟩ := mxc_max ((ds m but s.length 0 (all_ m)).map (wv s)) (fun w hw => by obtain ⟨t, _, rfl⟩ := List.mem_map.1 hw; exact wv_nn s t hv.ok)
 rw [← e] at q1 q2
 constructor
 ·intro t ht
  obtain ⟨t', h1, h2⟩ := ds_but (but := but) hv.m5 _ _ _ t hL ht
  rw [← h2 s rfl]
  exact q1 _ (List.mem_map.2 ⟨t', h1, rfl⟩)
 ·obtain ⟨t, ht, h⟩ := List.mem_map.1 (q2 (by simp [ds_ne]))
  obtain ⟨a1, a2⟩ := ds_back _ _ _ t ht
  exact ⟨t, a1, by rw [a2 s rfl]; exact h⟩
theorem wB_split {b : Nat} : ∀ (rows : List (List Int)) (l : List Int) (i : Nat), l.length = rows.length → i ≤ b → b < i + rows.length → wB b i rows l + vl (rows[b - i]?.getD []) (l[b - i]?.getD (-1)) = wv rows l
 | [], _, _, _, h1, h2 => by simp at h2; omega
 | _ :: _, [], _, h, _, _ => by simp at h
 | r :: rs, x :: xs, i, h, h1, h2 => by
  have hl : xs.length = rs.length := by simpa using h
  rw [wB, wv]
  by_cases hb : i = b
  ·subst hb
   have e : ∀ (rs : List (List Int)) (xs : List Int) (j : Nat), i < j → wB i j rs xs = wv rs xs := by
    intro rs
    induction rs with
    | nil => intro xs j _; cases xs <;> rfl
    | cons r rs ih =>
     intro xs j hj
     cases xs with
     | nil => rfl
     | cons x xs => rw [wB, wv, if_neg (by omega), ih xs (j + 1) (by omega)]
   rw [if_pos rfl, e rs xs (i + 1) (by omega), Nat.sub_self, List.getElem?_cons_zero, List.getElem?_cons_zero, Option.getD_some, Option.getD_some]
   omega
  ·have := wB_split (b := b) rs xs (i + 1) hl (by omega) (by simp at h2; omega)
   have e : b - i = (b - (i + 1)) + 1 := by omega
   rw [if_neg (by omega), e, List.getElem?_cons_succ, List.getElem?_cons_succ]
   omega
theorem Vs.set {m b : Nat} {s : List (List Int)} {l : List Int} (hv : Vs m s) (hl : l.length = m ∧ ∀ x ∈ l, 0 ≤ x ∧ x ≤ 99) : Vs m (s.set b l) := by
 refine ⟨fun r hr => ?_, by rw [List.length_set]; exact hv.n, hv.m5⟩
 rcases List.mem_or_eq_of_mem_set hr with h | rfl
 ·exact hv.ok r h
 ·exact hl

theorem best_W {m : Nat} {s : List (List Int)} (hv : Vs m s) : wv s (bestD m s) = W m s (-1) := (best_mem hv).2
theorem best_len {m : Nat} {s : List (List Int)} (hv : Vs m s) : (bestD m s).length = s.length ∧ ∀ x ∈ bestD m s, -1 ≤ x ∧ x < m := ds_range _ _ _ _ (best_mem hv).1
def lot (m : Nat) (s : List (List Int)) (b : Nat) : Int := (bestD m s)[b]?.getD (-1)
def pay (m : Nat) (s : List (List Int)) (b : Nat) : Int := W m s b - (W m s (-1) - vl (s[b]?.getD []) (lot m s b))
theorem at_best {m b : Nat} {s : List (List Int)} (hv : Vs m s) (hb : b < s.length) : at? (bestD m s) (b : Nat) = some (lot m s b) ∧ -1 ≤ lot m s b ∧ lot m s b < m := by
 obtain ⟨h1, h2⟩ := best_len hv
 have e : lot m s b = (bestD m s)[b]'(by omega) := by unfold lot; rw [List.getElem?_eq_getElem (by omega), Option.getD_some]
 refine ⟨by rw [at_get (by omega), e], ?_⟩
 rw [e]
 exact h2 _ (List.getElem_mem _)
theorem best_wB {m b : Nat} {s : List (List Int)} (hv : Vs m s) (hb : b < s.length) : wB b 0 s (bestD m s) = W m s (-1) - vl (s[b]?.getD []) (lot m s b) := by
 have := wB_split (b := b) s (bestD m s) 0 (best_len hv).1 (by omega) (by omega)
 rw [Nat.sub_zero, best_W hv] at this
 unfold lot
 omega
theorem row_bd {m b : Nat} {s : List (List Int)} (hv : Vs m s) (x : Int) : 0 ≤ vl (s[b]?.getD []) x ∧ vl (s[b]?.getD []) x ≤ 99 := by
 by_cases hb : b < s.length
 ·rw [List.getElem?_eq_getElem hb, Option.getD_some]
  exact vl_bd (hv.ok _ (List.getElem_mem hb)) x
 ·rw [List.getElem?_eq_none (by omega), Option.getD_none]
  unfold vl
  split <;> simp
theorem pay_bd {m b : Nat} {s : List (List Int)} (hv : Vs m s) (hb : b < s.length) : 0 ≤ pay m s b ∧ pay m s b ≤ vl (s[b]?.getD []) (lot m s b) := by
 unfold pay
 obtain ⟨a1, t, a2, a3⟩ := W_top hv b
 have h1 := a1 _ (best_mem hv).1
 rw [best_wB hv hb] at h1
 have h2 := (W_top hv (-1)).1 t a2
 have h3 := wB_split (b := b) s t 0 (ds_range _ _ _ _ a2).1 (by omega) (by omega)
 have h4 := row_bd (b := b) hv (t[b - 0]?.getD (-1))
 rw [wB_wv] at h2
 rw [Nat.sub_zero] at h3 h4
 omega
end
section
end
section
theorem f73_eq {F : Nat} {x a b : Int} : f73 F x a b = some (decide (a ≤ x ∧ x ≤ b)) := by
 unfold f73
 by_cases h : a ≤ x <;> simp [h]
theorem f25_p8_eq {F i : Nat} {s : List (List Int)} (hi : i < s.length) (hl : s[i].length ≤ 5000) : ∀ (k j : Nat), j ≤ s[i].length → s[i].length < k + j → f25_p8 F s i k j = some (if (s[i].drop j).any badW = true then .c0 else .c1) := by
 intro k
 induction k with
 | zero => intro j _ h; omega
 | succ k ih =>
  intro j h1 h2
  unfold f25_p8
  rw [at_get hi, Option.bind_some]
  by_cases hj : j < s[i].length
  ·rw [if_pos (by simp; omega), at_get hj, Option.bind_some, f73_eq, Option.bind_some, drop_cons hj, List.any_cons]
   cases hb : badW s[i][j]
   ·have hb2 : 0 ≤ s[i][j] ∧ s[i][j] ≤ 99 := by simpa [badW] using hb
    rw [decide_eq_true hb2, if_pos rfl, w64_succ (by omega), Bool.false_or]
    exact ih (j + 1) (by omega) (by omega)
   ·have hb2 : ¬ (0 ≤ s[i][j] ∧ s[i][j] ≤ 99) := fun h => by simp [badW, h] at hb
    rw [decide_eq_false hb2, if_neg (by decide), Bool.true_or, if_pos rfl]
  ·rw [if_neg (by simp; omega), List.drop_eq_nil_of_le (by omega)]
   rfl
theorem f25_p3_eq {F : Nat} {s : List (List Int)} (hF : 100 ≤ F) (hs : s.length ≤ 5) (h0 : 0 < s.length) (hm : (s[0]?.getD []).length ≤ 5) : ∀ (k i : Nat), i ≤ s.length → s.length < k + i →
  f25_p3 F s k i = some (if rowsE (s[0]?.getD []).length (s.drop i) ≠ 0 then .c0 (rowsE (s[0]?.getD []).length (s.drop i)) else .c1) := by
 have e0 : at? s 0 = some (s[0]?.getD []) := by rw [List.getElem?_eq_getElem h0]; exact at_get h0
 intro k
 induction k with
 | zero => intro i _ h; omega
 | succ k ih =>
  intro i h1 h2
  unfold f25_p3
  by_cases hi : i < s.length
  ·rw [if_pos (by simp; omega), at_get hi, Option.bind_some, e0, Option.bind_some, drop_cons hi, rowsE]
   by_cases hlen : (s[i].length : Int) = (s[0]?.getD []).length
   ·have e8 := f25_p8_eq (F := F) hi (by omega) F 0 (by omega) (by omega)
    rw [List.drop_zero] at e8
    rw [if_neg (by simpa using hlen), show f25_p8 F s i F 0 = _ from e8, Option.bind_some]
    by_cases hb : s[i].any badW = true
    ·have er : rowE (s[0]?.getD []).length s[i] = 1 := by unfold rowE; rw [if_neg (by simpa using hlen), if_pos hb]
     rw [if_pos hb, er]; rfl
    ·have er : rowE (s[0]?.getD []).length s[i] = 0 := by unfold rowE; rw [if_neg (by simpa using hlen), if_neg hb]
     have e2 : (if (0 : Int) ≠ 0 then (0 : Int) else rowsE (s[0]?.getD []).length (s.drop (i + 1))) = rowsE (s[0]?.getD []).length (s.drop (i + 1)) := if_neg (fun h => h rfl)
     rw [if_neg hb, er, e2, w64_succ (by omega)]
     exact ih (i + 1) (by omega) (by omega)
   ·have er : rowE (s[0]?.getD []).length s[i] = 5 := by unfold rowE; rw [if_pos hlen]
    rw [if_pos (by simpa using hlen), er]; rfl
  ·rw [if_neg (by simp; omega), List.drop_eq_nil_of_le (by omega)]
   rfl
theorem f25_eq {F : Nat} (hF : 100 ≤ F) (s : List (List Int)) : f25 F s = some (ckS s) := by
 unfold f25 ckS
 by_cases h1 : s.length = 0
 ·rw [if_pos (by simp [h1]), if_pos h1]
 ·rw [if_neg (by simp; intro h; simp [h] at h1), if_neg h1]
  by_cases h2 : s.length > 5
  ·rw [if_pos (by simp; omega), if_pos h2]
  ·have e0 : at? s 0 = some (s[0]?.getD []) := by rw [List.getElem?_eq_getElem (Nat.pos_of_ne_zero h1)]; exact at_get (Nat.pos_of_ne_zero h1)
   rw [if_neg (by simp; omega), if_neg h2, e0, Option.bind_some]
   by_cases h3 : (s[0]?.getD []).length > 5
   ·rw [if_pos (by simp; omega), if_pos h3]
   ·rw [if_neg (by simp; omega), if_neg h3]
    have e := f25_p3_eq hF (s := s) (by omega) (Nat.pos_of_ne_zero h1) (by omega) F 0 (Nat.zero_le _) (by omega)
    rw [show f25_p3 F s F 0 = _ from e, Option.bind_some, List.drop_zero]
    by_cases hr : rowsE (s[0]?.getD []).length s = 0
    ·rw [if_neg (by simpa using hr), hr]
    ·rw [if_pos hr]
theorem f74_p1_eq {F : Nat} {l : List Int} {x : Int} (hl : l.length ≤ 5000) : ∀ (k i : Nat), i ≤ l.length → l.length < k + i → f74_p1 F l x k i = some (if x ∈ l.drop i then .c0 else .c1) := by
 intro k
 induction k with
 | zero => intro i _ h; omega
 | succ k ih =>
  intro i h1 h2
  unfold f74_p1
  by_cases hi : i < l.length
  ·rw [if_pos (by simp; omega), at_get hi, Option.bind_some, drop_cons hi]
   by_cases he : l[i] = x
   ·rw [if_pos (by simpa using he), if_pos (by rw [he]; exact List.mem_cons_self ..)]
   ·rw [if_neg (by simpa using he), w64_succ (by omega), ih (i + 1) (by omega) (by omega)]
    have : (x ∈ l[i] :: l.drop (i + 1)) = (x ∈ l.drop (i + 1)) := by
     rw [List.mem_cons]; exact propext ⟨fun h => h.resolve_left fun e => he e.symm, .inr⟩
    simp only [this]
  ·rw [if_neg (by simp; omega), List.drop_eq_nil_of_le (by omega)]
   simp
theorem f74_eq {F : Nat} {l : List Int} {x : Int} (hl : l.length ≤ 50) (hF : 100 ≤ F) : f74 F l x = some (decide (x ∈ l)) := by
 have e := f74_p1_eq (F := F) (l := l) (x := x) (by omega) F 0 (by omega) (by omega)
 rw [List.drop_zero] at e
 unfold f74
 rw [show f74_p1 F l x F 0 = _ from e, Option.bind_some]
 by_cases h : x ∈ l
 ·rw [if_pos h, decide_eq_true h]
 ·rw [if_neg h, decide_eq_false h]
theorem f75_p1_eq {F m : Nat} {s : List (List Int)} {l : List Int} (hv : Vs m s) (hl : l.length = s.length) (hx : ∀ x ∈ l, -1 ≤ x ∧ x < m) : ∀ (k i : Nat) (acc : Int), i ≤ l.length → l.length < k + i → 0 ≤ acc → acc ≤ 100 * i →
  f75_p1 F s l k acc i = some (acc + wv (s.drop i) (l.drop i)) := by
 have hn := hv.n
 intro k
 induction k with
 | zero => intro i acc _ h; omega
 | succ k ih =>
  intro i acc h1 h2 h4 h5
  unfold f75_p1
  by_cases hi : i < l.length
  ·have his : i < s.length := by omega
   have hxi := hx _ (List.getElem_mem hi)
   have hrow := hv.ok _ (List.getElem_mem his)
   have hvl := vl_bd hrow l[i]
   rw [if_pos (by simp; omega), at_get hi, Option.bind_some, drop_cons hi, drop_cons his, wv, w64_succ (by omega)]
   unfold f75_p4
   by_cases hneg : l[i] ≥ 0
   ·obtain ⟨j, hj⟩ : ∃ j : Nat, l[i] = j := ⟨l[i].toNat, by omega⟩
    have hj2 : j < s[i].length := by omega
    have ev : vl s[i] l[i] = s[i][j] := by rw [hj]; unfold vl; rw [if_neg (by omega), Int.toNat_natCast, List.getElem?_eq_getElem hj2]; rfl
    rw [if_pos (by simpa using hneg), at_get his, Option.bind_some, at_get hi, Option.bind_some, hj, at_get hj2, Option.bind_some, Option.bind_some, w64_in (by omega), ih (i + 1) _ (by omega) (by omega) (by omega) (by omega), ← hj, ev, Int.add_assoc]
   ·have ev : vl s[i] l[i] = 0 := by unfold vl; rw [if_pos (by omega)]
    rw [if_neg (by simpa using hneg), Option.bind_some, ev, ih (i + 1) acc (by omega) (by omega) h4 (by omega), Int.zero_add]
  ·rw [if_neg (by simp; omega), show List.drop i s = [] from List.drop_eq_nil_of_le (by omega)]
   rw [wv] <;> simp
theorem f75_eq {F m : Nat} {s : List (List Int)} {l : List Int} (hF : 100 ≤ F) (hv : Vs m s) (hl : l.length = s.length) (hx : ∀ x ∈ l, -1 ≤ x ∧ x < m) : f75 F s l = some (wv s l) := by
 have hn := hv.n
 have e := f75_p1_eq (F := F) hv hl hx F 0 0 (by omega) (by omega) (by omega) (by omega)
 rw [List.drop_zero, List.drop_zero, Int.zero_add] at e
 unfold f75
 rw [show f75_p1 F s l F 0 0 = _ from e, Option.bind_some]

theorem f100_p2_eq {F m L r : Nat} {l : List Int} {B : Int} (hF : 100 ≤ F) (hm : m ≤ 5) (hl : l.length ≤ 20) (ha : Avail m L l) {rec : Int → Int → Int → List Int → Option (List (List Int))} {G : Int → List (List Int)} (hG : ∀ x, (G x).length ≤ 10000)
  (hrec : ∀ x, x ∈ cand m L true → rec B m (-1) (l ++ [x]) = some (G x)) : ∀ (k j : Nat) (acc : List (List Int)), m < k + j → j ≤ m → acc.length ≤ 10000 * (j + 1) → f100_p2 F rec B m (-1) l k j acc = some (acc ++ (lotsF m L true j).flatMap G) := by
 intro k
 induction k with
 | zero => intro j acc h _ _; omega
 | succ k ih =>
  intro j acc h1 h2 h3
  unfold f100_p2
  by_cases hj : j < m
  ·rw [if_pos (by simp; omega), if_neg (by simp), if_pos (by simp <;> omega), f74_eq (by omega) hF, Option.bind_some, lotsF_step hj, ha.2 j hj, w64_succ (by omega)]
   unfold f100_p5
   by_cases hc : (j : Int) ∈ l
   ·rw [decide_eq_true hc, if_pos rfl, Option.bind_some]
    simp only [Bool.not_true, Bool.and_false, Bool.false_eq_true, if_false]
    exact ih (j + 1) acc (by omega) (by omega) (by omega)
   ·have hmem : (j : Int) ∈ cand m L true := by
     rw [lotsF_zero]
     refine List.mem_cons_of_mem _ ?_
     unfold lotsF
     simp only [if_true, List.mem_map, List.mem_filter]
     refine ⟨j, ⟨by simpa using hj, ?_⟩, rfl⟩
     rw [ha.2 j hj, decide_eq_false hc]; rfl
    have hg := hG (j : Int)
    rw [decide_eq_false hc, if_neg (by decide), req_pos (by simp; omega), req_pos (by simp; omega), List.nil_append, take0, hrec _ hmem, Option.bind_some, req_pos (by omega), Option.bind_some]
    simp only [Bool.not_false, Bool.and_true, if_true, List.flatMap_cons]
    rw [ih (j + 1) _ (by omega) (by omega) (by simp; omega), List.append_assoc]
  ·rw [if_neg (by simp; omega), lotsF_end (by omega)]
   simp
theorem len_bd {m : Nat} (hm : m ≤ 5) {r i L : Nat} (hr : r ≤ 5) : (ds m (-1) r i L).length ≤ 7776 := Nat.le_trans (ds_len hm (but := -1) r i L) (by
 have := pow5 (k := r) hr
 have h6 : ((6 ^ r : Nat) : Int) ≤ 7776 := by rw [Int.natCast_pow]; exact this
 omega)
theorem f100_eq {F m B : Nat} (hF : 100 ≤ F) (hm : m ≤ 5) (hB : B ≤ 5) : ∀ (r k : Nat) (l : List Int) (L : Nat), l.length + r = B → r < k → Avail m L l → f100 F k B m (-1) l = some ((ds m (-1) r l.length L).map (l ++ ·)) := by
 intro r
 induction r with
 | zero =>
  intro k l L h1 h2 h3
  obtain ⟨k, rfl⟩ : ∃ q, k = q + 1 := ⟨k - 1, by omega⟩
  show f100_b F (f100 F k) B m (-1) l = _
  unfold f100_b
  rw [if_pos (by simp; omega)]
  simp [ds]
 | succ r ih =>
  intro k l L h1 h2 h3
  obtain ⟨k, rfl⟩ : ∃ q, k = q + 1 := ⟨k - 1, by omega⟩
  obtain ⟨F', hF'⟩ : ∃ F', F = F' + 1 := ⟨F - 1, by omega⟩
  show f100_b F (f100 F k) B m (-1) l = _
  unfold f100_b
  rw [if_neg (by simp; omega), ds_step]
  have hrec : ∀ x, x ∈ cand m L true → f100 F k B m (-1) (l ++ [x]) = some ((ds m (-1) r (l.length + 1) (dx L x)).map ((l ++ [x]) ++ ·)) := by
   intro x hx
   have := ih k (l ++ [x]) (dx L x) (by simp; omega) (by omega) (h3.next hm hx)
   rw [this]
   simp
  have hG : ∀ x : Int, ((ds m (-1) r (l.length + 1) (dx L x)).map ((l ++ [x]) ++ ·)).length ≤ 10000 := fun x => by
   rw [List.length_map]
   have := len_bd (i := l.length + 1) (L := dx L x) hm (show r ≤ 5 by omega)
   omega
  have e := f100_p2_eq (B := (B : Int)) (r := r) hF hm (by omega : l.length ≤ 20) h3 hG hrec F' 0
  have h0 : (-1 : Int) ∈ cand m L true := by simp [cand]
  have hg0 := hG (-1)
  subst hF'
  unfold f100_p2
  rw [if_pos (by simp; omega), if_pos (by decide), req_pos (by simp; omega), req_pos (by simp; omega), List.nil_append, take0, hrec _ h0, Option.bind_some, req_pos (by simp at hg0 ⊢; omega), List.nil_append, show w64 ((-1 : Int) + 1) = ((0 : Nat) : Int) by decide, e _ (by omega) (by omega) (by omega), Option.bind_some, take0, lotsF_zero, List.flatMap_cons]
def sq (s : List (List Int)) (b : List Int × (Int × Int)) (t : List Int) : List Int × (Int × Int) := (if wv s t > b.2.1 then t else b.1, comb b.2 (wv s t, 1))
theorem sq_fold (s : List (List Int)) {m : Nat} (ho : Ok m s) : ∀ (ts : List (List Int)) (b : List Int × (Int × Int)), -1 ≤ b.2.1 → (ts.foldl (sq s) b).2 = comb b.2 (mxc (ts.map (wv s))) ∧
  (ts.foldl (sq s) b).1 = if (comb b.2 (mxc (ts.map (wv s)))).1 > b.2.1 then (ts.find? fun t => decide (wv s t = (comb b.2 (mxc (ts.map (wv s)))).1)).getD b.1 else b.1 := by
 intro ts
 induction ts with
 | nil =>
  intro b hb
  have e : mxc (([] : List (List Int)).map (wv s)) = (-1, 0) := rfl
  rw [e, comb_none hb, if_neg (by omega)]
  exact ⟨rfl, rfl⟩
 | cons t ts ih =>
  intro b hb
  have hw := wv_nn s t ho
  have hts : ∀ w ∈ ts.map (wv s), 0 ≤ w := fun w hw => by obtain ⟨u, _, rfl⟩ := List.mem_map.1 hw; exact wv_nn s u ho
  have hc := comb_ge (b := b.2) (a := (wv s t, 1))
  dsimp only at hc
  obtain ⟨i1, i2⟩ := ih (sq s b t) (by unfold sq; dsimp only; omega)
  have e : comb (sq s b t).2 (mxc (ts.map (wv s))) = comb b.2 (mxc ((t :: ts).map (wv s))) := by
   rw [List.map_cons, mxc_cons hw hts, ← comb_assoc]; rfl
  rw [List.foldl_cons, i1, i2, e]
  refine ⟨rfl, ?_⟩
  have hge := comb_ge (b := (sq s b t).2) (a := mxc (ts.map (wv s)))
  rw [e] at hge
  have hWe : (comb (sq s b t).2 (mxc (ts.map (wv s)))).1 = (comb b.2 (mxc ((t :: ts).map (wv s)))).1 := by rw [e]
  clear e i1 i2
  generalize (comb b.2 (mxc ((t :: ts).map (wv s)))).1 = W at *
  have e2 : (sq s b t).2.1 = if wv s t > b.2.1 then wv s t else b.2.1 := by
   unfold sq comb
   dsimp only
   by_cases h : wv s t > b.2.1
   ·rw [if_pos h, if_pos h]
   ·rw [if_neg h, if_neg h]; split <;> rfl
  have e1 : (sq s b t).1 = if wv s t > b.2.1 then t else b.1 := rfl
  rw [e1, e2, List.find?_cons]
  rw [e2] at hge
  by_cases h : wv s t > b.2.1
  ·simp only [if_pos h] at hge ⊢
   rw [if_pos (by omega : W > b.2.1)]
   by_cases h2 : W > wv s t
   ·rw [if_pos h2, decide_eq_false (by omega)]
    cases hf : ts.find? fun t => decide (wv s t = W) with
    | some u => rfl
    | none =>
     exfalso
     obtain ⟨x1, x2, _⟩ := mxc_max (ts.map (wv s)) hts
     have hne : ts.map (wv s) ≠ [] := fun e0 => by
      rw [e0] at hWe
      have : comb (sq s b t).2 (mxc []) = (sq s b t).2 := comb_none (by rw [e2, if_pos h]; omega)
      rw [this, e2, if_pos h] at hWe
      omega
     obtain ⟨u, hu, hu2⟩ := List.mem_map.1 (x2 hne)
     have h3 : (mxc (ts.map (wv s))).1 = W := by
      have : (comb (sq s b t).2 (mxc (ts.map (wv s)))).1 = (sq s b t).2.1 ∨ (comb (sq s b t).2 (mxc (ts.map (wv s)))).1 = (mxc (ts.map (wv s))).1 := by
       unfold comb
       split
       ·exact .inr rfl
       ·split <;> exact .inl rfl
      rw [hWe, e2, if_pos h] at this
      omega
     have := List.find?_eq_none.1 hf u hu
     simp at this
     omega
   ·rw [if_neg h2, decide_eq_true (by omega)]
    rfl
  ·simp only [if_neg h] at hge ⊢
   by_cases h2 : W > b.2.1
   ·rw [if_pos h2, if_pos h2, decide_eq_false (by omega)]
   ·rw [if_neg h2, if_neg h2]
theorem f67_p2_eq {F m : Nat} {s : List (List Int)} (hF : 100 ≤ F) (hv : Vs m s) {ts : List (List Int)} (hts : ∀ t ∈ ts, t.length = s.length ∧ ∀ x ∈ t, -1 ≤ x ∧ x < m) (hl : ts.length ≤ 10000) : ∀ (k i : Nat) (b : List Int × (Int × Int)), i ≤ ts.length → ts.length < k + i → -1 ≤ b.2.1 → 0 ≤ b.2.2 ∧ b.2.2 ≤ i →
  f67_p2 F s ts k b.1 b.2.2 b.2.1 i = some (((ts.drop i).foldl (sq s) b).1, ((ts.drop i).foldl (sq s) b).2.2, ((ts.drop i).foldl (sq s) b).2.1) := by
 intro k
 induction k with
 | zero => intro i b _ h; omega
 | succ k ih =>
  intro i b h1 h2 h3 h4
  unfold f67_p2
  by_cases hi : i < ts.length
  ·obtain ⟨t1, t2⟩ := hts _ (List.getElem_mem hi)
   have hw := wv_nn s ts[i] hv.ok
   rw [if_pos (by simp; omega), at_get hi, Option.bind_some, f75_eq hF hv t1 t2, Option.bind_some, drop_cons hi, List.foldl_cons]
   unfold f67_p5_1
   by_cases hgt : wv s ts[i] > b.2.1
   ·rw [if_pos (by simpa using hgt), at_get hi, Option.bind_some, Option.bind_some]
    unfold f67_p6_1
    dsimp only
    rw [if_pos (by simp), show w64 ((0 : Int) + 1) = 1 by decide, Option.bind_some, w64_succ (by omega)]
    have e : sq s b ts[i] = (ts[i], (wv s ts[i], 1)) := by unfold sq comb; rw [if_pos hgt, if_pos hgt]
    rw [e]
    exact ih (i + 1) (ts[i], (wv s ts[i], 1)) (by omega) (by omega) (by dsimp only; omega) (by dsimp only; omega)
   ·rw [if_neg (by simpa using hgt), Option.bind_some]
    unfold f67_p6_1
    dsimp only
    by_cases heq : wv s ts[i] = b.2.1
    ·have e : sq s b ts[i] = (b.1, (b.2.1, b.2.2 + 1)) := by unfold sq comb; rw [if_neg hgt, if_neg hgt, if_pos heq]
     rw [if_pos (by simpa using heq), w64_in (n := b.2.2 + 1) (by omega), Option.bind_some, w64_succ (by omega), e]
     exact ih (i + 1) (b.1, (b.2.1, b.2.2 + 1)) (by omega) (by omega) h3 (by dsimp only; omega)
    ·have e : sq s b ts[i] = b := by unfold sq comb; rw [if_neg hgt, if_neg hgt, if_neg heq]
     rw [if_neg (by simpa using heq), Option.bind_some, w64_succ (by omega), e]
     exact ih (i + 1) b (by omega) (by omega) h3 (by omega)
  ·rw [if_neg (by simp; omega), List.drop_eq_nil_of_le (by omega)]
   rfl
theorem f67_eq {F m : Nat} {s : List (List Int)} (hF : 10000 ≤ F) (hv : Vs m s) : f67 F s (-1) = some (bestD m s, (mo m (-1) s 0 (all_ m)).2, (mo m (-1) s 0 (all_ m)).1) := by
 obtain ⟨r, h1, h2⟩ := hv.at0
 have hn := hv.n
 have e1 := f100_eq (F := F) (B := s.length) (by omega) hv.m5 hn.2 s.length F [] (all_ m) (by simp) (by omega) (Avail.all hv.m5)
 have hmap : (ds m (-1) s.length ([] : List Int).length (all_ m)).map (([] : List Int) ++ ·) = ds m (-1) s.length 0 (all_ m) := by simp
 rw [hmap] at e1
 have hl := len_bd (i := 0) (L := all_ m) hv.m5 hn.2
 have e2 := f67_p2_eq (F := F) (ts := ds m (-1) s.length 0 (all_ m)) (by omega) hv (fun t ht => ds_range _ _ _ t ht) (by omega) F 0 ([], (-1, 0)) (by omega) (by omega) (by decide) (by decide)
 rw [List.drop_zero] at e2
 obtain ⟨g1, g2⟩ := sq_fold s hv.ok (ds m (-1) s.length 0 (all_ m)) ([], (-1, 0)) (by decide)
 have hmo := mo_ds (-1) s 0 (all_ m) hv.ok
 have hbd := mo_bd (but := -1) hv.m5 s 0 (all_ m) hv.ok
 have ec : comb (-1, 0) (mxc ((ds m (-1) s.length 0 (all_ m)).map (wv s))) = mo m (-1) s 0 (all_ m) := by
  rw [← hmo]
  have := comb_first (w := (mo m (-1) s 0 (all_ m)).1) (c := (mo m (-1) s 0 (all_ m)).2) hbd.1
  exact this
 dsimp only at g1 g2
 rw [ec] at g1 g2
 rw [if_pos (by omega), bst_find s 0 (all_ m) hv.ok] at g2
 rw [g1, g2] at e2
 unfold f67
 rw [if_neg (by simp; intro h; rw [h] at hn; exact absurd hn.1 (by decide)), h1, Option.bind_some, h2, e1, Option.bind_some, show f67_p2 F s _ F [] 0 (-1) 0 = _ from e2, Option.bind_some]
 rfl
end
section
end
section
def sm : Nat → (Nat → Int) → Int
 | 0, _ => 0
 | n + 1, f => sm n f + f n
theorem sm_congr {n : Nat} {f g : Nat → Int} (h : ∀ i, i < n → f i = g i) : sm n f = sm n g := by
 induction n with
 | zero => rfl
 | succ n ih => rw [sm, sm, ih (fun i hi => h i (by omega)), h n (by omega)]
theorem sm_le {n : Nat} {f g : Nat → Int} (h : ∀ i, i < n → f i ≤ g i) : sm n f ≤ sm n g := by
 induction n with
 | zero => exact Int.le_refl _
 | succ n ih =>
  have := ih (fun i hi => h i (by omega))
  have := h n (by omega)
  rw [sm, sm]; omega
theorem sm_add {n : Nat} {f g : Nat → Int} : sm n (fun i => f i + g i) = sm n f + sm n g := by
 induction n with
 | zero => rfl
 | succ n ih => rw [sm, sm, sm, ih]; omega
theorem sm_one {n b : Nat} {c : Int} (hb : b < n) : sm n (fun i => if i = b then c else 0) = c := by
 induction n with
 | zero => omega
 | succ n ih =>
  rw [sm]
  by_cases h : b = n
  ·subst h
   have : sm b (fun i => if i = b then c else 0) = sm b (fun _ => 0) := sm_congr fun i hi => if_neg (by omega)
   rw [this, if_pos rfl]
   have : ∀ k : Nat, sm k (fun _ => 0) = 0 := fun k => by
    induction k with
    | zero => rfl
    | succ k ih => rw [sm, ih]; rfl
   rw [this]; omega
  ·rw [ih (by omega), if_neg (fun e => h e.symm)]; omega
theorem sm_two {n b c : Nat} {f g f' g' : Nat → Int} {x y : Int} (hb : b < n) (hc : c < n) (hbc : b ≠ c) (h : ∀ i, i < n → i ≠ b → i ≠ c → f i + g i = f' i + g' i) (h1 : f b + g b = f' b + g' b + x) (h2 : f c + g c = f' c + g' c + y) : sm n f + sm n g = sm n f' + sm n g' + x + y := by
 have e : sm n (fun i => f i + g i) = sm n (fun i => (f' i + g' i) + ((if i = b then x else 0) + if i = c then y else 0)) := sm_congr fun i hi => by
  by_cases ib : i = b
  ·subst ib; rw [if_pos rfl, if_neg hbc]; omega
  ·rw [if_neg ib]
   by_cases ic : i = c
   ·subst ic; rw [if_pos rfl]; omega
   ·rw [if_neg ic]; have := h i hi ib ic; omega
 rw [sm_add, sm_add, sm_add, sm_add, sm_one hb, sm_one hc] at e
 omega
theorem sm_at {n b : Nat} {f g f' g' : Nat → Int} {x : Int} (hb : b < n) (h : ∀ i, i < n → i ≠ b → f i + g i = f' i + g' i) (h1 : f b + g b = f' b + g' b + x) : sm n f + sm n g = sm n f' + sm n g' + x := by
 have e : sm n (fun i => f i + g i) = sm n (fun i => (f' i + g' i) + (if i = b then x else 0)) := sm_congr fun i hi => by
  by_cases ib : i = b
  ·subst ib; rw [if_pos rfl]; omega
  ·rw [if_neg ib]; have := h i hi ib; omega
 rw [sm_add, sm_add, sm_add, sm_one hb] at e
 omega
structure Dv (n m : Nat) (t : Nat → Int) : Prop where
 rg : ∀ i, i < n → -1 ≤ t i ∧ t i < m
 inj : ∀ i j, i < n → j < n → t i = t j → 0 ≤ t i → i = j
theorem Dv.up {n m : Nat} {t u : Nat → Int} (h : Dv n m t) (e : ∀ i, i < n → u i = t i) : Dv n m u :=
 ⟨fun i hi => by rw [e i hi]; exact h.rg i hi, fun i j hi hj h1 h2 => h.inj i j hi hj (by rw [← e i hi, ← e j hj]; exact h1) (by rw [← e i hi]; exact h2)⟩
abbrev wt (n : Nat) (v : Nat → Int → Int) (t : Nat → Int) : Int := sm n fun i => v i (t i)
inductive Rc (b stop : Nat) (nx : Nat → Nat → Prop) : Nat → Prop
 | base : Rc b stop nx b
 | step {i j : Nat} : Rc b stop nx i → i ≠ stop → nx i j → Rc b stop nx j
noncomputable def mix (S : Nat → Prop) (f g : Nat → Int) : Nat → Int := fun i => by
 classical
 exact if S i then f i else g i
theorem mix_in {S : Nat → Prop} {f g : Nat → Int} {i : Nat} (h : S i) : mix S f g i = f i := by unfold mix; rw [if_pos h]
theorem mix_out {S : Nat → Prop} {f g : Nat → Int} {i : Nat} (h : ¬ S i) : mix S f g i = g i := by unfold mix; rw [if_neg h]
theorem mix_dv {n m : Nat} {S : Nat → Prop} {f g : Nat → Int} (hf : Dv n m f) (hg : Dv n m g) (h : ∀ i j, i < n → j < n → S i → ¬ S j → f i = g j → 0 ≤ f i → False) : Dv n m (mix S f g) := by
 refine ⟨fun i hi => ?_, fun i j hi hj h1 h2 => ?_⟩
 ·by_cases hs : S i
  ·rw [mix_in hs]; exact hf.rg i hi
  ·rw [mix_out hs]; exact hg.rg i hi
 ·by_cases si : S i
  ·by_cases sj : S j
   ·rw [mix_in si, mix_in sj] at h1; rw [mix_in si] at h2; exact hf.inj i j hi hj h1 h2
   ·rw [mix_in si, mix_out sj] at h1; rw [mix_in si] at h2; exact (h i j hi hj si sj h1 h2).elim
  ·by_cases sj : S j
   ·rw [mix_out si, mix_in sj] at h1; rw [mix_out si] at h2; exact (h j i hj hi sj si h1.symm (by omega)).elim
   ·rw [mix_out si, mix_out sj] at h1; rw [mix_out si] at h2; exact hg.inj i j hi hj h1 h2
def put1 (f : Nat → Int) (b : Nat) (x : Int) : Nat → Int := fun i => if i = b then x else f i
theorem put1_eq {f : Nat → Int} {b : Nat} {x : Int} : put1 f b x b = x := if_pos rfl
theorem put1_ne {f : Nat → Int} {b i : Nat} {x : Int} (h : i ≠ b) : put1 f b x i = f i := if_neg h
theorem put1_dv {n m b : Nat} {f : Nat → Int} {x : Int} (hf : Dv n m f) (hx : -1 ≤ x ∧ x < m) (h : ∀ i, i < n → i ≠ b → f i = x → 0 ≤ x → False) : Dv n m (put1 f b x) := by
 refine ⟨fun i hi => ?_, fun i j hi hj h1 h2 => ?_⟩
 ·by_cases e : i = b
  ·rw [e, put1_eq]; exact hx
  ·rw [put1_ne e]; exact hf.rg i hi
 ·by_cases ei : i = b
  ·by_cases ej : j = b
   ·omega
   ·rw [ei, put1_eq] at h1 h2; rw [put1_ne ej] at h1; exact (h j hj ej h1.symm h2).elim
  ·by_cases ej : j = b
   ·rw [put1_ne ei] at h1 h2; rw [ej, put1_eq] at h1; exact (h i hi ei h1 (by omega)).elim
   ·rw [put1_ne ei] at h1 h2; rw [put1_ne ej] at h1; exact hf.inj i j hi hj h1 h2
section
variable {n m : Nat} {v : Nat → Int → Int} {d t : Nat → Int}
theorem ex_own {b c : Nat} (hz : ∀ i, v i (-1) = 0) (hd : Dv n m d) (ht : Dv n m t) (hopt : ∀ u, Dv n m u → wt n v u ≤ wt n v d) (hb : b < n) (hc : c < n) (hbc : b ≠ c) (htb : t b = -1) (hdc : 0 ≤ d c) :
  ∃ A, Dv n m A ∧ A c = -1 ∧ wt n v A ≥ wt n v t + v b (d c) - v c (d c) := by
 let nx : Nat → Nat → Prop := fun i j => i < n ∧ j < n ∧ 0 ≤ d i ∧ t j = d i
 have hS : ∀ i, Rc b c nx i → i < n := fun i h => by
  cases h with
  | base => exact hb
  | step _ _ h => exact h.2.1
 have back : ∀ i, Rc b c nx i → i ≠ b → ∃ j, j < n ∧ Rc b c nx j ∧ j ≠ c ∧ 0 ≤ d j ∧ t i = d j := fun i h hi => by
  cases h with
  | base => exact absurd rfl hi
  | step h1 h2 h3 => exact ⟨_, h3.1, h1, h2, h3.2.2.1, h3.2.2.2⟩
 by_cases hcS : Rc b c nx c
 ·-- on the way the owner is met
  have dA : Dv n m (put1 (mix (Rc b c nx) d t) c (-1)) := by
   refine ⟨fun i hi => ?_, fun i j hi hj h1 h2 => ?_⟩
   ·by_cases e : i = c
    ·rw [e, put1_eq]; omega
    ·rw [put1_ne e]
     by_cases hs : Rc b c nx i
     ·rw [mix_in hs]; exact hd.rg i hi
     ·rw [mix_out hs]; exact ht.rg i hi
   ·by_cases ei : i = c
    ·rw [ei, put1_eq] at h2; omega
    ·by_cases ej : j = c
     ·rw [ej, put1_eq] at h1; omega
     ·rw [put1_ne ei] at h1 h2; rw [put1_ne ej] at h1
      by_cases si : Rc b c nx i
      ·by_cases sj : Rc b c nx j
       ·rw [mix_in si, mix_in sj] at h1; rw [mix_in si] at h2; exact hd.inj i j hi hj h1 h2
       ·rw [mix_in si, mix_out sj] at h1; rw [mix_in si] at h2
        exact absurd (Rc.step si ei ⟨hi, hj, h2, h1.symm⟩) sj
      ·by_cases sj : Rc b c nx j
       ·rw [mix_out si, mix_in sj] at h1; rw [mix_out si] at h2
        exact absurd (Rc.step sj ej ⟨hj, hi, by omega, h1⟩) si
       ·rw [mix_out si, mix_out sj] at h1; rw [mix_out si] at h2; exact ht.inj i j hi hj h1 h2
  have dB0 : Dv n m (mix (Rc b c nx) t d) := mix_dv ht hd fun i j hi hj si sj e h0 => by
   by_cases hi' : i = b
   ·subst hi'; omega
   ·obtain ⟨k, hk, sk, _, k2, k3⟩ := back i si hi'
    have := hd.inj k j hk hj (by omega) k2
    subst this; exact sj sk
  have dB : Dv n m (put1 (mix (Rc b c nx) t d) b (d c)) := put1_dv dB0 (hd.rg c hc) fun i hi hib e h0 => by
   by_cases si : Rc b c nx i
   ·rw [mix_in si] at e
    obtain ⟨k, hk, _, k1, k2, k3⟩ := back i si hib
    exact k1 (hd.inj k c hk hc (by omega) k2)
   ·rw [mix_out si] at e
    have := hd.inj i c hi hc e (by omega)
    subst this; exact si hcS
  refine ⟨_, dA, put1_eq, ?_⟩
  have hB := hopt _ dB
  have e : wt n v (put1 (mix (Rc b c nx) d t) c (-1)) + wt n v (put1 (mix (Rc b c nx) t d) b (d c)) = wt n v t + wt n v d + v b (d c) + (- v c (d c)) := by
   refine sm_two hb hc hbc (fun i hi ib ic => ?_) ?_ ?_
   ·rw [put1_ne ic, put1_ne ib]
    by_cases si : Rc b c nx i
    ·rw [mix_in si, mix_in si]; omega
    ·rw [mix_out si, mix_out si]
   ·rw [put1_ne hbc, put1_eq, mix_in Rc.base, htb, hz b]; omega
   ·rw [put1_eq, put1_ne (fun e => hbc e.symm), mix_in hcS, hz c]; omega
  omega
 ·have dB : Dv n m (mix (Rc b c nx) d t) := mix_dv hd ht fun i j hi hj si sj e h0 => by
   by_cases hi' : i = c
   ·subst hi'; exact hcS si
   ·exact sj (Rc.step si hi' ⟨hi, hj, h0, e.symm⟩)
  have dA0 : Dv n m (mix (Rc b c nx) t d) := mix_dv ht hd fun i j hi hj si sj e h0 => by
   by_cases hi' : i = b
   ·subst hi'; omega
   ·obtain ⟨k, hk, sk, _, k2, k3⟩ := back i si hi'
    have := hd.inj k j hk hj (by omega) k2
    subst this; exact sj sk
  have dA1 : Dv n m (put1 (mix (Rc b c nx) t d) c (-1)) := put1_dv dA0 (by omega) (fun _ _ _ _ h => by omega)
  have dA : Dv n m (put1 (put1 (mix (Rc b c nx) t d) c (-1)) b (d c)) := put1_dv dA1 (hd.rg c hc) fun i hi hib e h0 => by
   by_cases hic : i = c
   ·subst hic; rw [put1_eq] at e; omega
   ·rw [put1_ne hic] at e
    by_cases si : Rc b c nx i
    ·rw [mix_in si] at e
     obtain ⟨k, hk, _, k1, k2, k3⟩ := back i si hib
     exact k1 (hd.inj k c hk hc (by omega) k2)
    ·rw [mix_out si] at e
     exact hic (hd.inj i c hi hc e (by omega))
  refine ⟨_, dA, by rw [put1_ne (fun e => hbc e.symm), put1_eq], ?_⟩
  have hB := hopt _ dB
  have e : wt n v (put1 (put1 (mix (Rc b c nx) t d) c (-1)) b (d c)) + wt n v (mix (Rc b c nx) d t) = wt n v t + wt n v d + v b (d c) + (- v c (d c)) := by
   refine sm_two hb hc hbc (fun i hi ib ic => ?_) ?_ ?_
   ·rw [put1_ne ib, put1_ne ic]
    by_cases si : Rc b c nx i
    ·rw [mix_in si, mix_in si]
    ·rw [mix_out si, mix_out si]; omega
   ·rw [put1_eq, mix_in Rc.base, htb, hz b]; omega
   ·rw [put1_ne (fun e => hbc e.symm), put1_eq, mix_out hcS, hz c]; omega
  omega
theorem ex_free {b : Nat} {l : Int} (hz : ∀ i, v i (-1) = 0) (hd : Dv n m d) (ht : Dv n m t) (hopt : ∀ u, Dv n m u → wt n v u ≤ wt n v d) (hb : b < n) (htb : t b = -1) (hl : 0 ≤ l ∧ l < m) (hfree : ∀ i, i < n → d i ≠ l) :
  wt n v t + v b l ≤ wt n v d := by
 let nx : Nat → Nat → Prop := fun i j => i < n ∧ j < n ∧ 0 ≤ d i ∧ t j = d i
 have back : ∀ i, Rc b n nx i → i ≠ b → ∃ j, j < n ∧ Rc b n nx j ∧ 0 ≤ d j ∧ t i = d j := fun i h hi => by
  cases h with
  | base => exact absurd rfl hi
  | step h1 h2 h3 => exact ⟨_, h3.1, h1, h3.2.2.1, h3.2.2.2⟩
 have dB : Dv n m (mix (Rc b n nx) d t) := mix_dv hd ht fun i j hi hj si sj e h0 => sj (Rc.step si (by omega) ⟨hi, hj, h0, e.symm⟩)
 have dA0 : Dv n m (mix (Rc b n nx) t d) := mix_dv ht hd fun i j hi hj si sj e h0 => by
  by_cases hi' : i = b
  ·subst hi'; omega
  ·obtain ⟨k, hk, sk, k2, k3⟩ := back i si hi'
   have := hd.inj k j hk hj (by omega) k2
   subst this; exact sj sk
 have dA : Dv n m (put1 (mix (Rc b n nx) t d) b l) := put1_dv dA0 (by omega) fun i hi hib e h0 => by
  by_cases si : Rc b n nx i
  ·rw [mix_in si] at e
   obtain ⟨k, hk, _, k2, k3⟩ := back i si hib
   exact hfree k hk (by omega)
  ·rw [mix_out si] at e
   exact hfree i hi e
 have hA := hopt _ dA
 have hB := hopt _ dB
 have e : wt n v (put1 (mix (Rc b n nx) t d) b l) + wt n v (mix (Rc b n nx) d t) = wt n v t + wt n v d + v b l := by
  refine sm_at hb (fun i hi ib => ?_) ?_
  ·rw [put1_ne ib]
   by_cases si : Rc b n nx i
   ·rw [mix_in si, mix_in si]
   ·rw [mix_out si, mix_out si]; omega
  ·rw [put1_eq, mix_in Rc.base, htb, hz b]; omega
 omega
theorem ex_lot {b : Nat} {l : Int} (hd : Dv n m d) (ht : Dv n m t) (hopt : ∀ u, Dv n m u → wt n v u ≤ wt n v d) (hb : b < n) (hl : 0 ≤ l ∧ l < m) (hav : ∀ i, i < n → t i ≠ l) (hbl : d b ≠ l) :
  ∃ A, Dv n m A ∧ (0 ≤ d b → ∀ i, i < n → A i ≠ d b) ∧ wt n v A ≥ wt n v t + v b l - v b (d b) := by
 by_cases hown : ∃ c, c < n ∧ d c = l
 ·obtain ⟨c, hc, hcl⟩ := hown
  have hbc : b ≠ c := fun e => hbl (by rw [e]; exact hcl)
  let nx : Nat → Nat → Prop := fun i j => i < n ∧ j < n ∧ 0 ≤ t i ∧ d j = t i
  have back : ∀ i, Rc c b nx i → i ≠ c → ∃ j, j < n ∧ Rc c b nx j ∧ j ≠ b ∧ 0 ≤ t j ∧ d i = t j := fun i h hi => by
   cases h with
   | base => exact absurd rfl hi
   | step h1 h2 h3 => exact ⟨_, h3.1, h1, h2, h3.2.2.1, h3.2.2.2⟩
  by_cases hbS : Rc c b nx b
  ·have key : ∀ i, Rc c b nx i → i < n := fun i h => by
    cases h with
    | base => exact hc
    | step _ _ h => exact h.2.1
   obtain ⟨k, hk, sk, k1, k2, k3⟩ := back b hbS hbc
   -- the others on the way as before, all the rest as in t
   have dA : Dv n m (mix (fun i => Rc c b nx i ∧ i ≠ b) d t) := mix_dv hd ht fun i j hi hj si sj e h0 => by
    by_cases hi' : i = c
    ·subst hi'; exact hav j hj (by omega)
    ·obtain ⟨q, hq, sq, q1, q2, q3⟩ := back i si.1 hi'
     have := ht.inj q j hq hj (by omega) q2
     subst this; exact sj ⟨sq, q1⟩
   have dB0 : Dv n m (mix (fun i => Rc c b nx i ∧ i ≠ b) t (put1 d b (-1))) := mix_dv ht (put1_dv hd (by omega) (fun _ _ _ _ h => by omega)) fun i j hi hj si sj e h0 => by
    by_cases hj' : j = b
    ·subst hj'; rw [put1_eq] at e; omega
    ·rw [put1_ne hj'] at e
     exact sj ⟨Rc.step si.1 si.2 ⟨hi, hj, h0, e.symm⟩, hj'⟩
   have dB : Dv n m (put1 (mix (fun i => Rc c b nx i ∧ i ≠ b) t (put1 d b (-1))) b l) := put1_dv dB0 (by omega) fun i hi hib e h0 => by
    by_cases si : Rc c b nx i ∧ i ≠ b
    ·rw [mix_in si] at e; exact hav i hi e
    ·rw [mix_out si, put1_ne hib] at e
     have := hd.inj i c hi hc (by omega) (by omega)
     subst this; exact si ⟨Rc.base, hib⟩
   refine ⟨_, dA, fun h0 i hi e => ?_, ?_⟩
   ·by_cases si : Rc c b nx i ∧ i ≠ b
    ·rw [mix_in si] at e
     exact si.2 (hd.inj i b hi hb e (by omega))
    ·rw [mix_out si] at e
     have := ht.inj i k hi hk (by omega) (by omega)
     subst this; exact si ⟨sk, k1⟩
   have hB := hopt _ dB
   have e : wt n v (mix (fun i => Rc c b nx i ∧ i ≠ b) d t) + wt n v (put1 (mix (fun i => Rc c b nx i ∧ i ≠ b) t (put1 d b (-1))) b l) = wt n v t + wt n v d + (v b l - v b (d b)) := by
    refine sm_at hb (fun i hi ib => ?_) ?_
    ·rw [put1_ne ib]
     by_cases si : Rc c b nx i ∧ i ≠ b
     ·rw [mix_in si, mix_in si]; omega
     ·rw [mix_out si, mix_out si, put1_ne ib]
    ·rw [put1_eq, mix_out (fun h => h.2 rfl)]; omega
   omega
  ·have dB : Dv n m (mix (Rc c b nx) d t) := mix_dv hd ht fun i j hi hj si sj e h0 => by
    by_cases hi' : i = c
    ·subst hi'; exact hav j hj (by omega)
    ·obtain ⟨q, hq, sq, q1, q2, q3⟩ := back i si hi'
     have := ht.inj q j hq hj (by omega) q2
     subst this; exact sj sq
   have dA0 : Dv n m (mix (Rc c b nx) t d) := mix_dv ht hd fun i j hi hj si sj e h0 => by
    by_cases hi' : i = b
    ·subst hi'; exact hbS si
    ·exact sj (Rc.step si hi' ⟨hi, hj, h0, e.symm⟩)
   have dA : Dv n m (put1 (mix (Rc c b nx) t d) b l) := put1_dv dA0 (by omega) fun i hi hib e h0 => by
    by_cases si : Rc c b nx i
    ·rw [mix_in si] at e; exact hav i hi e
    ·rw [mix_out si] at e
     have := hd.inj i c hi hc (by omega) (by omega)
     subst this; exact si Rc.base
   refine ⟨_, dA, fun h0 i hi e => ?_, ?_⟩
   ·by_cases hib : i = b
    ·subst hib; rw [put1_eq] at e; exact hbl e.symm
    ·rw [put1_ne hib] at e
     by_cases si : Rc c b nx i
     ·rw [mix_in si] at e
      exact hbS (Rc.step si hib ⟨hi, hb, by omega, e.symm⟩)
     ·rw [mix_out si] at e
      exact hib (hd.inj i b hi hb e (by omega))
   have hB := hopt _ dB
   have e : wt n v (put1 (mix (Rc c b nx) t d) b l) + wt n v (mix (Rc c b nx) d t) = wt n v t + wt n v d + (v b l - v b (d b)) := by
    refine sm_at hb (fun i hi ib => ?_) ?_
    ·rw [put1_ne ib]
     by_cases si : Rc c b nx i
     ·rw [mix_in si, mix_in si]
     ·rw [mix_out si, mix_out si]; omega
    ·rw [put1_eq, mix_out hbS]; omega
   omega
 ·have hown : ∀ i, i < n → d i ≠ l := fun i hi e => hown ⟨i, hi, e⟩
  refine ⟨put1 d b l, put1_dv hd (by omega) (fun i hi _ e _ => hown i hi e), fun h0 i hi e => ?_, ?_⟩
  ·by_cases hib : i = b
   ·subst hib; rw [put1_eq] at e; exact hbl e.symm
   ·rw [put1_ne hib] at e
    exact hib (hd.inj i b hi hb e (by omega))
  have ht' := hopt _ ht
  have e : wt n v (put1 d b l) + wt n v t = wt n v t + wt n v d + (v b l - v b (d b)) := by
   refine sm_at hb (fun i hi ib => ?_) ?_
   ·rw [put1_ne ib]; omega
   ·rw [put1_eq]; omega
  omega
end

def pr (p : List Int) (x : Int) : Int := if x < 0 then 0 else (p[x.toNat]?).getD 0
theorem pr_neg {p : List Int} : pr p (-1) = 0 := rfl
theorem pr_nat {p : List Int} {l : Nat} (h : l < p.length) : pr p (l : Int) = p[l] := by
 unfold pr; rw [if_neg (by omega), Int.toNat_natCast, List.getElem?_eq_getElem h, Option.getD_some]
noncomputable def cif (P : Prop) (x : Int) : Int := by
 classical
 exact if P then x else 0
theorem cif_pos {P : Prop} {x : Int} (h : P) : cif P x = x := by unfold cif; rw [if_pos h]
theorem cif_neg {P : Prop} {x : Int} (h : ¬ P) : cif P x = 0 := by unfold cif; rw [if_neg h]
theorem sm_lots {m : Nat} {p : List Int} {S : Nat → Prop} {t : Nat → Int} : ∀ (n : Nat), Dv n m t → sm n (fun i => cif (S i) (pr p (t i))) = sm m (fun l => cif (∃ i, i < n ∧ S i ∧ t i = (l : Int)) (pr p l)) := by
 intro n
 induction n with
 | zero =>
  intro _
  have : ∀ k : Nat, sm k (fun l => cif (∃ i, i < 0 ∧ S i ∧ t i = (l : Int)) (pr p l)) = 0 := fun k => by
   induction k with
   | zero => rfl
   | succ k ih =>
    rw [sm, ih, cif_neg]
    ·rfl
    ·rintro ⟨i, hi, _⟩; omega
  exact (this m).symm
 | succ n ih =>
  intro h
  have hr := h.rg n (by omega)
  rw [sm, ih ⟨fun i hi => h.rg i (by omega), fun i j hi hj => h.inj i j (by omega) (by omega)⟩]
  by_cases hs : S n ∧ 0 ≤ t n
  ·obtain ⟨x, hx⟩ : ∃ x : Nat, t n = x := ⟨(t n).toNat, by omega⟩
   rw [cif_pos hs.1, hx]
   rw [← sm_one (n := m) (b := x) (c := pr p (x : Int)) (by omega), ← sm_add]
   refine sm_congr fun l hl => ?_
   by_cases hlx : l = x
   ·subst hlx
    rw [if_pos rfl, cif_neg, cif_pos ⟨n, by omega, hs.1, hx⟩]
    ·omega
    ·rintro ⟨i, hi, _, e⟩
     have := h.inj i n (by omega) (by omega) (by omega) (by omega)
     omega
   ·rw [if_neg hlx, Int.add_zero]
    by_cases hex : ∃ i, i < n ∧ S i ∧ t i = (l : Int)
    ·obtain ⟨i, h1, h2, h3⟩ := hex
     rw [cif_pos ⟨i, h1, h2, h3⟩, cif_pos ⟨i, by omega, h2, h3⟩]
    ·rw [cif_neg hex, cif_neg]
     rintro ⟨i, h1, h2, h3⟩
     by_cases hin : i = n
     ·subst hin; omega
     ·exact hex ⟨i, by omega, h2, h3⟩
  ·have e0 : cif (S n) (pr p (t n)) = 0 := by
    by_cases h1 : S n
    ·have : t n = -1 := by
      have : ¬ 0 ≤ t n := fun h2 => hs ⟨h1, h2⟩
      omega
     rw [cif_pos h1, this, pr_neg]
    ·rw [cif_neg h1]
   rw [e0, Int.add_zero]
   refine sm_congr fun l hl => ?_
   by_cases hex : ∃ i, i < n ∧ S i ∧ t i = (l : Int)
   ·obtain ⟨i, h1, h2, h3⟩ := hex
    rw [cif_pos ⟨i, h1, h2, h3⟩, cif_pos ⟨i, by omega, h2, h3⟩]
   ·rw [cif_neg hex, cif_neg]
    rintro ⟨i, h1, h2, h3⟩
    by_cases hin : i = n
    ·subst hin; exact hs ⟨h2, by omega⟩
    ·exact hex ⟨i, by omega, h2, h3⟩
structure Fp (n m : Nat) (v : Nat → Int → Int) (p : List Int) (d : Nat → Int) : Prop where
 len : p.length = m
 nn : ∀ l : Nat, l < m → 0 ≤ pr p l
 own : ∀ i, i < n → 0 ≤ v i (d i) - pr p (d i)
 best : ∀ i, i < n → ∀ l : Nat, l < m → v i l - pr p l ≤ v i (d i) - pr p (d i)
 free : ∀ l : Nat, l < m → (∀ i, i < n → d i ≠ l) → pr p l = 0
section
variable {n m : Nat} {v : Nat → Int → Int} {d t : Nat → Int} {p : List Int}
theorem sm_sold (hd : Dv n m d) (hfree : ∀ l : Nat, l < m → (∀ i, i < n → d i ≠ l) → pr p l = 0) : sm n (fun i => pr p (d i)) = sm m (fun l => pr p l) := by
 have e := sm_lots (p := p) (S := fun _ => True) n hd
 simp only [cif_pos trivial] at e
 rw [e]
 refine sm_congr fun l hl => ?_
 by_cases hex : ∃ i, i < n ∧ True ∧ d i = (l : Int)
 ·rw [cif_pos hex]
 ·rw [cif_neg hex, hfree l hl fun i hi e => hex ⟨i, hi, trivial, e⟩]
theorem sm_some (ht : Dv n m t) (hp : ∀ l : Nat, l < m → 0 ≤ pr p l) : sm n (fun i => pr p (t i)) ≤ sm m (fun l => pr p l) := by
 have e := sm_lots (p := p) (S := fun _ => True) n ht
 simp only [cif_pos trivial] at e
 rw [e]
 refine sm_le fun l hl => ?_
 by_cases hex : ∃ i, i < n ∧ True ∧ t i = (l : Int)
 ·rw [cif_pos hex]; exact Int.le_refl _
 ·rw [cif_neg hex]; exact hp l hl
theorem sm_sub {n : Nat} {f g : Nat → Int} : sm n (fun i => f i - g i) = sm n f - sm n g := by
 induction n with
 | zero => rfl
 | succ n ih => rw [sm, sm, sm, ih]; omega
theorem Fp.opts (h : Fp n m v p d) (hz : ∀ i, v i (-1) = 0) {i : Nat} (hi : i < n) {x : Int} (hx : -1 ≤ x ∧ x < m) : v i x - pr p x ≤ v i (d i) - pr p (d i) := by
 by_cases h0 : x < 0
 ·rw [show x = -1 by omega, hz, pr_neg]; exact h.own i hi
 ·have := h.best i hi x.toNat (by omega)
  rwa [show ((x.toNat : Nat) : Int) = x by omega] at this
theorem Fp.opt (h : Fp n m v p d) (hd : Dv n m d) (hz : ∀ i, v i (-1) = 0) (ht : Dv n m t) : wt n v t ≤ wt n v d := by
 have h1 : sm n (fun i => v i (t i) - pr p (t i)) ≤ sm n (fun i => v i (d i) - pr p (d i)) := sm_le fun i hi => h.opts hz hi (ht.rg i hi)
 rw [sm_sub, sm_sub, sm_sold hd h.free] at h1
 have h2 := sm_some ht h.nn
 show sm n (fun i => v i (t i)) ≤ sm n (fun i => v i (d i))
 omega
theorem sm_eq_of {n : Nat} {f g : Nat → Int} (h : ∀ i, i < n → f i ≤ g i) (e : sm n g ≤ sm n f) : ∀ i, i < n → f i = g i := by
 induction n with
 | zero => intro i hi; omega
 | succ n ih =>
  have h1 := sm_le (n := n) fun i hi => h i (by omega)
  have h2 := h n (by omega)
  rw [sm, sm] at e
  intro i hi
  by_cases hin : i = n
  ·subst hin; omega
  ·exact ih (fun i hi => h i (by omega)) (by omega) i (by omega)
theorem Fp.other (h : Fp n m v p d) (hd : Dv n m d) (hz : ∀ i, v i (-1) = 0) (ht : Dv n m t) (e : wt n v d ≤ wt n v t) : Fp n m v p t := by
 have h1 : ∀ i, i < n → v i (t i) - pr p (t i) ≤ v i (d i) - pr p (d i) := fun i hi => h.opts hz hi (ht.rg i hi)
 have h2 := sm_some ht h.nn
 have h3 := sm_sold hd h.free
 have e : sm n (fun i => v i (d i)) ≤ sm n (fun i => v i (t i)) := e
 have h4 := sm_eq_of h1 (by rw [sm_sub, sm_sub]; omega)
 have h5 : sm n (fun i => v i (t i) - pr p (t i)) = sm n (fun i => v i (d i) - pr p (d i)) := sm_congr h4
 rw [sm_sub, sm_sub] at h5
 refine ⟨h.len, h.nn, fun i hi => by rw [h4 i hi]; exact h.own i hi, fun i hi l hl => by rw [h4 i hi]; exact h.best i hi l hl, fun l hl hf => ?_⟩
 -- a lot that nobody gets costs nothing
 have q := sm_lots (p := p) (S := fun _ => True) n ht
 simp only [cif_pos trivial] at q
 have q2 := h.opt hd hz ht
 have q2 : sm n (fun i => v i (t i)) ≤ sm n (fun i => v i (d i)) := q2
 have q3 : sm n (fun i => pr p (t i)) = sm m (fun l => pr p l) := by omega
 rw [q] at q3
 have := sm_eq_of (n := m) (f := fun l => cif (∃ i, i < n ∧ True ∧ t i = (l : Int)) (pr p l)) (g := fun l => pr p (l : Int)) (fun l hl => by
  by_cases hex : ∃ i, i < n ∧ True ∧ t i = (l : Int)
  ·rw [cif_pos hex]; exact Int.le_refl _
  ·rw [cif_neg hex]; exact h.nn l hl) (by rw [q3]; exact Int.le_refl _) l hl

 rw [cif_neg] at this
 ·exact this.symm
 ·rintro ⟨i, hi, _, e⟩; exact hf i hi e
end
end
section
theorem mem_cand_of {m L : Nat} {x : Int} (h : -1 ≤ x ∧ x < m) (hb : 0 ≤ x → L.testBit x.toNat = true) : x ∈ cand m L true := by
 unfold cand
 by_cases h0 : x < 0
 ·rw [show x = -1 by omega]; simp
 ·simp only [if_true, List.mem_cons, List.mem_map, List.mem_filter, List.mem_range]
  exact .inr ⟨x.toNat, ⟨by omega, hb (by omega)⟩, by omega⟩
theorem dx_bit {L : Nat} (hL : L < 32) {x : Int} (hx : x < 5) {j : Nat} (hj : j < 5) : (dx L x).testBit j = (L.testBit j && decide ((j : Int) ≠ x)) := by
 unfold dx
 by_cases h0 : x < 0
 ·rw [if_pos h0, decide_eq_true (by omega), Bool.and_true]
 ·obtain ⟨l, rfl⟩ : ∃ l : Nat, x = l := ⟨x.toNat, by omega⟩
  rw [if_neg h0, Int.toNat_natCast, (look_L hL (by omega)).2.2.2 j hj]
  congr 1
  by_cases e : j = l
  ·subst e; simp
  ·rw [decide_eq_true (by omega)]; simpa using e
theorem mem_ds_iff {m : Nat} (hm : m ≤ 5) : ∀ (k i L : Nat) (l : List Int), L < 32 → (l ∈ ds m (-1) k i L ↔ l.length = k ∧ (∀ x ∈ l, -1 ≤ x ∧ x < m ∧ (0 ≤ x → L.testBit x.toNat = true)) ∧ l.Pairwise (fun a b => 0 ≤ a → a ≠ b))
 | 0, i, L, l, _ => by
  simp only [ds, List.mem_singleton]
  constructor
  ·rintro rfl; exact ⟨rfl, by simp, List.Pairwise.nil⟩
  ·rintro ⟨h, _, _⟩; exact List.eq_nil_of_length_eq_zero h
 | k + 1, i, L, l, hL => by
  have hi : decide ((i : Int) ≠ -1) = true := by simp <;> omega
  simp only [ds, hi]
  constructor
  ·intro h
   obtain ⟨x, hx, h⟩ := List.mem_flatMap.1 h
   obtain ⟨u, hu, rfl⟩ := List.mem_map.1 h
   obtain ⟨h1, h2, h3⟩ := (mem_ds_iff hm k (i + 1) (dx L x) u (dx_lt hm hL hx)).1 hu
   have hxr : -1 ≤ x ∧ x < m ∧ (0 ≤ x → L.testBit x.toNat = true) := by
    rcases mem_cand hx with rfl | ⟨j, rfl, h1, h2⟩
    ·exact ⟨by omega, by omega, fun h => by omega⟩
    ·exact ⟨by omega, by omega, fun _ => by rw [Int.toNat_natCast]; exact h2⟩
   refine ⟨by simp [h1], fun y hy => ?_, List.Pairwise.cons (fun y hy h0 e => ?_) h3⟩
   ·rcases List.mem_cons.1 hy with rfl | hy
    ·exact hxr
    ·have := h2 y hy
     refine ⟨this.1, this.2.1, fun h0 => ?_⟩
     have hb := this.2.2 h0
     rw [dx_bit hL (by omega) (by omega)] at hb
     simp only [Bool.and_eq_true] at hb
     exact hb.1
   ·have := h2 y hy
    have hb := this.2.2 (by omega)
    rw [dx_bit hL (by omega) (by omega)] at hb
    simp only [Bool.and_eq_true, decide_eq_true_eq] at hb
    exact hb.2 (by omega)
  ·rintro ⟨h1, h2, h3⟩
   match l, h1, h2, h3 with
   | x :: u, h1, h2, h3 =>
    have hx := h2 x (by simp)
    have hxc := mem_cand_of ⟨hx.1, hx.2.1⟩ hx.2.2
    refine List.mem_flatMap.2 ⟨x, hxc, List.mem_map.2 ⟨u, (mem_ds_iff hm k (i + 1) (dx L x) u (dx_lt hm hL hxc)).2 ⟨by simpa using h1, fun y hy => ?_, (List.pairwise_cons.1 h3).2⟩, rfl⟩⟩
    have hy2 := h2 y (by simp [hy])
    refine ⟨hy2.1, hy2.2.1, fun h0 => ?_⟩
    rw [dx_bit hL (by omega) (by omega), hy2.2.2 h0, Bool.true_and]
    refine decide_eq_true fun e => ?_
    exact (List.pairwise_cons.1 h3).1 y hy (by omega) (by omega)
def fl (l : List Int) : Nat → Int := fun i => l[i]?.getD (-1)
theorem fl_get {l : List Int} {i : Nat} (h : i < l.length) : fl l i = l[i] := by unfold fl; rw [List.getElem?_eq_getElem h, Option.getD_some]
theorem fl_map {n i : Nat} {t : Nat → Int} (h : i < n) : fl ((List.range n).map t) i = t i := by
 rw [fl_get (by simpa using h)]; simp
theorem ds_dv {m n L : Nat} (hm : m ≤ 5) (hL : L < 32) {l : List Int} (h : l ∈ ds m (-1) n 0 L) : Dv n m (fl l) ∧ ∀ i, i < n → 0 ≤ fl l i → L.testBit (fl l i).toNat = true := by
 obtain ⟨h1, h2, h3⟩ := (mem_ds_iff hm n 0 L l hL).1 h
 have hr : ∀ i, i < n → fl l i ∈ l := fun i hi => by rw [fl_get (by omega)]; exact List.getElem_mem _
 refine ⟨⟨fun i hi => ⟨(h2 _ (hr i hi)).1, (h2 _ (hr i hi)).2.1⟩, fun i j hi hj e h0 => ?_⟩, fun i hi h0 => (h2 _ (hr i hi)).2.2 h0⟩
 rw [List.pairwise_iff_getElem] at h3
 rw [fl_get (by omega), fl_get (by omega)] at e
 rw [fl_get (by omega)] at h0
 by_cases hij : i < j
 ·exact absurd e (h3 i j (by omega) (by omega) hij h0)
 ·by_cases hji : j < i
  ·exact absurd e.symm (h3 j i (by omega) (by omega) hji (by omega))
  ·omega
theorem dv_ds {m n L : Nat} (hm : m ≤ 5) (hL : L < 32) {t : Nat → Int} (h : Dv n m t) (hb : ∀ i, i < n → 0 ≤ t i → L.testBit (t i).toNat = true) : (List.range n).map t ∈ ds m (-1) n 0 L := by
 refine (mem_ds_iff hm n 0 L _ hL).2 ⟨by simp, fun x hx => ?_, ?_⟩
 ·obtain ⟨i, hi, rfl⟩ := List.mem_map.1 hx
  have hi := List.mem_range.1 hi
  exact ⟨(h.rg i hi).1, (h.rg i hi).2, hb i hi⟩
 ·rw [List.pairwise_iff_getElem]
  intro i j hi hj hij h0 e
  have hi' : i < n := by simpa using hi
  have hj' : j < n := by simpa using hj
  rw [List.getElem_map, List.getElem_range] at h0 e
  rw [List.getElem_map, List.getElem_range] at e
  have := h.inj i j hi' hj' e h0
  omega
theorem sm_front (n : Nat) (f : Nat → Int) : sm (n + 1) f = f 0 + sm n (fun i => f (i + 1)) := by
 induction n with
 | zero => simp [sm]
 | succ n ih => rw [sm, ih, sm]; omega
def va (s : List (List Int)) (i : Nat) (x : Int) : Int := vl (s[i]?.getD []) x
theorem va_none (s : List (List Int)) (i : Nat) : va s i (-1) = 0 := rfl
theorem wv_wt : ∀ (s : List (List Int)) (l : List Int), l.length = s.length → wv s l = wt s.length (va s) (fl l)
 | [], l, h => by cases l <;> rfl
 | r :: rs, [], h => by simp at h
 | r :: rs, x :: xs, h => by
  rw [wv, wv_wt rs xs (by simpa using h)]
  show _ = sm (rs.length + 1) _
  rw [sm_front]
  rfl
theorem all_lt {m : Nat} (hm : m ≤ 5) : all_ m < 32 := (f69_eq (F := 0) (M := []) (s := []) hm).2
section
variable {m : Nat} {s : List (List Int)} (hv : Vs m s)
include hv
theorem moL_top {L : Nat} (hL : L < 32) : (∀ t, Dv s.length m t → (∀ i, i < s.length → 0 ≤ t i → L.testBit (t i).toNat = true) → wt s.length (va s) t ≤ (mo m (-1) s 0 L).1) ∧
  ∃ t, Dv s.length m t ∧ (∀ i, i < s.length → 0 ≤ t i → L.testBit (t i).toNat = true) ∧ wt s.length (va s) t = (mo m (-1) s 0 L).1 := by
 have e := mo_ds (-1) s 0 L hv.ok
 obtain ⟨q1, q2, _⟩ := mxc_max ((ds m (-1) s.length 0 L).map (wv s)) (fun w hw => by obtain ⟨t, _, rfl⟩ := List.mem_map.1 hw; exact wv_nn s t hv.ok)
 rw [← e] at q1 q2
 constructor
 ·intro t ht hb
  have := q1 _ (List.mem_map.2 ⟨_, dv_ds hv.m5 hL ht hb, rfl⟩)
  rw [wv_wt s _ (by simp)] at this
  rw [show wt s.length (va s) t = wt s.length (va s) (fl ((List.range s.length).map t)) from sm_congr fun i hi => by rw [fl_map hi]]
  exact this
 ·obtain ⟨t, ht, h⟩ := List.mem_map.1 (q2 (by simp [ds_ne]))
  obtain ⟨h1, h2⟩ := ds_dv hv.m5 hL ht
  refine ⟨fl t, h1, h2, ?_⟩
  rw [← wv_wt s t (ds_range _ _ _ _ ht).1]
  exact h
theorem bit_all {t : Nat → Int} (ht : Dv s.length m t) : ∀ i, i < s.length → 0 ≤ t i → (all_ m).testBit (t i).toNat = true := fun i hi h0 => by
 have _ := hv
 have := ht.rg i hi
 rw [all_bit]; exact decide_eq_true (by omega)
theorem best_dv : Dv s.length m (lot m s) := (ds_dv hv.m5 (all_lt hv.m5) (best_mem hv).1).1
theorem best_wt : wt s.length (va s) (lot m s) = W m s (-1) := by
 rw [← best_W hv, wv_wt s _ (best_len hv).1]
 rfl
theorem best_opt {u : Nat → Int} (h : Dv s.length m u) : wt s.length (va s) u ≤ wt s.length (va s) (lot m s) := by
 rw [best_wt hv]
 exact (moL_top hv (all_lt hv.m5)).1 u h (bit_all hv h)
theorem W_le {b : Nat} (hb : b < s.length) {t : Nat → Int} (ht : Dv s.length m t) (h : t b = -1) : wt s.length (va s) t ≤ W m s b := by
 have h1 := (W_top hv b).1 _ (dv_ds hv.m5 (all_lt hv.m5) ht (bit_all hv ht))
 have h2 := wB_split (b := b) s ((List.range s.length).map t) 0 (by simp) (by omega) (by omega)
 have e : ((List.range s.length).map t)[b - 0]?.getD (-1) = -1 := by
  rw [Nat.sub_zero, show ((List.range s.length).map t)[b]?.getD (-1) = fl ((List.range s.length).map t) b from rfl, fl_map hb, h]
 rw [e, wv_wt s _ (by simp), show vl (s[b - 0]?.getD []) (-1) = 0 from rfl] at h2
 rw [show wt s.length (va s) t = wt s.length (va s) (fl ((List.range s.length).map t)) from sm_congr fun i hi => by rw [fl_map hi]]
 omega
theorem W_ex {b : Nat} (hb : b < s.length) : ∃ t, Dv s.length m t ∧ t b = -1 ∧ wt s.length (va s) t = W m s b := by
 obtain ⟨t, h1, h2⟩ := (W_top hv b).2
 have hd := (ds_dv hv.m5 (all_lt hv.m5) h1).1
 refine ⟨put1 (fl t) b (-1), put1_dv hd (by omega) (fun _ _ _ _ h => by omega), put1_eq, ?_⟩
 have h3 := wB_split (b := b) s t 0 (ds_range _ _ _ _ h1).1 (by omega) (by omega)
 rw [wv_wt s t (ds_range _ _ _ _ h1).1, Nat.sub_zero, h2] at h3
 have e : wt s.length (va s) (put1 (fl t) b (-1)) + sm s.length (fun _ => 0) = wt s.length (va s) (fl t) + sm s.length (fun _ => 0) + (- va s b (fl t b)) := by
  refine sm_at hb (fun i hi ib => ?_) ?_
  ·rw [put1_ne ib]
  ·rw [put1_eq, va_none]; omega
 have e2 : vl (s[b]?.getD []) (t[b]?.getD (-1)) = va s b (fl t b) := rfl
 rw [e2] at h3
 omega
theorem pay_none {b : Nat} (hb : b < s.length) (h : lot m s b = -1) : pay m s b = 0 := by
 have := pay_bd hv hb
 rw [h, show vl (s[b]?.getD []) (-1) = 0 from rfl] at this
 omega
end
def ow (n : Nat) (d : Nat → Int) (l : Nat) : Option Nat := (List.range n).find? fun b => d b == (l : Int)
theorem ow_some {n m l b : Nat} {d : Nat → Int} (hd : Dv n m d) (hb : b < n) (h : d b = (l : Int)) : ow n d l = some b := by
 unfold ow
 cases hf : (List.range n).find? fun b => d b == (l : Int) with
 | some c =>
  have h1 := List.find?_some hf
  have h2 := List.mem_range.1 (List.mem_of_find?_eq_some hf)
  simp only [beq_iff_eq] at h1
  rw [hd.inj c b h2 hb (by omega) (by omega)]
 | none =>
  have := List.find?_eq_none.1 hf b (List.mem_range.2 hb)
  simp [h] at this
theorem ow_none {n l : Nat} {d : Nat → Int} (h : ∀ b, b < n → d b ≠ (l : Int)) : ow n d l = none := by
 unfold ow
 rw [List.find?_eq_none]
 intro b hb
 simpa using h b (List.mem_range.1 hb)
def lowP (m : Nat) (s : List (List Int)) : List Int := (List.range m).map fun l => match ow s.length (lot m s) l with | some b => pay m s b | none => 0
def Vx (m : Nat) (s : List (List Int)) (l : Nat) : Int := (mo m (-1) s 0 (dl (all_ m) l)).1
def highP (m : Nat) (s : List (List Int)) : List Int := (List.range m).map fun l => W m s (-1) - Vx m s l
theorem lowP_len {m : Nat} {s : List (List Int)} : (lowP m s).length = m := by simp [lowP]
theorem highP_len {m : Nat} {s : List (List Int)} : (highP m s).length = m := by simp [highP]
theorem lowP_pr {m l : Nat} {s : List (List Int)} (hl : l < m) : pr (lowP m s) l = match ow s.length (lot m s) l with | some b => pay m s b | none => 0 := by
 rw [pr_nat (by rw [lowP_len]; exact hl)]; unfold lowP; simp
theorem highP_pr {m l : Nat} {s : List (List Int)} (hl : l < m) : pr (highP m s) l = W m s (-1) - Vx m s l := by
 rw [pr_nat (by rw [highP_len]; exact hl)]; unfold highP; simp
section
variable {m : Nat} {s : List (List Int)} (hv : Vs m s)
include hv
theorem lowP_own {b l : Nat} (hb : b < s.length) (hl : l < m) (h : lot m s b = (l : Int)) : pr (lowP m s) l = pay m s b := by
 rw [lowP_pr hl, ow_some (best_dv hv) hb h]
theorem lowP_free {l : Nat} (hl : l < m) (h : ∀ b, b < s.length → lot m s b ≠ (l : Int)) : pr (lowP m s) l = 0 := by
 have _ := hv
 rw [lowP_pr hl, ow_none h]
theorem lowP_at {b : Nat} (hb : b < s.length) : pr (lowP m s) (lot m s b) = pay m s b := by
 have hr := (best_dv hv).rg b hb
 by_cases h0 : lot m s b < 0
 ·have e : lot m s b = -1 := by omega
  rw [e, pr_neg, pay_none hv hb e]
 ·obtain ⟨l, hl⟩ : ∃ l : Nat, lot m s b = l := ⟨(lot m s b).toNat, by omega⟩
  rw [hl, lowP_own hv hb (by omega) hl]
theorem own_or {l : Nat} : (∃ b, b < s.length ∧ lot m s b = (l : Int)) ∨ ∀ b, b < s.length → lot m s b ≠ (l : Int) := by
 have _ := hv
 by_cases h : ∃ b, b < s.length ∧ lot m s b = (l : Int)
 ·exact .inl h
 ·exact .inr fun b hb e => h ⟨b, hb, e⟩
theorem pay_W {b : Nat} : pay m s b = W m s b - (W m s (-1) - va s b (lot m s b)) := by
 have _ := hv
 exact rfl
theorem lowP_fair : Fp s.length m (va s) (lowP m s) (lot m s) := by
 have hd := best_dv hv
 refine ⟨lowP_len, fun l hl => ?_, fun i hi => ?_, fun i hi l hl => ?_, fun l hl h => lowP_free hv hl h⟩
 ·rcases own_or hv (l := l) with ⟨b, hb, e⟩ | h
  ·rw [lowP_own hv hb hl e]; exact (pay_bd hv hb).1
  ·rw [lowP_free hv hl h]; exact Int.le_refl _
 ·rw [lowP_at hv hi]
  have := (pay_bd hv hi).2
  have e : vl (s[i]?.getD []) (lot m s i) = va s i (lot m s i) := rfl
  omega
 ·rw [lowP_at hv hi]
  have hpi := pay_W hv (b := i)
  rcases own_or hv (l := l) with ⟨c, hc, e⟩ | h
  ·rw [lowP_own hv hc hl e]
   by_cases hic : i = c
   ·subst hic; rw [e]; exact Int.le_refl _
   ·obtain ⟨t, t1, t2, t3⟩ := W_ex hv hi
    obtain ⟨A, a1, a2, a3⟩ := ex_own (v := va s) (va_none s) hd t1 (fun u hu => best_opt hv hu) hi hc hic t2 (by omega)
    have := W_le hv hc a1 a2
    have hpc := pay_W hv (b := c)
    rw [e] at a3 hpc
    omega
  ·rw [lowP_free hv hl h]
   obtain ⟨t, t1, t2, t3⟩ := W_ex hv hi
   have := ex_free (v := va s) (l := (l : Int)) (va_none s) hd t1 (fun u hu => best_opt hv hu) hi t2 (by omega) h
   rw [best_wt hv] at this
   omega
theorem lowP_least {p : List Int} (hp : Fp s.length m (va s) p (lot m s)) {l : Nat} (hl : l < m) : pr (lowP m s) l ≤ pr p l := by
 have hd := best_dv hv
 rcases own_or hv (l := l) with ⟨b, hb, e⟩ | h
 ·rw [lowP_own hv hb hl e]
  obtain ⟨t, t1, t2, t3⟩ := W_ex hv hb
  have h1 : sm s.length (fun i => va s i (t i) - pr p (t i)) ≤ sm s.length (fun i => (va s i (lot m s i) - pr p (lot m s i)) + (if i = b then - (va s b (lot m s b) - pr p (lot m s b)) else 0)) := sm_le fun i hi => by
   by_cases hib : i = b
   ·subst hib; rw [if_pos rfl, t2, va_none, pr_neg]; omega
   ·rw [if_neg hib, Int.add_zero]; exact hp.opts (va_none s) hi (t1.rg i hi)
  rw [sm_add, sm_one hb, sm_sub, sm_sub, sm_sold hd hp.free] at h1
  have h2 := sm_some t1 hp.nn
  have h3 := best_wt hv
  have h3 : sm s.length (fun i => va s i (lot m s i)) = W m s (-1) := h3
  have t3 : sm s.length (fun i => va s i (t i)) = W m s b := t3
  have h4 := pay_W hv (b := b)
  rw [e] at h1 h4
  omega
 ·rw [lowP_free hv hl h]; exact hp.nn l hl
theorem Vx_le {l : Nat} (hl : l < m) {t : Nat → Int} (ht : Dv s.length m t) (h : ∀ i, i < s.length → t i ≠ (l : Int)) : wt s.length (va s) t ≤ Vx m s l := by
 have hm := hv.m5
 obtain ⟨_, _, a3, a4⟩ := look_L (all_lt hm) (show l < 5 by omega)
 refine (moL_top hv a3).1 t ht fun i hi h0 => ?_
 have := ht.rg i hi
 have hne := h i hi
 rw [a4 _ (by omega), all_bit, decide_eq_true (by omega), Bool.true_and]
 simp; omega
theorem Vx_ex {l : Nat} (hl : l < m) : ∃ t, Dv s.length m t ∧ (∀ i, i < s.length → t i ≠ (l : Int)) ∧ wt s.length (va s) t = Vx m s l := by
 have hm := hv.m5
 obtain ⟨_, _, a3, a4⟩ := look_L (all_lt hm) (show l < 5 by omega)
 obtain ⟨t, t1, t2, t3⟩ := (moL_top hv a3).2
 refine ⟨t, t1, fun i hi e => ?_, t3⟩
 have := t2 i hi (by omega)
 rw [e, Int.toNat_natCast, a4 l (by omega)] at this
 simp at this
theorem highP_fair : Fp s.length m (va s) (highP m s) (lot m s) := by
 have hd := best_dv hv
 have hW := best_wt hv
 have nn : ∀ l : Nat, l < m → 0 ≤ pr (highP m s) l := fun l hl => by
  obtain ⟨t, t1, _, t3⟩ := Vx_ex hv hl
  have := best_opt hv t1
  rw [highP_pr hl]; omega
 refine ⟨highP_len, nn, fun i hi => ?_, fun i hi l hl => ?_, fun l hl h => ?_⟩
 ·have hr := hd.rg i hi
  by_cases h0 : lot m s i < 0
  ·rw [show lot m s i = -1 by omega]; exact Int.le_refl _
  ·obtain ⟨l, hl⟩ : ∃ l : Nat, lot m s i = l := ⟨(lot m s i).toNat, by omega⟩
   have hu : Dv s.length m (put1 (lot m s) i (-1)) := put1_dv hd (by omega) (fun _ _ _ _ h => by omega)
   have := Vx_le hv (l := l) (by omega) hu fun j hj e => by
    by_cases hji : j = i
    ·subst hji; rw [put1_eq] at e; omega
    ·rw [put1_ne hji] at e; exact hji (hd.inj j i hj hi (by omega) (by omega))
   have e : wt s.length (va s) (put1 (lot m s) i (-1)) + sm s.length (fun _ => 0) = wt s.length (va s) (lot m s) + sm s.length (fun _ => 0) + (- va s i (lot m s i)) := by
    refine sm_at hi (fun j hj ij => ?_) ?_
    ·rw [put1_ne ij]
    ·rw [put1_eq, va_none]; omega
   rw [hl] at e ⊢
   rw [highP_pr (by omega)]
   omega
 ·by_cases hil : lot m s i = (l : Int)
  ·rw [hil]; exact Int.le_refl _
  ·obtain ⟨t, t1, t2, t3⟩ := Vx_ex hv hl
   obtain ⟨A, a1, a2, a3⟩ := ex_lot (v := va s) (l := (l : Int)) hd t1 (fun u hu => best_opt hv hu) hi (by omega) t2 hil
   have hr := hd.rg i hi
   rw [highP_pr hl]
   by_cases h0 : lot m s i < 0
   ·rw [show lot m s i = -1 by omega, va_none, pr_neg]
    rw [show lot m s i = -1 by omega, va_none] at a3
    have := best_opt hv a1
    omega
   ·obtain ⟨x, hx⟩ : ∃ x : Nat, lot m s i = x := ⟨(lot m s i).toNat, by omega⟩
    have := Vx_le hv (l := x) (by omega) a1 (fun j hj => by rw [← hx]; exact a2 (by omega) j hj)
    rw [hx] at a3 ⊢
    rw [highP_pr (by omega)]
    omega
 ·have h1 := nn l hl
  have h2 := Vx_le hv hl hd h
  rw [highP_pr hl] at h1 ⊢
  omega
theorem highP_most {p : List Int} (hp : Fp s.length m (va s) p (lot m s)) {l : Nat} (hl : l < m) : pr p l ≤ pr (highP m s) l := by
 have hd := best_dv hv
 rw [highP_pr hl]
 obtain ⟨t, t1, t2, t3⟩ := Vx_ex hv hl
 have h1 : sm s.length (fun i => va s i (t i) - pr p (t i)) ≤ sm s.length (fun i => va s i (lot m s i) - pr p (lot m s i)) := sm_le fun i hi => hp.opts (va_none s) hi (t1.rg i hi)
 rw [sm_sub, sm_sub, sm_sold hd hp.free] at h1
 have e := sm_lots (p := p) (S := fun _ => True) s.length t1
 simp only [cif_pos trivial] at e
 have h2 : sm s.length (fun i => pr p (t i)) ≤ sm m (fun k => pr p k + if k = l then - pr p l else 0) := by
  rw [e]
  refine sm_le fun k hk => ?_
  by_cases hex : ∃ i, i < s.length ∧ True ∧ t i = (k : Int)
  ·rw [cif_pos hex]
   by_cases hkl : k = l
   ·subst hkl
    obtain ⟨i, hi, _, e⟩ := hex
    exact absurd e (t2 i hi)
   ·rw [if_neg hkl]; omega
  ·rw [cif_neg hex]
   by_cases hkl : k = l
   ·subst hkl; rw [if_pos rfl]; omega
   ·rw [if_neg hkl, Int.add_zero]; exact hp.nn k hk
 rw [sm_add, sm_one hl] at h2
 have h3 : sm s.length (fun i => va s i (lot m s i)) = W m s (-1) := best_wt hv
 have t3 : sm s.length (fun i => va s i (t i)) = Vx m s l := t3
 omega
theorem pr_ext {p q : List Int} (hp : p.length = m) (hq : q.length = m) (h : ∀ l : Nat, l < m → pr p l = pr q l) : p = q := by
 have _ := hv
 refine List.ext_getElem (by omega) fun l h1 h2 => ?_
 have := h l (by omega)
 rwa [pr_nat h1, pr_nat h2] at this
end
end
section
abbrev tot (m : Nat) (p : List Int) : Int := sm m fun l => pr p (l : Int)
theorem pr_opt {p : List Int} {l : Nat} (h : l < p.length) : p[l]? = some (pr p l) := by rw [pr_nat h, List.getElem?_eq_getElem h]
theorem pr_set {p : List Int} {l k : Nat} {w : Int} (hl : l < p.length) : pr (p.set l w) (k : Int) = if k = l then w else pr p k := by
 unfold pr
 have h0 : ¬ (k : Int) < 0 := by omega
 rw [if_neg h0, if_neg h0, Int.toNat_natCast, List.getElem?_set]
 by_cases h : k = l
 ·subst h; rw [if_pos rfl, if_pos rfl, if_pos hl]; rfl
 ·rw [if_neg (fun e => h e.symm), if_neg h]
theorem pr_set_neg {p : List Int} {l : Nat} {w x : Int} (hl : l < p.length) (hx : x ≠ (l : Int)) : pr (p.set l w) x = pr p x := by
 by_cases h : x < 0
 ·unfold pr; rw [if_pos h, if_pos h]
 ·obtain ⟨k, rfl⟩ : ∃ k : Nat, x = k := ⟨x.toNat, by omega⟩
  rw [pr_set hl, if_neg (by omega)]
theorem tot_set {m l : Nat} {p : List Int} {w : Int} (hp : p.length = m) (hl : l < m) : tot m (p.set l w) = tot m p + (w - pr p l) := by
 rw [show tot m p + (w - pr p l) = sm m (fun k => pr p (k : Int) + if k = l then w - pr p l else 0) by rw [sm_add, sm_one hl]]
 refine sm_congr fun k hk => ?_
 rw [pr_set (by omega)]
 by_cases h : k = l
 ·subst h; rw [if_pos rfl, if_pos rfl]; omega
 ·rw [if_neg h, if_neg h, Int.add_zero]
theorem sm_bd {m : Nat} {f : Nat → Int} {c : Int} (h : ∀ l, l < m → 0 ≤ f l ∧ f l ≤ c) : 0 ≤ sm m f ∧ sm m f ≤ m * c := by
 induction m with
 | zero => simp [sm]
 | succ m ih =>
  have h1 := ih fun l hl => h l (by omega)
  have h2 := h m (by omega)
  have e : ((m + 1 : Nat) : Int) * c = m * c + c := by rw [show ((m + 1 : Nat) : Int) = (m : Int) + 1 by omega, Int.add_mul, Int.one_mul]
  rw [sm, e]; omega
section
variable {m : Nat} {s : List (List Int)} (hv : Vs m s)
include hv
theorem va_at {i l : Nat} (hi : i < s.length) (hl : l < m) (h : l < s[i].length) : s[i][l] = va s i l := by
 have _ := hv
 unfold va vl
 rw [if_neg (by omega), Int.toNat_natCast, List.getElem?_eq_getElem hi, Option.getD_some, List.getElem?_eq_getElem h, Option.getD_some]
theorem va_bd {i : Nat} {x : Int} : 0 ≤ va s i x ∧ va s i x ≤ 99 := row_bd (b := i) hv x
theorem lowP_bd {l : Nat} (hl : l < m) : 0 ≤ pr (lowP m s) l ∧ pr (lowP m s) l ≤ 99 := by
 refine ⟨(lowP_fair hv).nn l hl, ?_⟩
 rcases own_or hv (l := l) with ⟨b, hb, e⟩ | h
 ·have := (lowP_fair hv).own b hb
  have := va_bd hv (i := b) (x := lot m s b)
  rw [← e]; omega
 ·rw [lowP_free hv hl h]; decide
end
structure Lo (m : Nat) (P p : List Int) : Prop where
 len : p.length = m
 bd : ∀ l : Nat, l < m → 0 ≤ pr p l ∧ pr p l ≤ pr P l
section
variable {m i F : Nat} {s : List (List Int)} {M : Mm} {P D : List Int}
theorem Lo.set {p : List Int} {l : Nat} {w : Int} (h : Lo m P p) (hl : l < m) (h1 : pr p l < w) (h2 : w ≤ pr P l) : Lo m P (p.set l w) ∧ tot m p < tot m (p.set l w) := by
 have h0 := h.bd l hl
 refine ⟨⟨by rw [List.length_set]; exact h.len, fun k hk => ?_⟩, ?_⟩
 ·rw [pr_set (by rw [h.len]; exact hl)]
  by_cases e : k = l
  ·subst e; rw [if_pos rfl]; omega
  ·rw [if_neg e]; exact h.bd k hk
 ·rw [tot_set h.len hl]; omega
theorem low_own (hv : Vs m s) (hi : i < s.length) {x : Nat} (hx : x < m) (hP9 : ∀ l : Nat, l < m → pr P l ≤ 1000) (hP : ∀ l : Nat, l < m → pr P x + (va s i l - va s i x) ≤ pr P l) : ∀ (k j : Nat) (f : Bool) (p : List Int), m < k + j → j ≤ m → Lo m P p →
  ∃ f' p', f88_p10_4 F 0 m D i x M s m k f j p = some (f', p') ∧ Lo m P p' ∧ ((f' = f ∧ p' = p ∧ ∀ l : Nat, j ≤ l → l < m → l ≠ x → pr p x + (va s i l - va s i x) ≤ pr p l) ∨ (f' = true ∧ tot m p < tot m p')) := by
 have hm := hv.m5
 intro k
 induction k with
 | zero => intro j f p h _; omega
 | succ k ih =>
  intro j f p h1 h2 h3
  unfold f88_p10_4
  by_cases hj : j < m
  ·have hlen := (hv.ok _ (List.getElem_mem hi)).1
   have e1 : w64 ((j : Int) + 1) = ((j + 1 : Nat) : Int) := w64_succ (by omega)
   rw [if_pos (by simp; omega), e1]
   by_cases hjx : j = x
   ·rw [if_neg (by simp [hjx])]
    obtain ⟨f', p', g1, g2, g3⟩ := ih (j + 1) f p (by omega) (by omega) h3
    refine ⟨f', p', g1, g2, ?_⟩
    rcases g3 with ⟨a, b, c⟩ | g3
    ·exact .inl ⟨a, b, fun l hl1 hl2 hl3 => c l (by omega) hl2 hl3⟩
    ·exact .inr g3
   ·have b1 := h3.bd j hj
    have b2 := h3.bd x hx
    have b3 := va_bd hv (i := i) (x := (j : Int))
    have b4 := va_bd hv (i := i) (x := (x : Int))
    have b5 := hP9 x hx
    have b6 := hP j hj
    have ev : vl s[i] (x : Int) = va s i x := by unfold va; rw [List.getElem?_eq_getElem hi, Option.getD_some]
    rw [if_pos (by simp; omega), req_pos (by omega), at_get hi, Option.bind_some, at_get (by omega), Option.bind_some, f72_eq hv.ok hi ⟨by omega, by omega⟩, Option.bind_some, va_at hv hi hj, ev, w64_in (n := va s i j - va s i x) (by omega)]
    unfold f89
    rw [Nat.zero_add, Nat.zero_add, Int.toNat_natCast, Int.toNat_natCast, pr_opt (l := j) (by rw [h3.len]; exact hj), Option.bind_some, pr_opt (l := x) (by rw [h3.len]; exact hx), Option.bind_some, w64_in (by omega)]
    by_cases hc : pr p j ≥ pr p x + (va s i j - va s i x)
    ·rw [if_pos (by simpa using hc), Option.bind_some]
     dsimp only
     unfold f88_p13_9
     rw [if_neg (by decide), Option.bind_some]
     obtain ⟨f', p', g1, g2, g3⟩ := ih (j + 1) f p (by omega) (by omega) h3
     refine ⟨f', p', g1, g2, ?_⟩
     rcases g3 with ⟨a, b, c⟩ | g3
     ·refine .inl ⟨a, b, fun l hl1 hl2 hl3 => ?_⟩
      by_cases hlj : l = j
      ·subst hlj; exact hc
      ·exact c l (by omega) hl2 hl3
     ·exact .inr g3
    ·obtain ⟨s1, s2⟩ := h3.set hj (w := pr p x + (va s i j - va s i x)) (by omega) (by omega)
     rw [if_neg (by simpa using hc), req_pos (by rw [h3.len]; exact hj), Option.bind_some]
     dsimp only
     unfold f88_p13_9
     rw [if_pos rfl, Option.bind_some]
     obtain ⟨f', p', g1, g2, g3⟩ := ih (j + 1) true _ (by omega) (by omega) s1
     refine ⟨f', p', g1, g2, .inr ?_⟩
     rcases g3 with ⟨a, b, c⟩ | g3
     ·rw [b]; exact ⟨a, s2⟩
     ·exact ⟨g3.1, by omega⟩
  ·rw [if_neg (by simp; omega)]
   exact ⟨f, p, rfl, h3, .inl ⟨rfl, rfl, fun l hl1 hl2 => by omega⟩⟩
theorem low_none (hv : Vs m s) (hi : i < s.length) (hP : ∀ l : Nat, l < m → va s i l ≤ pr P l) : ∀ (k j : Nat) (f : Bool) (p : List Int), m < k + j → j ≤ m → Lo m P p →
  ∃ f' p', f88_p10_5 F 0 m D i (-1) M s m k f j p = some (f', p') ∧ Lo m P p' ∧ ((f' = f ∧ p' = p ∧ ∀ l : Nat, j ≤ l → l < m → va s i l ≤ pr p l) ∨ (f' = true ∧ tot m p < tot m p')) := by
 have hm := hv.m5
 intro k
 induction k with
 | zero => intro j f p h _; omega
 | succ k ih =>
  intro j f p h1 h2 h3
  unfold f88_p10_5
  by_cases hj : j < m
  ·have hlen := (hv.ok _ (List.getElem_mem hi)).1
   have e1 : w64 ((j : Int) + 1) = ((j + 1 : Nat) : Int) := w64_succ (by omega)
   have b1 := h3.bd j hj
   have b3 := va_bd hv (i := i) (x := (j : Int))
   have b6 := hP j hj
   rw [if_pos (by simp; omega), e1, if_pos (by simp <;> omega), req_pos (by omega), at_get hi, Option.bind_some, at_get (by omega), Option.bind_some, f72_eq hv.ok hi ⟨by omega, by omega⟩, Option.bind_some, va_at hv hi hj, show vl s[i] (-1) = 0 from rfl, Int.sub_zero, w64_in (n := va s i j) (by omega)]
   unfold f89_1
   rw [Nat.zero_add, Int.toNat_natCast, pr_opt (l := j) (by rw [h3.len]; exact hj), Option.bind_some, Int.zero_add, w64_in (n := va s i j) (by omega)]
   by_cases hc : pr p j ≥ va s i j
   ·rw [if_pos (by simpa using hc), Option.bind_some]
    dsimp only
    unfold f88_p13_11
    rw [if_neg (by decide), Option.bind_some]
    obtain ⟨f', p', g1, g2, g3⟩ := ih (j + 1) f p (by omega) (by omega) h3
    refine ⟨f', p', g1, g2, ?_⟩
    rcases g3 with ⟨a, b, c⟩ | g3
    ·refine .inl ⟨a, b, fun l hl1 hl2 => ?_⟩
     by_cases hlj : l = j
     ·subst hlj; exact hc
     ·exact c l (by omega) hl2
    ·exact .inr g3
   ·obtain ⟨s1, s2⟩ := h3.set hj (w := va s i j) (by omega) (by omega)
    rw [if_neg (by simpa using hc), req_pos (by rw [h3.len]; exact hj), Option.bind_some]
    dsimp only
    unfold f88_p13_11
    rw [if_pos rfl, Option.bind_some]
    obtain ⟨f', p', g1, g2, g3⟩ := ih (j + 1) true _ (by omega) (by omega) s1
    refine ⟨f', p', g1, g2, .inr ?_⟩
    rcases g3 with ⟨a, b, c⟩ | g3
    ·rw [b]; exact ⟨a, s2⟩
    ·exact ⟨g3.1, by omega⟩
  ·rw [if_neg (by simp; omega)]
   exact ⟨f, p, rfl, h3, .inl ⟨rfl, rfl, fun l hl1 hl2 => by omega⟩⟩
abbrev Con (m : Nat) (s : List (List Int)) (i : Nat) (p : List Int) : Prop := ∀ l : Nat, l < m → va s i l - pr p l ≤ va s i (lot m s i) - pr p (lot m s i)
theorem low_pass (hF : 100 ≤ F) (hv : Vs m s) : ∀ (k i : Nat) (f : Bool) (p : List Int), i ≤ s.length → s.length < k + i → Lo m (lowP m s) p →
  ∃ f' p', f88_p5_1 F 0 m (bestD m s) M s m k f i p = some (f', p') ∧ Lo m (lowP m s) p' ∧ ((f' = f ∧ p' = p ∧ ∀ q, i ≤ q → q < s.length → Con m s q p) ∨ (f' = true ∧ tot m p < tot m p')) := by
 have hn := hv.n
 have hm := hv.m5
 have hbl := (best_len hv).1
 have hP := lowP_fair hv
 intro k
 induction k with
 | zero => intro i f p _ h; omega
 | succ k ih =>
  intro i f p h1 h2 h3
  unfold f88_p5_1
  by_cases hi : i < s.length
  ·obtain ⟨p1, p2⟩ := at_best hv hi
   have e1 : w64 ((i : Int) + 1) = ((i + 1 : Nat) : Int) := w64_succ (by omega)
   rw [if_pos (by simp; omega), p1, Option.bind_some, e1]
   have step : ∃ f' p', (Option.bind (f88_p8_3 F 0 m (bestD m s) f i (lot m s i) M s m p) fun
     | .c0 => Option.bind (f88_p10_4 F 0 m (bestD m s) i (lot m s i) M s m F f 0 p) fun (x121, x122) => f88_p5_1 F 0 m (bestD m s) M s m k x121 ((i + 1 : Nat) : Int) x122
     | .c1 => Option.bind (f88_p10_5 F 0 m (bestD m s) i (lot m s i) M s m F f 0 p) fun (x140, x141) => f88_p5_1 F 0 m (bestD m s) M s m k x140 ((i + 1 : Nat) : Int) x141) = f88_p5_1 F 0 m (bestD m s) M s m k f' ((i + 1 : Nat) : Int) p' ∧ Lo m (lowP m s) p' ∧ ((f' = f ∧ p' = p ∧ Con m s i p) ∨ (f' = true ∧ tot m p < tot m p')) := by
    unfold f88_p8_3
    by_cases h0 : lot m s i ≥ 0
    ·obtain ⟨x, hx⟩ : ∃ x : Nat, lot m s i = x := ⟨(lot m s i).toNat, by omega⟩
     rw [hx] at p2 ⊢
     have hb := fun l hl => hP.best i hi l hl
     rw [hx] at hb
     obtain ⟨f', p', g1, g2, g3⟩ := low_own (F := F) (M := M) (P := lowP m s) (D := bestD m s) hv hi (x := x) (by omega) (fun l hl => by have := lowP_bd hv hl; omega) (fun l hl => by have := hb l hl; omega) F 0 f p (by omega) (by omega) h3
     rw [if_pos (by simp), req_pos (by omega), Option.bind_some]
     dsimp only
     rw [show f88_p10_4 F 0 m (bestD m s) i x M s m F f 0 p = _ from g1, Option.bind_some]
     refine ⟨f', p', rfl, g2, ?_⟩
     rcases g3 with ⟨a, b, c⟩ | g3
     ·refine .inl ⟨a, b, fun l hl => ?_⟩
      rw [hx]
      by_cases hlx : l = x
      ·subst hlx; exact Int.le_refl _
      ·have := c l (by omega) hl hlx; omega
     ·exact .inr g3
    ·have hx : lot m s i = -1 := by omega
     rw [hx]
     have hb := fun l hl => hP.best i hi l hl
     rw [hx, va_none, pr_neg] at hb
     obtain ⟨f', p', g1, g2, g3⟩ := low_none (F := F) (M := M) (P := lowP m s) (D := bestD m s) hv hi (fun l hl => by have := hb l hl; omega) F 0 f p (by omega) (by omega) h3
     rw [if_neg (by simp), Option.bind_some]
     dsimp only
     rw [show f88_p10_5 F 0 m (bestD m s) i (-1) M s m F f 0 p = _ from g1, Option.bind_some]
     refine ⟨f', p', rfl, g2, ?_⟩
     rcases g3 with ⟨a, b, c⟩ | g3
     ·refine .inl ⟨a, b, fun l hl => ?_⟩
      rw [hx, va_none, pr_neg]
      have := c l (by omega) hl; omega
     ·exact .inr g3
   obtain ⟨fb1, q1, s1, s2, s3⟩ := step
   obtain ⟨f', p', g1, g2, g3⟩ := ih (i + 1) fb1 q1 (by omega) (by omega) s2
   refine ⟨f', p', s1.trans g1, g2, ?_⟩
   rcases s3 with ⟨a, b, c⟩ | s3
   ·subst a; subst b
    rcases g3 with ⟨a, b, c'⟩ | g3
    ·refine .inl ⟨a, b, fun q hq1 hq2 => ?_⟩
     by_cases e : q = i
     ·subst e; exact c
     ·exact c' q (by omega) hq2
    ·exact .inr g3
   ·rcases g3 with ⟨a, b, c'⟩ | g3
    ·subst b; exact .inr ⟨by rw [a]; exact s3.1, s3.2⟩
    ·exact .inr ⟨g3.1, by omega⟩
  ·rw [if_neg (by simp; omega)]
   exact ⟨f, p, rfl, h3, .inl ⟨rfl, rfl, fun q hq1 hq2 => by omega⟩⟩
theorem low_loop (hF : 100 ≤ F) (hv : Vs m s) : ∀ (k : Nat) (f : Bool) (p : List Int), Lo m (lowP m s) p → (f = true ∨ ∀ q, q < s.length → Con m s q p) → tot m (lowP m s) - tot m p + 2 ≤ k →
  f88_p1_18 F 0 m (bestD m s) M s m k f p = some (lowP m s) := by
 have hn := hv.n
 have hP := lowP_fair hv
 intro k
 induction k with
 | zero =>
  intro f p h1 _ h3
  have : tot m p ≤ tot m (lowP m s) := sm_le fun l hl => (h1.bd l hl).2
  omega
 | succ k ih =>
  intro f p h1 h2 h3
  unfold f88_p1_18
  cases f with
  | true =>
   obtain ⟨f', p', g1, g2, g3⟩ := low_pass (M := M) hF hv F 0 false p (by omega) (by omega) h1
   rw [if_pos rfl, show f88_p5_1 F 0 m (bestD m s) M s m F false 0 p = _ from g1, Option.bind_some]
   dsimp only
   rcases g3 with ⟨a, b, c⟩ | g3
   ·have : tot m p ≤ tot m (lowP m s) := sm_le fun l hl => (h1.bd l hl).2
    subst a; subst b
    match k, h3 with
    | 0, h3 => omega
    | k + 1, _ =>
     have hfair : Fp s.length m (va s) p' (lot m s) := ⟨h1.len, fun l hl => (h1.bd l hl).1, fun i hi => by
      have q1 := hP.own i hi
      have hr := (best_dv hv).rg i hi
      by_cases h0 : lot m s i < 0
      ·rw [show lot m s i = -1 by omega]; exact Int.le_refl _
      ·have q2 := (h1.bd (lot m s i).toNat (by omega)).2
       rw [show (((lot m s i).toNat : Nat) : Int) = lot m s i by omega] at q2
       omega, fun i hi => c i (by omega) hi, fun l hl hf => by
      have q1 := h1.bd l hl
      have q2 := hP.free l hl hf
      omega⟩
     have e : p' = lowP m s := pr_ext hv h1.len lowP_len fun l hl => by
      have q1 := (h1.bd l hl).2
      have q2 := lowP_least hv hfair hl
      omega
     unfold f88_p1_18
     rw [if_neg (by decide), e]
   ·refine ih f' p' g2 (.inl g3.1) (by omega)
  | false =>
   rw [if_neg (by decide)]
   have c := h2.resolve_left (by decide)
   have hfair : Fp s.length m (va s) p (lot m s) := ⟨h1.len, fun l hl => (h1.bd l hl).1, fun i hi => by
    have q1 := hP.own i hi
    have hr := (best_dv hv).rg i hi
    by_cases h0 : lot m s i < 0
    ·rw [show lot m s i = -1 by omega]; exact Int.le_refl _
    ·have q2 := (h1.bd (lot m s i).toNat (by omega)).2
     rw [show (((lot m s i).toNat : Nat) : Int) = lot m s i by omega] at q2
     omega, fun i hi => c i hi, fun l hl hf => by
    have q1 := h1.bd l hl
    have q2 := hP.free l hl hf
    omega⟩
   have e : p = lowP m s := pr_ext hv h1.len lowP_len fun l hl => by
    have q1 := (h1.bd l hl).2
    have q2 := lowP_least hv hfair hl
    omega
   rw [e]
theorem pr_zero {m l : Nat} (hl : l < m) : pr (List.replicate m 0) l = 0 := by
 rw [pr_nat (by simpa using hl)]; simp
theorem f39_eq (hF : 1000 ≤ F) (s : List (List Int)) : f39 F s = some (if ckS s ≠ 0 then ([], ckS s) else (lowP (s[0]?.getD []).length s, 0)) := by
 unfold f39
 rw [f65_eq (by omega), Option.bind_some]
 by_cases h : ckS s = 0
 ·have hv := ckS_ok h
  have hm := hv.m5
  generalize hmm : (s[0]?.getD []).length = m at *
  obtain ⟨M', e1, e2⟩ := f66_eq (F := F) (by omega) hv (Good.nil _ s)
  have hb : 0 ≤ tot m (lowP m s) ∧ tot m (lowP m s) ≤ m * 99 := sm_bd (m := m) (f := fun l => pr (lowP m s) (l : Int)) (c := 99) fun l hl => lowP_bd hv hl
  have e0 : tot m (List.replicate m 0) = 0 := by
   have := sm_bd (m := m) (f := fun l => pr (List.replicate m 0) (l : Int)) (c := 0) fun l hl => by rw [pr_zero hl]; omega
   rw [Int.mul_zero] at this
   show sm m (fun l => pr (List.replicate m 0) (l : Int)) = 0
   omega
  have hlo : Lo m (lowP m s) (List.replicate m 0) := ⟨by simp, fun l hl => by rw [pr_zero hl]; exact ⟨Int.le_refl _, (lowP_bd hv hl).1⟩⟩
  have hl := low_loop (M := M') (by omega : 100 ≤ F) hv F true _ hlo (.inl rfl) (by rw [e0]; omega)
  rw [if_neg (by simpa using h), if_neg (by simpa using h)]
  dsimp only
  rw [if_neg (by decide), req_pos (by omega), Int.toNat_natCast]
  unfold f88
  rw [e1, Option.bind_some]
  dsimp only
  rw [hl, Option.bind_some, Option.bind_some]
  dsimp only
  rw [req_pos (by rw [lowP_len]; omega), Nat.zero_add, List.drop_zero, List.take_of_length_le (by rw [lowP_len]; omega)]
 ·rw [if_pos h, if_pos h]
  dsimp only
  rw [if_pos (by simpa using h)]
end
end
section
structure Hi (m : Nat) (s : List (List Int)) (p : List Int) : Prop where
 len : p.length = m
 ge : ∀ l : Nat, l < m → pr (highP m s) l ≤ pr p l
 own : ∀ i, i < s.length → pr p (lot m s i) ≤ va s i (lot m s i)
 free : ∀ l : Nat, l < m → (∀ i, i < s.length → lot m s i ≠ (l : Int)) → pr p l = 0
section
variable {m i F : Nat} {s : List (List Int)} {M : Mm} {D : List Int}
theorem highP_nn (hv : Vs m s) {l : Nat} (hl : l < m) : 0 ≤ pr (highP m s) l := (highP_fair hv).nn l hl
theorem Hi.bd {p : List Int} (h : Hi m s p) (hv : Vs m s) {l : Nat} (hl : l < m) : 0 ≤ pr p l ∧ pr p l ≤ 99 := by
 have h1 := h.ge l hl
 have h2 := highP_nn hv hl
 refine ⟨by omega, ?_⟩
 rcases own_or hv (l := l) with ⟨b, hb, e⟩ | h'
 ·have h3 := h.own b hb
  have := va_bd hv (i := b) (x := lot m s b)
  rw [e] at h3 this; omega
 ·rw [h.free l hl h']; decide
theorem Hi.set {p : List Int} {x : Nat} {w : Int} (h : Hi m s p) (hv : Vs m s) (hi : i < s.length) (hx : lot m s i = (x : Int)) (h1 : w < pr p x) (h2 : pr (highP m s) x ≤ w) : Hi m s (p.set x w) ∧ tot m (p.set x w) < tot m p := by
 have hd := best_dv hv
 have hr := hd.rg i hi
 have hxl : x < p.length := by rw [h.len]; omega
 refine ⟨⟨by rw [List.length_set]; exact h.len, fun k hk => ?_, fun j hj => ?_, fun k hk hf => ?_⟩, ?_⟩
 ·rw [pr_set hxl]
  by_cases e : k = x
  ·subst e; rw [if_pos rfl]; exact h2
  ·rw [if_neg e]; exact h.ge k hk
 ·by_cases e : j = i
  ·subst e
   have := h.own j hj
   rw [hx] at this ⊢
   rw [pr_set hxl, if_pos rfl]; omega
  ·rw [pr_set_neg hxl (fun e2 => e (hd.inj j i hj hi (by omega) (by omega)))]
   exact h.own j hj
 ·rw [pr_set hxl]
  by_cases e : k = x
  ·subst e; exact absurd hx (hf i hi)
  ·rw [if_neg e]; exact h.free k hk hf
 ·rw [tot_set h.len (by omega)]; omega
theorem high_own (hv : Vs m s) (hi : i < s.length) {x : Nat} (hx : lot m s i = (x : Int)) : ∀ (k j : Nat) (f : Bool) (p : List Int), m < k + j → j ≤ m → Hi m s p →
  ∃ f' p', f88_1_p10_8 F 0 m D i x M s m 0 k f j p = some (f', p') ∧ Hi m s p' ∧ ((f' = f ∧ p' = p ∧ ∀ l : Nat, j ≤ l → l < m → l ≠ x → pr p x + (va s i l - va s i x) ≤ pr p l) ∨ (f' = true ∧ tot m p' < tot m p)) := by
 have hm := hv.m5
 have hr := (best_dv hv).rg i hi
 intro k
 induction k with
 | zero => intro j f p h _; omega
 | succ k ih =>
  intro j f p h1 h2 h3
  unfold f88_1_p10_8
  by_cases hj : j < m
  ·have hlen := (hv.ok _ (List.getElem_mem hi)).1
   have e1 : w64 ((j : Int) + 1) = ((j + 1 : Nat) : Int) := w64_succ (by omega)
   rw [if_pos (by simp; omega), e1]
   by_cases hjx : j = x
   ·rw [if_neg (by simp [hjx])]
    obtain ⟨f', p', g1, g2, g3⟩ := ih (j + 1) f p (by omega) (by omega) h3
    refine ⟨f', p', g1, g2, ?_⟩
    rcases g3 with ⟨a, b, c⟩ | g3
    ·exact .inl ⟨a, b, fun l hl1 hl2 hl3 => c l (by omega) hl2 hl3⟩
    ·exact .inr g3
   ·have b1 := h3.bd hv hj
    have b2 := h3.bd hv (l := x) (by omega)
    have b3 := va_bd hv (i := i) (x := (j : Int))
    have b4 := va_bd hv (i := i) (x := (x : Int))
    have b5 := h3.ge j hj
    have b6 := (highP_fair hv).best i hi j hj
    rw [hx] at b6
    have ev : vl s[i] (x : Int) = va s i x := by unfold va; rw [List.getElem?_eq_getElem hi, Option.getD_some]
    rw [if_pos (by simp; omega), req_pos (by omega), at_get hi, Option.bind_some, at_get (by omega), Option.bind_some, f72_eq hv.ok hi ⟨by omega, by omega⟩, Option.bind_some, va_at hv hi hj, ev, w64_in (n := va s i j - va s i x) (by omega)]
    unfold f91
    rw [Nat.zero_add, Nat.zero_add, Int.toNat_natCast, Int.toNat_natCast, pr_opt (l := j) (by rw [h3.len]; exact hj), Option.bind_some, pr_opt (l := x) (by rw [h3.len]; omega), Option.bind_some, w64_in (n := pr p x + _) (by omega), w64_in (n := pr p j - _) (by omega)]
    by_cases hc : pr p j ≥ pr p x + (va s i j - va s i x)
    ·rw [if_pos (by simpa using hc), Option.bind_some]
     dsimp only
     unfold f88_1_p13_17
     rw [if_neg (by decide), Option.bind_some]
     obtain ⟨f', p', g1, g2, g3⟩ := ih (j + 1) f p (by omega) (by omega) h3
     refine ⟨f', p', g1, g2, ?_⟩
     rcases g3 with ⟨a, b, c⟩ | g3
     ·refine .inl ⟨a, b, fun l hl1 hl2 hl3 => ?_⟩
      by_cases hlj : l = j
      ·subst hlj; exact hc
      ·exact c l (by omega) hl2 hl3
     ·exact .inr g3
    ·obtain ⟨s1, s2⟩ := h3.set hv hi hx (w := pr p j - (va s i j - va s i x)) (by omega) (by omega)
     rw [if_neg (by simpa using hc), req_pos (by rw [h3.len]; omega), Option.bind_some]
     dsimp only
     unfold f88_1_p13_17
     rw [if_pos rfl, Option.bind_some]
     obtain ⟨f', p', g1, g2, g3⟩ := ih (j + 1) true _ (by omega) (by omega) s1
     refine ⟨f', p', g1, g2, .inr ?_⟩
     rcases g3 with ⟨a, b, c⟩ | g3
     ·rw [b]; exact ⟨a, s2⟩
     ·exact ⟨g3.1, by omega⟩
  ·rw [if_neg (by simp; omega)]
   exact ⟨f, p, rfl, h3, .inl ⟨rfl, rfl, fun l hl1 hl2 => by omega⟩⟩
theorem high_none (hv : Vs m s) (hi : i < s.length) (hx : lot m s i = -1) : ∀ (k j : Nat) (f : Bool) (p : List Int), m < k + j → j ≤ m → Hi m s p →
  f88_1_p10_9 F 0 m D i (-1) M s m p k f j 0 = some (f, 0) := by
 have hm := hv.m5
 intro k
 induction k with
 | zero => intro j f p h _; omega
 | succ k ih =>
  intro j f p h1 h2 h3
  unfold f88_1_p10_9
  by_cases hj : j < m
  ·have hlen := (hv.ok _ (List.getElem_mem hi)).1
   have e1 : w64 ((j : Int) + 1) = ((j + 1 : Nat) : Int) := w64_succ (by omega)
   have b1 := h3.bd hv hj
   have b3 := va_bd hv (i := i) (x := (j : Int))
   have b5 := h3.ge j hj
   have b6 := (highP_fair hv).best i hi j hj
   rw [hx, va_none, pr_neg] at b6
   rw [if_pos (by simp; omega), e1, if_pos (by simp <;> omega), req_pos (by omega), at_get hi, Option.bind_some, at_get (by omega), Option.bind_some, f72_eq hv.ok hi ⟨by omega, by omega⟩, Option.bind_some, va_at hv hi hj, show vl s[i] (-1) = 0 from rfl, Int.sub_zero, w64_in (n := va s i j) (by omega)]
   unfold f91_1
   rw [Nat.zero_add, Int.toNat_natCast, pr_opt (l := j) (by rw [h3.len]; exact hj), Option.bind_some, Int.zero_add, w64_in (n := va s i j) (by omega), if_pos (by simp; omega), Option.bind_some]
   dsimp only
   unfold f88_1_p13_19
   rw [if_neg (by decide), Option.bind_some]
   exact ih (j + 1) f p (by omega) (by omega) h3
  ·rw [if_neg (by simp; omega)]
theorem high_pass (hF : 100 ≤ F) (hv : Vs m s) : ∀ (k i : Nat) (f : Bool) (p : List Int), i ≤ s.length → s.length < k + i → Hi m s p →
  ∃ f' p', f88_1_p5_1 F 0 m (bestD m s) M s m k f i p 0 = some (f', p', 0) ∧ Hi m s p' ∧ ((f' = f ∧ p' = p ∧ ∀ q, i ≤ q → q < s.length → Con m s q p) ∨ (f' = true ∧ tot m p' < tot m p)) := by
 have hn := hv.n
 have hm := hv.m5
 have hbl := (best_len hv).1
 have hP := highP_fair hv
 intro k
 induction k with
 | zero => intro i f p _ h; omega
 | succ k ih =>
  intro i f p h1 h2 h3
  unfold f88_1_p5_1
  by_cases hi : i < s.length
  ·obtain ⟨p1, p2⟩ := at_best hv hi
   have e1 : w64 ((i : Int) + 1) = ((i + 1 : Nat) : Int) := w64_succ (by omega)
   rw [if_pos (by simp; omega), p1, Option.bind_some, e1]
   have step : ∃ f' p', (Option.bind (f88_1_p8_5 F 0 m (bestD m s) f i (lot m s i) M s m p 0) fun
     | .c0 => Option.bind (f88_1_p10_8 F 0 m (bestD m s) i (lot m s i) M s m 0 F f 0 p) fun (x209, x210) => f88_1_p5_1 F 0 m (bestD m s) M s m k x209 ((i + 1 : Nat) : Int) x210 0
     | .c1 => Option.bind (f88_1_p10_9 F 0 m (bestD m s) i (lot m s i) M s m p F f 0 0) fun (x228, x229) => f88_1_p5_1 F 0 m (bestD m s) M s m k x228 ((i + 1 : Nat) : Int) p x229) = f88_1_p5_1 F 0 m (bestD m s) M s m k f' ((i + 1 : Nat) : Int) p' 0 ∧ Hi m s p' ∧ ((f' = f ∧ p' = p ∧ Con m s i p) ∨ (f' = true ∧ tot m p' < tot m p)) := by
    unfold f88_1_p8_5
    by_cases h0 : lot m s i ≥ 0
    ·obtain ⟨x, hx⟩ : ∃ x : Nat, lot m s i = x := ⟨(lot m s i).toNat, by omega⟩
     obtain ⟨f', p', g1, g2, g3⟩ := high_own (F := F) (M := M) (D := bestD m s) hv hi hx F 0 f p (by omega) (by omega) h3
     rw [hx] at p2 ⊢
     rw [if_pos (by simp), req_pos (by omega), Option.bind_some]
     dsimp only
     rw [show f88_1_p10_8 F 0 m (bestD m s) i x M s m 0 F f 0 p = _ from g1, Option.bind_some]
     refine ⟨f', p', rfl, g2, ?_⟩
     rcases g3 with ⟨a, b, c⟩ | g3
     ·refine .inl ⟨a, b, fun l hl => ?_⟩
      rw [hx]
      by_cases hlx : l = x
      ·subst hlx; exact Int.le_refl _
      ·have := c l (by omega) hl hlx; omega
     ·exact .inr g3
    ·have hx : lot m s i = -1 := by omega
     have g1 := high_none (F := F) (M := M) (D := bestD m s) hv hi hx F 0 f p (by omega) (by omega) h3
     rw [hx]
     rw [if_neg (by simp), Option.bind_some]
     dsimp only
     rw [show f88_1_p10_9 F 0 m (bestD m s) i (-1) M s m p F f 0 0 = _ from g1, Option.bind_some]
     refine ⟨f, p, rfl, h3, .inl ⟨rfl, rfl, fun l hl => ?_⟩⟩
     have b5 := h3.ge l hl
     have b6 := hP.best i hi l hl
     rw [hx, va_none, pr_neg] at b6 ⊢
     omega
   obtain ⟨fb1, q1, s1, s2, s3⟩ := step
   obtain ⟨f', p', g1, g2, g3⟩ := ih (i + 1) fb1 q1 (by omega) (by omega) s2
   refine ⟨f', p', s1.trans g1, g2, ?_⟩
   rcases s3 with ⟨a, b, c⟩ | s3
   ·subst a; subst b
    rcases g3 with ⟨a, b, c'⟩ | g3
    ·refine .inl ⟨a, b, fun q hq1 hq2 => ?_⟩
     by_cases e : q = i
     ·subst e; exact c
     ·exact c' q (by omega) hq2
    ·exact .inr g3
   ·rcases g3 with ⟨a, b, c'⟩ | g3
    ·subst b; exact .inr ⟨by rw [a]; exact s3.1, s3.2⟩
    ·exact .inr ⟨g3.1, by omega⟩
  ·rw [if_neg (by simp; omega)]
   exact ⟨f, p, rfl, h3, .inl ⟨rfl, rfl, fun q hq1 hq2 => by omega⟩⟩
theorem Hi.done (hv : Vs m s) {p : List Int} (h1 : Hi m s p) (c : ∀ q, q < s.length → Con m s q p) : p = highP m s := by
 have hfair : Fp s.length m (va s) p (lot m s) := ⟨h1.len, fun l hl => (h1.bd hv hl).1, fun i hi => by
  have := h1.own i hi; omega, fun i hi => c i hi, h1.free⟩
 refine pr_ext hv h1.len highP_len fun l hl => ?_
 have q1 := h1.ge l hl
 have q2 := highP_most hv hfair hl
 omega
theorem high_loop (hF : 100 ≤ F) (hv : Vs m s) : ∀ (k : Nat) (f : Bool) (p : List Int), Hi m s p → (f = true ∨ ∀ q, q < s.length → Con m s q p) → tot m p - tot m (highP m s) + 2 ≤ k →
  f88_1_p1_30 F 0 m (bestD m s) M s m k f p 0 = some (highP m s) := by
 have hn := hv.n
 intro k
 induction k with
 | zero =>
  intro f p h1 _ h3
  have : tot m (highP m s) ≤ tot m p := sm_le fun l hl => h1.ge l hl
  omega
 | succ k ih =>
  intro f p h1 h2 h3
  unfold f88_1_p1_30
  cases f with
  | true =>
   obtain ⟨f', p', g1, g2, g3⟩ := high_pass (M := M) hF hv F 0 false p (by omega) (by omega) h1
   rw [if_pos rfl, show f88_1_p5_1 F 0 m (bestD m s) M s m F false 0 p 0 = _ from g1, Option.bind_some]
   dsimp only
   rcases g3 with ⟨a, b, c⟩ | g3
   ·have : tot m (highP m s) ≤ tot m p := sm_le fun l hl => h1.ge l hl
    subst a; subst b
    match k, h3 with
    | 0, h3 => omega
    | k + 1, _ =>
     unfold f88_1_p1_30
     rw [if_neg (by decide), h1.done hv fun q hq => c q (by omega) hq]
   ·exact ih f' p' g2 (.inl g3.1) (by omega)
  | false =>
   rw [if_neg (by decide), h1.done hv (h2.resolve_left (by decide))]
theorem f41_p2_eq (hv : Vs m s) : ∀ (k i : Nat) (p : List Int), i ≤ s.length → s.length < k + i → p.length = m → (∀ q, q < i → pr p (lot m s q) = va s q (lot m s q)) → (∀ l : Nat, l < m → (∀ q, q < i → lot m s q ≠ (l : Int)) → pr p l = 0) →
  ∃ p', f41_p2 F s m (bestD m s) M s k i p = some p' ∧ p'.length = m ∧ (∀ q, q < s.length → pr p' (lot m s q) = va s q (lot m s q)) ∧ (∀ l : Nat, l < m → (∀ q, q < s.length → lot m s q ≠ (l : Int)) → pr p' l = 0) := by
 have hn := hv.n
 have hm := hv.m5
 have hbl := (best_len hv).1
 have hd := best_dv hv
 intro k
 induction k with
 | zero => intro i p _ h; omega
 | succ k ih =>
  intro i p h1 h2 h3 h4 h5
  unfold f41_p2
  by_cases hi : i < s.length
  ·obtain ⟨p1, p2⟩ := at_best hv hi
   have hlen := (hv.ok _ (List.getElem_mem hi)).1
   rw [if_pos (by simp; omega), p1, Option.bind_some, w64_succ (by omega)]
   unfold f41_p5_1
   by_cases h0 : lot m s i ≥ 0
   ·obtain ⟨x, hx⟩ : ∃ x : Nat, lot m s i = x := ⟨(lot m s i).toNat, by omega⟩
    rw [hx] at p2 ⊢
    have hxl : x < p.length := by omega
    rw [if_pos (by simp), at_get hi, Option.bind_some, at_get (by omega), Option.bind_some, req_pos (by rw [Int.toNat_natCast]; omega), Int.toNat_natCast, Nat.zero_add, req_pos hxl, Option.bind_some, va_at hv hi (by omega)]
    refine ih (i + 1) _ (by omega) (by omega) (by rw [List.length_set]; exact h3) (fun q hq => ?_) (fun l hl hf => ?_)
    ·by_cases e : q = i
     ·subst e; rw [hx, pr_set hxl, if_pos rfl]
     ·rw [pr_set_neg hxl (fun e2 => e (hd.inj q i (by omega) hi (by omega) (by omega)))]
      exact h4 q (by omega)
    ·rw [pr_set hxl]
     by_cases e : l = x
     ·subst e; exact absurd hx (hf i (by omega))
     ·rw [if_neg e]; exact h5 l hl fun q hq => hf q (by omega)
   ·have hx : lot m s i = -1 := by omega
    rw [if_neg (by simp; omega), Option.bind_some]
    refine ih (i + 1) p (by omega) (by omega) h3 (fun q hq => ?_) (fun l hl hf => h5 l hl fun q hq => hf q (by omega))
    by_cases e : q = i
    ·subst e; rw [hx]; rfl
    ·exact h4 q (by omega)
  ·rw [if_neg (by simp; omega)]
   obtain rfl : i = s.length := by omega
   exact ⟨p, rfl, h3, h4, h5⟩
theorem f41_eq (hF : 1000 ≤ F) (s : List (List Int)) : f41 F s = some (if ckS s ≠ 0 then ([], ckS s) else (highP (s[0]?.getD []).length s, 0)) := by
 unfold f41
 rw [f65_eq (by omega), Option.bind_some]
 by_cases h : ckS s = 0
 ·have hv := ckS_ok h
  have hm := hv.m5
  have hn := hv.n
  generalize hmm : (s[0]?.getD []).length = m at *
  obtain ⟨M', e1, e2⟩ := f66_eq (F := F) (by omega) hv (Good.nil _ s)
  obtain ⟨M'', e3, e4⟩ := f66_eq (F := F) (by omega) hv e2
  obtain ⟨p, q1, q2, q3, q4⟩ := f41_p2_eq (F := F) (M := M') hv F 0 (List.replicate m 0) (by omega) (by omega) (by simp) (fun q hq => by omega) (fun l hl _ => pr_zero hl)
  have hH := highP_fair hv
  have hi : Hi m s p := ⟨q2, fun l hl => by
   rcases own_or hv (l := l) with ⟨b, hb, e⟩ | h'
   ·have a1 := hH.own b hb
    have a2 := q3 b hb
    rw [e] at a1 a2; omega
   ·rw [hH.free l hl h', q4 l hl h']; exact Int.le_refl _, fun i hi => by rw [q3 i hi]; exact Int.le_refl _, q4⟩
  have hb : 0 ≤ tot m p ∧ tot m p ≤ m * 99 := sm_bd (m := m) (f := fun l => pr p (l : Int)) (c := 99) fun l hl => hi.bd hv hl
  have hb2 : 0 ≤ tot m (highP m s) := by
   have := sm_le (n := m) (f := fun _ => 0) (g := fun l => pr (highP m s) (l : Int)) fun l hl => highP_nn hv hl
   have z : ∀ k : Nat, sm k (fun _ => 0) = 0 := fun k => by
    induction k with
    | zero => rfl
    | succ k ih => rw [sm, ih]; rfl
   rw [z] at this
   exact this
  have hl := high_loop (M := M'') (by omega : 100 ≤ F) hv F true p hi (.inl rfl) (by omega)
  rw [if_neg (by simpa using h), if_neg (by simpa using h)]
  dsimp only
  rw [if_neg (by decide), req_pos (by omega), e1, Option.bind_some]
  dsimp only
  rw [Int.toNat_natCast, show f41_p2 F s m (bestD m s) M' s F 0 (List.replicate m 0) = _ from q1, Option.bind_some]
  unfold f88_1
  rw [e3, Option.bind_some]
  dsimp only
  rw [hl, Option.bind_some, Option.bind_some]
  dsimp only
  rw [req_pos (by rw [highP_len]; omega), Nat.zero_add, List.drop_zero, List.take_of_length_le (by rw [highP_len]; omega)]
 ·rw [if_pos h, if_pos h]
  dsimp only
  rw [if_pos (by simpa using h)]
end
end
section
section
variable {n m : Nat} {v : Nat → Int → Int} {d t : Nat → Int} {p : List Int}
end
section
variable {m : Nat} {s : List (List Int)} {r : List Int} (hv : Vs m s) (hr : Vs m (s ++ [r]))
include hv hr
end
section
variable {m : Nat} {s : List (List Int)} (hv : Vs m s) (hm4 : m ≤ 4)
include hv hm4
end
section
variable {m : Nat} {s : List (List Int)} (hv : Vs m s) (hm4 : m ≤ 4)
include hv hm4
end
end
section
def mxw (f : Nat → Int) : Nat → Int
 | 0 => 0
 | j + 1 => if f j > mxw f j then f j else mxw f j
theorem mxw_le {f : Nat → Int} : ∀ {j : Nat}, 0 ≤ mxw f j ∧ ∀ l, l < j → f l ≤ mxw f j
 | 0 => ⟨Int.le_refl _, fun l h => by omega⟩
 | j + 1 => by
  obtain ⟨h1, h2⟩ := mxw_le (f := f) (j := j)
  rw [mxw]
  split
  ·refine ⟨by omega, fun l hl => ?_⟩
   by_cases e : l = j
   ·subst e; exact Int.le_refl _
   ·have := h2 l (by omega); omega
  ·refine ⟨h1, fun l hl => ?_⟩
   by_cases e : l = j
   ·subst e; omega
   ·exact h2 l (by omega)
theorem mxw_is {f : Nat → Int} : ∀ {j : Nat}, mxw f j = 0 ∨ ∃ l, l < j ∧ mxw f j = f l
 | 0 => .inl rfl
 | j + 1 => by
  rw [mxw]
  split
  ·exact .inr ⟨j, by omega, rfl⟩
  ·rcases mxw_is (f := f) (j := j) with h | ⟨l, h1, h2⟩
   ·exact .inl h
   ·exact .inr ⟨l, by omega, h2⟩
def gv (s : List (List Int)) (p : List Int) (i l : Nat) : Int := va s i l - pr p l
section
variable {m i F : Nat} {s : List (List Int)} {M : Mm} {p : List Int}
structure Pd (m : Nat) (p : List Int) : Prop where
 len : p.length = m
 bd : ∀ l : Nat, l < m → 0 ≤ pr p l ∧ pr p l ≤ 99
theorem Pd.row (h : Pd m p) : p.length = m ∧ ∀ x ∈ p, 0 ≤ x ∧ x ≤ 99 := by
 refine ⟨h.len, fun x hx => ?_⟩
 obtain ⟨l, hl, rfl⟩ := List.getElem_of_mem hx
 have := h.bd l (by rw [← h.len]; exact hl)
 rwa [pr_nat hl] at this
theorem Pd.of (h : p.length = m ∧ ∀ x ∈ p, 0 ≤ x ∧ x ≤ 99) : Pd m p := ⟨h.1, fun l hl => by
 rw [pr_nat (by omega)]; exact h.2 _ (List.getElem_mem _)⟩
theorem gv_bd (hv : Vs m s) (hp : Pd m p) {l : Nat} (hl : l < m) : -99 ≤ gv s p i l ∧ gv s p i l ≤ 99 := by
 have h1 := va_bd hv (i := i) (x := (l : Int))
 have h2 := hp.bd l hl
 unfold gv; omega
abbrev mxg (m : Nat) (s : List (List Int)) (p : List Int) (i : Nat) : Int := mxw (gv s p i) m
def owng (s : List (List Int)) (p : List Int) (i : Nat) (x : Int) : Int := va s i x - pr p x
theorem owng_none {i : Nat} : owng s p i (-1) = 0 := by unfold owng; rw [va_none, pr_neg]; rfl
theorem own_iff {x : Int} (hx : -1 ≤ x ∧ x < m) : (0 ≤ owng s p i x ∧ ∀ l : Nat, l < m → gv s p i l ≤ owng s p i x) ↔ owng s p i x = mxg m s p i := by
 have h := mxw_le (f := gv s p i) (j := m)
 constructor
 ·rintro ⟨h1, h2⟩
  have : owng s p i x ≤ mxw (gv s p i) m := by
   by_cases h0 : x < 0
   ·rw [show x = -1 by omega, owng_none]; exact h.1
   ·have := h.2 x.toNat (by omega)
    unfold gv at this
    rw [show ((x.toNat : Nat) : Int) = x by omega] at this
    exact this
  rcases mxw_is (f := gv s p i) (j := m) with e | ⟨l, l1, l2⟩
  ·show _ = mxw (gv s p i) m; omega
  ·have := h2 l l1
   show _ = mxw (gv s p i) m; omega
 ·intro e
  rw [e]
  exact h
end
end
section
theorem fr_succ {P : Nat → Bool} {j : Nat} : ((List.range (j + 1)).filter P).map (fun (l : Nat) => (l : Int)) = ((List.range j).filter P).map (fun (l : Nat) => (l : Int)) ++ (if P j = true then [(j : Int)] else []) := by
 rw [List.range_succ, List.filter_append, List.map_append]
 congr 1
 by_cases h : P j = true
 ·rw [if_pos h, List.filter_cons, if_pos h]; rfl
 ·rw [if_neg h, List.filter_cons, if_neg h]; rfl

def wl (m : Nat) (s : List (List Int)) (p : List Int) (i : Nat) : List Int := (if mxg m s p i = 0 then [-1] else []) ++ ((List.range m).filter fun l => decide (gv s p i l = mxg m s p i)).map (fun (l : Nat) => (l : Int))
theorem mem_wl {m i : Nat} {s : List (List Int)} {p : List Int} {x : Int} (hx : -1 ≤ x ∧ x < m) : x ∈ wl m s p i ↔ owng s p i x = mxg m s p i := by
 unfold wl
 rw [List.mem_append]
 by_cases h0 : x < 0
 ·have e : x = -1 := by omega
  subst e
  rw [owng_none]
  constructor
  ·rintro (h | h)
   ·split at h
    ·rename_i h2; exact h2.symm
    ·cases h
   ·obtain ⟨j, _, e⟩ := List.mem_map.1 h; omega
  ·intro h
   rw [if_pos h.symm]
   exact .inl (by simp)
 ·obtain ⟨l, rfl⟩ : ∃ l : Nat, x = l := ⟨x.toNat, by omega⟩
  have e : owng s p i (l : Int) = gv s p i l := rfl
  rw [e]
  constructor
  ·rintro (h | h)
   ·split at h
    ·simp at h
    ·cases h
   ·obtain ⟨j, hj, e⟩ := List.mem_map.1 h
    have : j = l := by omega
    subst this
    exact of_decide_eq_true (List.mem_filter.1 hj).2
  ·intro h
   exact .inr (List.mem_map.2 ⟨l, List.mem_filter.2 ⟨List.mem_range.2 (by omega), decide_eq_true h⟩, rfl⟩)
theorem wl_range {m i : Nat} {s : List (List Int)} {p : List Int} : (∀ x ∈ wl m s p i, -1 ≤ x ∧ x < m) ∧ (wl m s p i).length ≤ m + 1 := by
 unfold wl
 refine ⟨fun x hx => ?_, ?_⟩
 ·rcases List.mem_append.1 hx with h | h
  ·split at h
   ·simp at h; omega
   ·cases h
  ·obtain ⟨j, hj, rfl⟩ := List.mem_map.1 h
   have := List.mem_range.1 (List.mem_filter.1 hj).1
   omega
 ·rw [List.length_append, List.length_map]
  have := List.length_filter_le (fun l => decide (gv s p i l = mxg m s p i)) (List.range m)
  rw [List.length_range] at this
  split <;> simp <;> omega
section
variable {m i F : Nat} {s : List (List Int)} {M : Mm} {p : List Int}
def mbG (n g : Nat) : List Int := ((List.range n).filter (g.testBit ·)).map (fun (l : Nat) => (l : Int))
def pcN (L : Nat) : Nat := ((List.range 5).filter (L.testBit ·)).length
end
end
section
section
variable {m F : Nat} {s : List (List Int)} {p : List Int}
theorem f86_p1_eq {b : Nat} (hv : Vs m s) (hp : Pd m p) (hb : b < s.length) : ∀ (k j : Nat), j ≤ m → m < k + j → f86_p1 F s p b k (mxw (gv s p b) j) j = some (mxg m s p b) := by
 have hm := hv.m5
 have hlen := (hv.ok _ (List.getElem_mem hb)).1
 have hpl := hp.len
 intro k
 induction k with
 | zero => intro j _ h; omega
 | succ k ih =>
  intro j h1 h2
  unfold f86_p1
  by_cases hj : j < m
  ·have hg := gv_bd (i := b) hv hp hj
   have e : s[b][j]'(by omega) - p[j]'(by omega) = gv s p b j := by
    unfold gv
    rw [← va_at hv hb hj (by omega), pr_nat (by omega)]
   rw [if_pos (by simp; omega), at_get hb, Option.bind_some, at_get (by omega), Option.bind_some, at_get (by omega), Option.bind_some, w64_succ (by omega), e, w64_in (n := gv s p b j) (by omega)]
   have := ih (j + 1) (by omega) (by omega)
   rw [mxw] at this
   exact this
  ·rw [if_neg (by simp; omega)]
   obtain rfl : j = m := by omega
   rfl
theorem f86_p6_eq {b : Nat} (hv : Vs m s) (hp : Pd m p) (hb : b < s.length) {b0 : List Int} (hb0 : b0.length ≤ 1) : ∀ (k j : Nat), j ≤ m → m < k + j → f86_p6 F s p b (mxg m s p b) k j (b0 ++ ((List.range j).filter fun l => decide (gv s p b l = mxg m s p b)).map (fun (l : Nat) => (l : Int))) = some (b0 ++ ((List.range m).filter fun l => decide (gv s p b l = mxg m s p b)).map (fun (l : Nat) => (l : Int))) := by
 have hm := hv.m5
 have hlen := (hv.ok _ (List.getElem_mem hb)).1
 have hpl := hp.len
 intro k
 induction k with
 | zero => intro j _ h; omega
 | succ k ih =>
  intro j h1 h2
  unfold f86_p6
  by_cases hj : j < m
  ·have hg := gv_bd (i := b) hv hp hj
   have e : s[b][j]'(by omega) - p[j]'(by omega) = gv s p b j := by
    unfold gv
    rw [← va_at hv hb hj (by omega), pr_nat (by omega)]
   have hlf := List.length_filter_le (fun l => decide (gv s p b l = mxg m s p b)) (List.range j)
   rw [List.length_range] at hlf
   have := ih (j + 1) (by omega) (by omega)
   rw [fr_succ] at this
   rw [if_pos (by simp; omega), at_get hb, Option.bind_some, at_get (by omega), Option.bind_some, at_get (by omega), Option.bind_some, w64_succ (by omega)]
   unfold f86_p9
   rw [e, w64_in (n := gv s p b j) (by omega)]
   by_cases ht : gv s p b j = mxg m s p b
   ·rw [if_pos (decide_eq_true ht)] at this
    rw [if_pos (by simpa using ht), req_pos (by simp; omega), Option.bind_some, List.append_assoc]
    exact this
   ·rw [if_neg (by simpa using ht), List.append_nil] at this
    rw [if_neg (by simpa using ht), Option.bind_some]
    exact this
  ·rw [if_neg (by simp; omega)]
   obtain rfl : j = m := by omega
   rfl
theorem f86_p6_1_is {b x : Int} : ∀ (k : Nat) (j : Int) (l : List Int), f86_p6_1 F s p b x k j l = f86_p6 F s p b x k j l := by
 intro k
 induction k with
 | zero => intro j l; rfl
 | succ k ih =>
  intro j l
  unfold f86_p6_1 f86_p6
  simp only [ih]
  rfl
theorem f86_eq {b : Nat} (hF : 100 ≤ F) (hv : Vs m s) (hp : Pd m p) (hb : b < s.length) : f86 F s p b = some (wl m s p b) := by
 have hm := hv.m5
 have e := fun (b0 : List Int) hb0 => f86_p6_eq (F := F) (b0 := b0) hv hp hb hb0 F 0 (by omega) (by omega)
 rw [show ((List.range 0).filter fun l => decide (gv s p b l = mxg m s p b)).map (fun (l : Nat) => (l : Int)) = [] from rfl] at e
 unfold f86
 rw [show f86_p1 F s p b F 0 0 = _ from f86_p1_eq hv hp hb F 0 (by omega) (by omega), Option.bind_some]
 unfold f86_p4 wl
 by_cases h0 : mxg m s p b = 0
 ·have := e [-1] (by simp)
  rw [List.append_nil] at this
  rw [if_pos (by simpa using h0), req_pos (by simp), Option.bind_some]
  dsimp only
  rw [show f86_p6 F s p b (mxg m s p b) F 0 [-1] = _ from this, Option.bind_some, take0, if_pos h0]
 ·have := e [] (by simp)
  rw [List.append_nil] at this
  rw [if_neg (by simpa using h0), Option.bind_some]
  dsimp only
  rw [f86_p6_1_is, show f86_p6 F s p b (mxg m s p b) F 0 [] = _ from this, Option.bind_some, take0, if_neg h0]
def anyM (m : Nat) (s : List (List Int)) (p g : List Int) (l : Int) : Bool := g.any fun x => decide (l ∈ wl m s p x.toNat)
theorem f90_p5_eq (hF : 100 ≤ F) (hv : Vs m s) (hp : Pd m p) {g : List Int} (hg : ∀ x ∈ g, 0 ≤ x ∧ x < s.length) (hgl : g.length ≤ 20) {l : Nat} : ∀ (k i : Nat) (c : Bool) (out : List Int), i ≤ g.length → g.length < k + i → out.length ≤ 20 →
  f90_p5_1 F s p g l k c i out = some (c || anyM m s p (g.drop i) (-1), if (l : Int) ∈ out then out else if anyM m s p (g.drop i) l = true then out ++ [(l : Int)] else out) := by
 have hm := hv.m5
 intro k
 induction k with
 | zero => intro i c out _ h; omega
 | succ k ih =>
  intro i c out h1 h2 h3
  unfold f90_p5_1
  by_cases hi : i < g.length
  ·obtain ⟨x, hx⟩ : ∃ x : Nat, g[i] = x := ⟨g[i].toNat, by have := hg _ (List.getElem_mem hi); omega⟩
   have hr := hg _ (List.getElem_mem hi)
   have hwl := (wl_range (m := m) (i := x) (s := s) (p := p)).2
   have ea : ∀ y, anyM m s p (g.drop i) y = (decide (y ∈ wl m s p x) || anyM m s p (g.drop (i + 1)) y) := fun y => by
    unfold anyM
    rw [drop_cons hi, List.any_cons, hx, Int.toNat_natCast]
   rw [hx] at hr
   rw [if_pos (by simp; omega), at_get hi, Option.bind_some, hx, f86_eq hF hv hp (by omega), Option.bind_some, w64_succ (by omega), ea, ea]
   have put : ∀ c : Bool, (if decide ((l : Int) ∈ wl m s p x) = true then
      Option.bind (if (l : Int) ∈ out then some out else some (out ++ [(l : Int)])) fun x36 => f90_p5_1 F s p g l k c ((i + 1 : Nat) : Int) x36
     else f90_p5_1 F s p g l k c ((i + 1 : Nat) : Int) out) = some (c || anyM m s p (g.drop (i + 1)) (-1), if (l : Int) ∈ out then out else if (decide ((l : Int) ∈ wl m s p x) || anyM m s p (g.drop (i + 1)) l) = true then out ++ [(l : Int)] else out) := fun c => by
    by_cases hw : (l : Int) ∈ wl m s p x
    ·rw [if_pos (decide_eq_true hw), decide_eq_true hw, Bool.true_or, if_pos rfl]
     by_cases ho : (l : Int) ∈ out
     ·rw [if_pos ho, if_pos ho, Option.bind_some, ih (i + 1) c out (by omega) (by omega) h3, if_pos ho]
     ·rw [if_neg ho, if_neg ho, Option.bind_some]
      by_cases h19 : out.length ≤ 19
      ·rw [ih (i + 1) c _ (by omega) (by omega) (by simp; omega), if_pos (by simp)]
      ·have key : ∀ (k i : Nat) (c : Bool) (out : List Int), i ≤ g.length → g.length < k + i → out.length ≤ 21 → (l : Int) ∈ out → f90_p5_1 F s p g l k c i out = some (c || anyM m s p (g.drop i) (-1), out) := by
        intro k
        induction k with
        | zero => intro i c out _ h; omega
        | succ k ih =>
         intro i c out h1 h2 h3 ho
         unfold f90_p5_1
         by_cases hi : i < g.length
         ·obtain ⟨x, hx⟩ : ∃ x : Nat, g[i] = x := ⟨g[i].toNat, by have := hg _ (List.getElem_mem hi); omega⟩
          have hr := hg _ (List.getElem_mem hi)
          have hwl := (wl_range (m := m) (i := x) (s := s) (p := p)).2
          rw [hx] at hr
          have ea : anyM m s p (g.drop i) (-1) = (decide ((-1 : Int) ∈ wl m s p x) || anyM m s p (g.drop (i + 1)) (-1)) := by
           unfold anyM
           rw [drop_cons hi, List.any_cons, hx, Int.toNat_natCast]
          rw [if_pos (by simp; omega), at_get hi, Option.bind_some, hx, f86_eq hF hv hp (by omega), Option.bind_some, w64_succ (by omega), ea, take0, f74_eq (x := (l : Int)) (by omega : (wl m s p x).length ≤ 50) hF, f74_eq (x := (-1 : Int)) (by omega : (wl m s p x).length ≤ 50) hF, f74_eq (by omega : out.length ≤ 50) hF]
          simp only [Option.bind_some, f90_p8_3, f90_p8_4, decide_eq_true ho, if_true]
          cases c with
          | true =>
           rw [if_pos rfl, Bool.true_or]
           have := ih (i + 1) true out (by omega) (by omega) h3 ho
           rw [Bool.true_or] at this
           split <;> exact this
          | false =>
           rw [if_neg (by decide), Bool.false_or]
           have := ih (i + 1) (decide ((-1 : Int) ∈ wl m s p x)) out (by omega) (by omega) h3 ho
           split <;> exact this
         ·rw [if_neg (by simp; omega), List.drop_eq_nil_of_le (by omega)]
          simp [anyM]
       exact key k (i + 1) c _ (by omega) (by omega) (by simp; omega) (by simp)
    ·rw [if_neg (by simpa using hw), decide_eq_false hw, Bool.false_or]
     exact ih (i + 1) c out (by omega) (by omega) h3
   have e8 : ∀ c : Bool, f90_p8_3 F s p g out l i (decide ((l : Int) ∈ out)) = if (l : Int) ∈ out then some out else some (out ++ [(l : Int)]) := fun c => by
    unfold f90_p8_3
    by_cases ho : (l : Int) ∈ out
    ·rw [if_pos (decide_eq_true ho), if_pos ho]
    ·rw [if_neg (by simpa using ho), if_neg ho, req_pos (by simp; omega)]
   have e8' : ∀ c : Bool, f90_p8_4 F s p g out c l i (decide ((l : Int) ∈ out)) = if (l : Int) ∈ out then some out else some (out ++ [(l : Int)]) := fun c => by
    unfold f90_p8_4
    by_cases ho : (l : Int) ∈ out
    ·rw [if_pos (decide_eq_true ho), if_pos ho]
    ·rw [if_neg (by simpa using ho), if_neg ho, req_pos (by simp; omega)]
   cases c with
   | true =>
    rw [if_pos rfl, f74_eq (by omega) hF, Option.bind_some, take0, f74_eq (by omega) hF, Option.bind_some, e8 true]
    have := put true
    rw [Bool.true_or] at this ⊢
    exact this
   | false =>
    rw [if_neg (by decide), f74_eq (by omega) hF, Option.bind_some, f74_eq (by omega) hF, Option.bind_some, take0, f74_eq (by omega) hF, Option.bind_some, e8']
    rw [Bool.false_or]
    exact put (decide ((-1 : Int) ∈ wl m s p x))
  ·rw [if_neg (by simp; omega), List.drop_eq_nil_of_le (by omega)]
   simp [anyM]
theorem f90_p1_eq (hF : 100 ≤ F) (hv : Vs m s) (hp : Pd m p) {g : List Int} (hg : ∀ x ∈ g, 0 ≤ x ∧ x < s.length) (hgl : g.length ≤ 20) : ∀ (k l : Nat) (c : Bool), l ≤ m → m < k + l →
  f90_p1 F s p g k c l (((List.range l).filter fun (y : Nat) => anyM m s p g y).map (fun (y : Nat) => (y : Int))) = some (c || (decide (l < m) && anyM m s p g (-1)), ((List.range m).filter fun (y : Nat) => anyM m s p g y).map (fun (y : Nat) => (y : Int))) := by
 have hm := hv.m5
 have hpl := hp.len
 intro k
 induction k with
 | zero => intro l c _ h; omega
 | succ k ih =>
  intro l c h1 h2
  unfold f90_p1
  by_cases hl : l < m
  ·have hlf := List.length_filter_le (fun (y : Nat) => anyM m s p g y) (List.range l)
   rw [List.length_range] at hlf
   have hno : (l : Int) ∉ ((List.range l).filter fun (y : Nat) => anyM m s p g y).map (fun (y : Nat) => (y : Int)) := fun h => by
    obtain ⟨y, hy, e⟩ := List.mem_map.1 h
    have := List.mem_range.1 (List.mem_filter.1 hy).1
    omega
   have e5 := f90_p5_eq (l := l) hF hv hp hg hgl F 0 c (((List.range l).filter fun (y : Nat) => anyM m s p g y).map (fun (y : Nat) => (y : Int))) (by omega) (by omega) (by simp; omega)
   rw [List.drop_zero, if_neg hno] at e5
   rw [if_pos (by simp; omega), show f90_p5_1 F s p g l F c 0 _ = _ from e5, Option.bind_some, w64_succ (by omega)]
   dsimp only
   have := ih (l + 1) (c || anyM m s p g (-1)) (by omega) (by omega)
   rw [fr_succ] at this
   have e : (if anyM m s p g l = true then ((List.range l).filter fun (y : Nat) => anyM m s p g y).map (fun (y : Nat) => (y : Int)) ++ [(l : Int)] else ((List.range l).filter fun (y : Nat) => anyM m s p g y).map (fun (y : Nat) => (y : Int))) = ((List.range l).filter fun (y : Nat) => anyM m s p g y).map (fun (y : Nat) => (y : Int)) ++ (if anyM m s p g l = true then [(l : Int)] else []) := by
    split
    ·rfl
    ·rw [List.append_nil]
   rw [e, this, decide_eq_true hl]
   cases c <;> cases anyM m s p g (-1) <;> simp
  ·rw [if_neg (by simp; omega)]
   obtain rfl : l = m := by omega
   simp
def badL (m : Nat) (s : List (List Int)) (p g : List Int) : Bool := !anyM m s p g (-1) && decide (((List.range m).filter fun (y : Nat) => anyM m s p g y).length < g.length)
theorem f90_eq (hF : 100 ≤ F) (hv : Vs m s) (hp : Pd m p) (h0 : 0 < m) {g : List Int} (hg : ∀ x ∈ g, 0 ≤ x ∧ x < s.length) (hgl : g.length ≤ 20) : f90 F s p g = some (((List.range m).filter fun (y : Nat) => anyM m s p g y).map (fun (y : Nat) => (y : Int)), anyM m s p g (-1)) := by
 have hm := hv.m5
 have e := f90_p1_eq hF hv hp hg hgl F 0 false (by omega) (by omega)
 unfold f90
 rw [show f90_p1 F s p g F false 0 [] = _ from e, Option.bind_some]
 dsimp only
 rw [take0, decide_eq_true h0, Bool.true_and, Bool.false_or]
def nxt (b : List Int) : Nat := match b.getLast? with | none => 0 | some y => y.toNat + 1
def extG (n : Nat) : Nat → List Int → List (List Int)
 | 0, b => [b]
 | k + 1, b => ((List.range n).drop (nxt b)).flatMap fun (x : Nat) => extG n k (b ++ [(x : Int)])
def res103 (o : Option (List Int)) : f103_R := match o with | none => .c0 | some l => .c1 l
theorem f103_p2_eq {b : List Int} (hb : ∀ x ∈ b, 0 ≤ x ∧ x < 100) (hbl : b.length ≤ 50) {k : Int} : f103_p2 F s p b k = some ((nxt b : Nat) : Int) := by
 unfold f103_p2 nxt
 by_cases h : b = []
 ·subst h; rw [if_neg (by simp)]; rfl
 ·have hl : 0 < b.length := List.length_pos_iff.2 h
  have hx := hb _ (List.getLast_mem h)
  have e : at? b ((b.length : Int) - 1) = some (b.getLast h) := by
   rw [show ((b.length : Int) - 1) = ((b.length - 1 : Nat) : Int) by omega, at_get (by omega), List.getLast_eq_getElem]
  have eL : b.getLast? = some (b.getLast h) := by rw [List.getLast?_eq_some_getLast h]
  rw [if_pos (by simpa using hl), w64_in (by omega), e, Option.bind_some, eL, w64_in (by omega)]
  dsimp only
  congr 1
  omega
theorem find_flat1 {α : Type} {P : List Int → Bool} {G : α → List (List Int)} (x : α) (xs : List α) : ((x :: xs).flatMap G).find? P = (((G x).find? P).or ((xs.flatMap G).find? P)) := by
 rw [List.flatMap_cons, List.find?_append]
theorem f103_eq (hF : 100 ≤ F) (hv : Vs m s) (hp : Pd m p) (h0 : 0 < m) : ∀ (q k : Nat) (b : List Int), q < k → (∀ x ∈ b, 0 ≤ x ∧ x < s.length) → b.length + q ≤ 10 → f103 F k s p b q = some (res103 ((extG s.length q b).find? (badL m s p))) := by
 have hn := hv.n
 intro q
 induction q with
 | zero =>
  intro k b h1 h2 h3
  obtain ⟨k, rfl⟩ : ∃ r, k = r + 1 := ⟨k - 1, by omega⟩
  show f103_b F (f103 F k) s p b 0 = _
  unfold f103_b
  rw [if_pos (by decide), f90_eq hF hv hp h0 h2 (by omega), Option.bind_some]
  dsimp only
  unfold extG
  rw [List.find?_cons]
  unfold badL
  cases hany : anyM m s p b (-1) with
  | true => rw [if_pos rfl]; rfl
  | false =>
   rw [if_neg (by decide), List.length_map]
   by_cases hc : ((List.range m).filter fun (y : Nat) => anyM m s p b y).length < b.length
   ·rw [if_pos (by simpa using hc), decide_eq_true hc]; rfl
   ·rw [if_neg (by simpa using hc), decide_eq_false hc]; rfl
 | succ q ih =>
  intro k b h1 h2 h3
  obtain ⟨k, rfl⟩ : ∃ r, k = r + 1 := ⟨k - 1, by omega⟩
  show f103_b F (f103 F k) s p b ((q + 1 : Nat) : Int) = _
  have loop : ∀ (r j : Nat), j ≤ s.length + 1 → s.length + 1 < r + j → f103_p4 F (f103 F k) s p b ((q + 1 : Nat) : Int) r j = some (match (((List.range s.length).drop j).flatMap fun (x : Nat) => extG s.length q (b ++ [(x : Int)])).find? (badL m s p) with | none => .c1 | some l => .c0 l) := by
   intro r
   induction r with
   | zero => intro j _ h; omega
   | succ r ihr =>
    intro j h4 h5
    unfold f103_p4
    by_cases hj : j < s.length
    ·have hd : (List.range s.length).drop j = j :: (List.range s.length).drop (j + 1) := by rw [List.drop_eq_getElem_cons (by simpa using hj)]; simp
     have hrec := ih k (b ++ [(j : Int)]) (by omega) (fun x hx => by
      rcases List.mem_append.1 hx with hx | hx
      ·exact h2 x hx
      ·simp at hx; omega) (by simp; omega)
     rw [if_pos (by simp; omega), req_pos (by simp; omega), req_pos (by simp; omega), take0, List.nil_append, w64_in (by omega), show ((q + 1 : Nat) : Int) - 1 = (q : Int) by omega, hrec, Option.bind_some, hd, find_flat1]
     cases hf : (extG s.length q (b ++ [(j : Int)])).find? (badL m s p) with
     | none =>
      unfold res103
      dsimp only
      rw [Option.none_or, w64_succ (by omega)]
      exact ihr (j + 1) (by omega) (by omega)
     | some l =>
      have hbad := List.find?_some hf
      have hne : l ≠ [] := fun e => by
       subst e
       unfold badL at hbad
       simp at hbad
      unfold res103
      dsimp only
      rw [req_pos hne, Option.some_or]
    ·rw [if_neg (by simp; omega), List.drop_eq_nil_of_le (by simp; omega)]
     rfl
  unfold f103_b
  rw [if_neg (by simp; omega), f103_p2_eq (fun x hx => by have := h2 x hx; omega) (by omega), Option.bind_some]
  have hnx : nxt b ≤ s.length + 1 := by
   unfold nxt
   cases hg : b.getLast? with
   | none => dsimp only; omega
   | some y =>
    have := h2 y (List.mem_of_getLast? hg)
    dsimp only; omega
  rw [loop F (nxt b) hnx (by omega), Option.bind_some, extG]
  cases (((List.range s.length).drop (nxt b)).flatMap fun (x : Nat) => extG s.length q (b ++ [(x : Int)])).find? (badL m s p) <;> rfl
def allG (n : Nat) : List (List Int) := (List.range n).flatMap fun k => extG n (k + 1) []
theorem f87_p1_eq (hF : 100 ≤ F) (hv : Vs m s) (hp : Pd m p) (h0 : 0 < m) : ∀ (k q : Nat), q ≤ s.length → s.length < k + q → f87_p1 F s p k ((q + 1 : Nat) : Int) = some (match (((List.range s.length).drop q).flatMap fun k => extG s.length (k + 1) []).find? (badL m s p) with | none => .c1 | some l => .c0 l) := by
 have hn := hv.n
 have hpl := hp.len
 intro k
 induction k with
 | zero => intro q _ h; omega
 | succ k ih =>
  intro q h1 h2
  unfold f87_p1
  by_cases hq : q < s.length
  ·have hd : (List.range s.length).drop q = q :: (List.range s.length).drop (q + 1) := by rw [List.drop_eq_getElem_cons (by simpa using hq)]; simp
   rw [if_pos (by simp; omega), if_pos (by simp; omega), f103_eq hF hv hp h0 (q + 1) F [] (by omega) (by simp) (by simp; omega), Option.bind_some, hd, find_flat1]
   cases hf : (extG s.length (q + 1) []).find? (badL m s p) with
   | none =>
    unfold res103
    dsimp only
    rw [Option.none_or, w64_succ (by omega)]
    exact ih (q + 1) (by omega) (by omega)
   | some l =>
    have hbad := List.find?_some hf
    have hne : l ≠ [] := fun e => by
     subst e
     unfold badL at hbad
     simp at hbad
    unfold res103
    dsimp only
    rw [req_pos hne, Option.some_or]
  ·rw [if_neg (by simp; omega), List.drop_eq_nil_of_le (by simp; omega)]
   rfl
end

def mskG (l : List Int) : Nat := l.foldl (fun a x => a + 2 ^ x.toNat) 0
def keyG (g : Nat) : Nat := pcN g * 32 + (31 - ((List.range 5).filter (g.testBit ·)).foldl (fun a i => a + 2 ^ (4 - i)) 0)
def permG (n : Nat) : List Nat := (allG n).map mskG
def lookG1 : Bool := (List.range 6).all fun n => decide (allG n = (permG n).map (mbG n)) && ((List.range (2 ^ n)).all fun g => decide (g = 0 ∨ g ∈ permG n)) && ((permG n).all fun g => decide (1 ≤ g ∧ g < 2 ^ n)) && decide ((permG n).Pairwise fun g h => keyG g < keyG h) && ((List.range (2 ^ n)).all fun g => decide (mbG n g = mbG 5 g))
theorem lookG1_true : lookG1 = true := by decide +kernel
theorem look_G1 {n : Nat} (hn : n ≤ 5) : allG n = (permG n).map (mbG n) ∧ (∀ g, 1 ≤ g → g < 2 ^ n → g ∈ permG n) ∧ (∀ g ∈ permG n, 1 ≤ g ∧ g < 2 ^ n) ∧ (permG n).Pairwise (fun g h => keyG g < keyG h) ∧ ∀ g, g < 2 ^ n → mbG n g = mbG 5 g := by
 have h := lookG1_true
 unfold lookG1 at h
 simp only [List.all_eq_true, List.mem_range, Bool.and_eq_true, decide_eq_true_eq] at h
 obtain ⟨⟨⟨⟨h1, h2⟩, h3⟩, h4⟩, h5⟩ := h n (by omega)
 exact ⟨h1, fun g g1 g2 => (h2 g g2).resolve_left (by omega), h3, h4, h5⟩
section
variable {m : Nat} {s : List (List Int)} {p : List Int}
theorem anyM_iff {g : Nat} {l : Int} (hl : -1 ≤ l ∧ l < m) : anyM m s p (mbG s.length g) l = true ↔ ∃ i, i < s.length ∧ g.testBit i = true ∧ owng s p i l = mxg m s p i := by
 unfold anyM mbG
 simp only [List.any_eq_true, decide_eq_true_eq]
 constructor
 ·rintro ⟨x, hx, h⟩
  obtain ⟨i, hi, rfl⟩ := List.mem_map.1 hx
  rw [Int.toNat_natCast] at h
  obtain ⟨h1, h2⟩ := List.mem_filter.1 hi
  exact ⟨i, List.mem_range.1 h1, h2, (mem_wl hl).1 h⟩
 ·rintro ⟨i, h1, h2, h3⟩
  exact ⟨(i : Int), List.mem_map.2 ⟨i, List.mem_filter.2 ⟨List.mem_range.2 h1, h2⟩, rfl⟩, by rw [Int.toNat_natCast]; exact (mem_wl hl).2 h3⟩
end
theorem f15_p2_some {F : Nat} {s : List (List Int)} (hs : s.length ≤ 30) : ∀ (k i : Nat), i ≤ s.length → s.length < k + i → ∃ r, f15_p2 F s k i = some r := by
 intro k
 induction k with
 | zero => intro i _ h; omega
 | succ k ih =>
  intro i h1 h2
  unfold f15_p2
  by_cases hi : i < s.length
  ·rw [if_pos (by simp; omega), at_get hi, Option.bind_some, w64_succ (by omega)]
   split
   ·exact ⟨_, rfl⟩
   ·exact ih (i + 1) (by omega) (by omega)
  ·rw [if_neg (by simp; omega)]
   exact ⟨_, rfl⟩
theorem f15_some {F : Nat} (hF : 100 ≤ F) (s : List (List Int)) : ∃ b, f15 F s = some b := by
 unfold f15
 by_cases h : (s.length : Int) > 30
 ·rw [if_pos (by simpa using h)]; exact ⟨_, rfl⟩
 ·rw [if_neg (by simpa using h)]
  obtain ⟨r, e⟩ := f15_p2_some (F := F) (s := s) (by omega) F 0 (by omega) (by omega)
  rw [show f15_p2 F s F 0 = _ from e, Option.bind_some]
  cases r <;> exact ⟨_, rfl⟩
end
section
theorem sub_len {α : Type} [BEq α] [LawfulBEq α] : ∀ (A C : List α), A.Nodup → (∀ x ∈ A, x ∈ C) → A.length ≤ C.length
 | [], _, _, _ => by simp
 | x :: A, C, h, hs => by
  have hx := hs x (List.mem_cons_self ..)
  have := sub_len A (C.erase x) (List.nodup_cons.1 h).2 fun y hy => by
   have hne : y ≠ x := fun e => (List.nodup_cons.1 h).1 (e ▸ hy)
   exact (List.mem_erase_of_ne hne).2 (hs y (List.mem_cons_of_mem _ hy))
  rw [List.length_erase_of_mem hx] at this
  have := List.length_pos_of_mem hx
  rw [List.length_cons]; omega
def cn (n : Nat) (f : Nat → Bool) : Nat := ((List.range n).filter f).length
theorem cn_split {n : Nat} (f q : Nat → Bool) : cn n f = cn n (fun i => f i && q i) + cn n (fun i => f i && !q i) := by
 unfold cn
 induction List.range n with
 | nil => rfl
 | cons x l ih =>
  simp only [List.filter_cons]
  cases hf : f x <;> cases hq : q x <;> simp_all <;> omega
theorem cn_pos {n i : Nat} {f : Nat → Bool} (hi : i < n) (h : f i = true) : 1 ≤ cn n f :=
 List.length_pos_of_mem (List.mem_filter.2 ⟨List.mem_range.2 hi, h⟩)
theorem nd_filter (n : Nat) (f : Nat → Bool) : ((List.range n).filter f).Nodup := List.Pairwise.filter _ List.nodup_range
theorem cn_le {n : Nat} {f g : Nat → Bool} (h : ∀ i, i < n → f i = true → g i = true) : cn n f ≤ cn n g :=
 sub_len _ _ (nd_filter n f) fun x hx => by
  obtain ⟨h1, h2⟩ := List.mem_filter.1 hx
  exact List.mem_filter.2 ⟨h1, h x (List.mem_range.1 h1) h2⟩
theorem cn_inj {n m : Nat} {f g : Nat → Bool} (t : Nat → Int) (h : ∀ i, i < n → f i = true → ∃ y : Nat, y < m ∧ g y = true ∧ t i = (y : Int)) (hi : ∀ i j, i < n → j < n → f i = true → f j = true → t i = t j → i = j) : cn n f ≤ cn m g := by
 have h1 : (((List.range n).filter f).map t).length ≤ (((List.range m).filter g).map fun y : Nat => (y : Int)).length := by
  refine sub_len _ _ ?_ fun x hx => ?_
  ·have hnd := nd_filter n f
   have hm : ∀ x ∈ (List.range n).filter f, x < n ∧ f x = true := fun x hx => by
    obtain ⟨a, b⟩ := List.mem_filter.1 hx; exact ⟨List.mem_range.1 a, b⟩
   generalize (List.range n).filter f = l at hnd hm
   induction l with
   | nil => simp
   | cons x l ih =>
    rw [List.map_cons, List.nodup_cons]
    refine ⟨fun hx => ?_, ih (List.nodup_cons.1 hnd).2 fun y hy => hm y (List.mem_cons_of_mem _ hy)⟩
    obtain ⟨y, hy, e⟩ := List.mem_map.1 hx
    have h1 := hm x (List.mem_cons_self ..)
    have h2 := hm y (List.mem_cons_of_mem _ hy)
    exact (List.nodup_cons.1 hnd).1 (hi y x h2.1 h1.1 h2.2 h1.2 e ▸ hy)
  ·obtain ⟨i, hi', rfl⟩ := List.mem_map.1 hx
   obtain ⟨a, b⟩ := List.mem_filter.1 hi'
   obtain ⟨y, y1, y2, y3⟩ := h i (List.mem_range.1 a) b
   exact List.mem_map.2 ⟨y, List.mem_filter.2 ⟨List.mem_range.2 y1, y2⟩, y3.symm⟩
 simpa [cn] using h1
section
variable {m : Nat} {s : List (List Int)} {p : List Int}
def wD (m : Nat) (s : List (List Int)) (p : List Int) (i : Nat) (x : Int) : Bool := decide (owng s p i x = mxg m s p i)
theorem wD_iff {i : Nat} {x : Int} (hx : -1 ≤ x ∧ x < m) : wD m s p i x = true ↔ 0 ≤ owng s p i x ∧ ∀ l : Nat, l < m → owng s p i l ≤ owng s p i x := by
 unfold wD
 rw [decide_eq_true_eq, ← own_iff hx]
 exact Iff.rfl
theorem wD_some {i : Nat} : wD m s p i (-1) = true ∨ ∃ l : Nat, l < m ∧ wD m s p i l = true := by
 rcases mxw_is (f := gv s p i) (j := m) with e | ⟨l, l1, l2⟩
 ·refine .inl (decide_eq_true ?_)
  rw [owng_none]; exact e.symm
 ·exact .inr ⟨l, l1, decide_eq_true l2.symm⟩
def an (m : Nat) (s : List (List Int)) (p : List Int) (f : Nat → Bool) (x : Int) : Bool := (List.range s.length).any fun i => f i && wD m s p i x
theorem an_iff {f : Nat → Bool} {x : Int} : an m s p f x = true ↔ ∃ i, i < s.length ∧ f i = true ∧ wD m s p i x = true := by
 unfold an
 simp only [List.any_eq_true, List.mem_range, Bool.and_eq_true]
def Bad (m : Nat) (s : List (List Int)) (p : List Int) (f : Nat → Bool) : Prop := an m s p f (-1) = false ∧ cn m (fun y => an m s p f y) < cn s.length f
theorem raise (hv : Vs m s) (hle : ∀ l : Nat, l < m → pr p l ≤ pr (lowP m s) l) {f : Nat → Bool} (hbad : Bad m s p f)
  (hmin : ∀ g : Nat → Bool, (∀ i, g i = true → f i = true) → cn s.length g < cn s.length f → ¬ Bad m s p g) {e : Nat} (he : e < m) (hn : an m s p f e = true) : pr p e < pr (lowP m s) e := by
 refine Classical.byContradiction fun hlt => ?_
 have hpe : pr p e = pr (lowP m s) e := by have := hle e he; omega
 obtain ⟨E, hE⟩ : ∃ E : Nat → Bool, E = fun y : Nat => decide (pr p (y : Int) = pr (lowP m s) (y : Int)) := ⟨_, rfl⟩
 have hEe : E e = true := by rw [hE]; exact decide_eq_true hpe
 obtain ⟨q, hq⟩ : ∃ q : Nat → Bool, q = fun i => (List.range m).any fun y => (an m s p f y && E y) && wD m s p i y := ⟨_, rfl⟩
 have hqi : ∀ i, q i = true ↔ ∃ y : Nat, y < m ∧ an m s p f y = true ∧ pr p y = pr (lowP m s) y ∧ wD m s p i y = true := by
  intro i; rw [hq, hE]
  simp only [List.any_eq_true, List.mem_range, Bool.and_eq_true, decide_eq_true_eq]
  constructor
  ·rintro ⟨y, h1, ⟨h2, h3⟩, h4⟩; exact ⟨y, h1, h2, h3, h4⟩
  ·rintro ⟨y, h1, h2, h3, h4⟩; exact ⟨y, h1, ⟨h2, h3⟩, h4⟩
 have c1 := cn_split (n := s.length) f q
 have c2 := cn_split (n := m) (fun y => an m s p f y) E
 obtain ⟨i0, hi0, hf0, hw0⟩ := an_iff.1 hn
 have c3 : 1 ≤ cn s.length (fun i => f i && q i) := cn_pos hi0 (by simp only [Bool.and_eq_true]; exact ⟨hf0, (hqi i0).2 ⟨e, he, hn, hpe, hw0⟩⟩)
 have hnone : ∀ i, i < s.length → f i = true → wD m s p i (-1) = false := fun i hi hf => by
  cases hw : wD m s p i (-1) with
  | false => rfl
  | true => have := an_iff.2 ⟨i, hi, hf, hw⟩; rw [hbad.1] at this; cases this
 -- the others of the group do not want too much
 have c4 : cn s.length (fun i => f i && !q i) ≤ cn m (fun y => an m s p (fun i => f i && !q i) y) := by
  have h := hmin (fun i => f i && !q i) (fun i hi => by simp only [Bool.and_eq_true] at hi; exact hi.1) (by omega)
  refine Nat.le_of_not_lt fun hl => h ⟨?_, hl⟩
  cases hw : an m s p (fun i => f i && !q i) (-1) with
  | false => rfl
  | true =>
   obtain ⟨i, h1, h2, h3⟩ := an_iff.1 hw
   simp only [Bool.and_eq_true] at h2
   rw [hnone i h1 h2.1] at h3; cases h3
 have c5 : cn m (fun y => an m s p (fun i => f i && !q i) y) ≤ cn m (fun y => an m s p f y && !E y) := by
  refine cn_le fun y hy h => ?_
  obtain ⟨i, h1, h2, h3⟩ := an_iff.1 h
  simp only [Bool.and_eq_true, Bool.not_eq_true'] at h2 ⊢
  have hay := an_iff.2 ⟨i, h1, h2.1, h3⟩
  refine ⟨hay, ?_⟩
  cases hEy : E y with
  | false => rfl
  | true =>
   rw [hE] at hEy
   have := (hqi i).2 ⟨y, hy, hay, of_decide_eq_true hEy, h3⟩
   rw [h2.2] at this; cases this
 -- those who want one of these lots get one of them in the lowest prices
 have hF := lowP_fair hv
 have hD := best_dv hv
 have hget : ∀ i, i < s.length → (f i && q i) = true → ∃ y : Nat, y < m ∧ (an m s p f y && E y) = true ∧ lot m s i = (y : Int) := by
  intro i hi hfq
  simp only [Bool.and_eq_true] at hfq
  obtain ⟨y, y1, y2, y3, y4⟩ := (hqi i).1 hfq.2
  obtain ⟨w1, w2⟩ := (wD_iff ⟨by omega, by omega⟩).1 y4
  have hnn := hnone i hi hfq.1
  have hpos : 0 < owng s p i y := by
   refine Classical.byContradiction fun h => ?_
   have h0 : owng s p i y = 0 := by omega
   have : wD m s p i (-1) = true := (wD_iff ⟨by omega, by omega⟩).2 ⟨by rw [owng_none]; decide, fun l hl => by rw [owng_none]; have := w2 l hl; omega⟩
   rw [hnn] at this; cases this
  have hr := hD.rg i hi
  have hb := hF.best i hi y y1
  have ho : owng s p i y = va s i y - pr p y := rfl
  by_cases hz : lot m s i = -1
  ·rw [hz, va_none, pr_neg] at hb
   omega
  ·obtain ⟨z, hz2⟩ : ∃ z : Nat, lot m s i = (z : Int) := ⟨(lot m s i).toNat, by omega⟩
   rw [hz2] at hr hb
   have hzm : z < m := by omega
   have h1 := w2 z hzm
   have h2 : owng s p i z = va s i z - pr p z := rfl
   have h3 := hle z hzm
   refine ⟨z, hzm, ?_, hz2⟩
   rw [hE]
   simp only [Bool.and_eq_true, decide_eq_true_eq]
   have hpz : pr p z = pr (lowP m s) z := by omega
   refine ⟨an_iff.2 ⟨i, hi, hfq.1, (wD_iff ⟨by omega, by omega⟩).2 ⟨by omega, fun l hl => ?_⟩⟩, hpz⟩
   have := w2 l hl; omega
 have c6 : cn s.length (fun i => f i && q i) ≤ cn m (fun y => an m s p f y && E y) :=
  cn_inj (lot m s) hget fun i j hi hj h1 _ h3 => hD.inj i j hi hj h3 (by
   obtain ⟨y, _, _, e⟩ := hget i hi h1
   omega)
 have := hbad.2
 omega
theorem settled (hv : Vs m s) (hlen : p.length = m) (h0 : ∀ l : Nat, l < m → 0 ≤ pr p l) (hle : ∀ l : Nat, l < m → pr p l ≤ pr (lowP m s) l) (hno : ∀ f : Nat → Bool, ¬ Bad m s p f) : p = lowP m s := by
 have hF := lowP_fair hv
 have hD := best_dv hv
 refine pr_ext hv hlen lowP_len fun l hl => Classical.byContradiction fun hne => ?_
 have hl1 : pr p l < pr (lowP m s) l := by have := hle l hl; omega
 obtain ⟨T, hT⟩ : ∃ T : Nat → Bool, T = fun y : Nat => decide (pr p (y : Int) < pr (lowP m s) (y : Int)) := ⟨_, rfl⟩
 have hTi : ∀ y, T y = true ↔ pr p y < pr (lowP m s) y := fun y => by rw [hT, decide_eq_true_eq]
 obtain ⟨B, hB⟩ : ∃ B : Nat → Bool, B = fun i => decide (0 ≤ lot m s i) && T (lot m s i).toNat := ⟨_, rfl⟩
 have hBi : ∀ i, B i = true ↔ ∃ y : Nat, lot m s i = (y : Int) ∧ T y = true := fun i => by
  rw [hB]; simp only [Bool.and_eq_true, decide_eq_true_eq]
  constructor
  ·rintro ⟨h1, h2⟩; exact ⟨_, by omega, h2⟩
  ·rintro ⟨y, h1, h2⟩; rw [h1, Int.toNat_natCast]; exact ⟨by omega, h2⟩
 -- all of these lots are sold
 have hsold : ∀ y, y < m → T y = true → ∃ i, i < s.length ∧ lot m s i = (y : Int) := by
  intro y hy ht
  refine Classical.byContradiction fun h => ?_
  have h1 := hF.free y hy fun i hi e => h ⟨i, hi, e⟩
  have h2 := (hTi y).1 ht
  have h3 := h0 y hy
  omega
 have c1 : cn m T ≤ cn s.length B := by
  have h1 : (((List.range m).filter T).map fun y : Nat => (y : Int)).length ≤ (((List.range s.length).filter B).map (lot m s)).length := by
   refine sub_len _ _ ?_ fun x hx => ?_
   ·have hnd := nd_filter m T
    generalize (List.range m).filter T = l at hnd
    induction l with
    | nil => simp
    | cons x l ih =>
     rw [List.map_cons, List.nodup_cons]
     refine ⟨fun hx => ?_, ih (List.nodup_cons.1 hnd).2⟩
     obtain ⟨y, hy, e⟩ := List.mem_map.1 hx
     have : y = x := by omega
     exact (List.nodup_cons.1 hnd).1 (this ▸ hy)
   ·obtain ⟨y, hy, rfl⟩ := List.mem_map.1 hx
    obtain ⟨a, b⟩ := List.mem_filter.1 hy
    obtain ⟨i, i1, i2⟩ := hsold y (List.mem_range.1 a) b
    exact List.mem_map.2 ⟨i, List.mem_filter.2 ⟨List.mem_range.2 i1, (hBi i).2 ⟨y, i2, b⟩⟩, i2⟩
  simpa [cn] using h1
 -- somebody else wants one of them, too
 have hex : ∃ j, j < s.length ∧ B j = false ∧ ∃ t : Nat, t < m ∧ T t = true ∧ va s j (lot m s j) - pr (lowP m s) (lot m s j) ≤ va s j t - pr (lowP m s) t := by
  refine Classical.byContradiction fun hc => ?_
  have hc : ∀ j, j < s.length → B j = false → ∀ t : Nat, t < m → T t = true → va s j t - pr (lowP m s) t < va s j (lot m s j) - pr (lowP m s) (lot m s j) := fun j hj hb t ht htt =>
   Int.not_le.1 fun h => hc ⟨j, hj, hb, t, ht, htt, h⟩
  have hP' : ∀ y : Nat, y < m → pr ((List.range m).map fun y : Nat => pr (lowP m s) (y : Int) - if T y = true then 1 else 0) y = pr (lowP m s) y - if T y = true then 1 else 0 := fun y hy => by
   rw [pr_nat (by simpa using hy)]; simp
  have hfair : Fp s.length m (va s) ((List.range m).map fun y : Nat => pr (lowP m s) (y : Int) - if T y = true then 1 else 0) (lot m s) := by
   refine ⟨by simp, fun y hy => ?_, fun i hi => ?_, fun i hi y hy => ?_, fun y hy hu => ?_⟩
   ·rw [hP' y hy]
    have h1 := h0 y hy
    have h2 := hF.nn y hy
    by_cases ht : T y = true
    ·rw [if_pos ht]; have := (hTi y).1 ht; omega
    ·rw [if_neg ht]; omega
   ·have h1 := hF.own i hi
    have hr := hD.rg i hi
    by_cases hz : lot m s i = -1
    ·rw [hz] at h1 ⊢; exact h1
    ·obtain ⟨z, hz2⟩ : ∃ z : Nat, lot m s i = (z : Int) := ⟨(lot m s i).toNat, by omega⟩
     rw [hz2] at h1 hr ⊢
     rw [hP' z (by omega)]
     split <;> omega
   ·have h1 := hF.best i hi y hy
    have hr := hD.rg i hi
    rw [hP' y hy]
    by_cases hb : B i = true
    ·obtain ⟨z, z1, z2⟩ := (hBi i).1 hb
     rw [z1] at h1 hr ⊢
     rw [hP' z (by omega), if_pos z2]
     split <;> omega
    ·have hb : B i = false := by simpa using hb
     have e : pr ((List.range m).map fun y : Nat => pr (lowP m s) (y : Int) - if T y = true then 1 else 0) (lot m s i) = pr (lowP m s) (lot m s i) := by
      by_cases hz : lot m s i = -1
      ·rw [hz]; rfl
      ·obtain ⟨z, hz2⟩ : ∃ z : Nat, lot m s i = (z : Int) := ⟨(lot m s i).toNat, by omega⟩
       rw [hz2] at hr ⊢
       have hTz : ¬ T z = true := fun h => by have := (hBi i).2 ⟨z, hz2, h⟩; rw [hb] at this; cases this
       rw [hP' z (by omega), if_neg hTz]; omega
     rw [e]
     by_cases ht : T y = true
     ·rw [if_pos ht]; have := hc i hi hb y hy ht; omega
     ·rw [if_neg ht]; omega
   ·have h1 := hF.free y hy hu
    have hTy : ¬ T y = true := fun h => by have := (hTi y).1 h; have := h0 y hy; omega
    rw [hP' y hy, if_neg hTy, h1]; rfl
  have := lowP_least hv hfair hl
  rw [hP' l hl, if_pos ((hTi l).2 hl1)] at this
  omega
 obtain ⟨j, hj, hbj, t, ht, htt, hjt⟩ := hex
 -- they all together want too much
 have hwant : ∀ i, i < s.length → (B i || decide (i = j)) = true → ∃ x : Nat, x < m ∧ T x = true ∧ ∀ y : Int, -1 ≤ y ∧ y < m → (∀ z : Nat, y = (z : Int) → T z = false) → owng s p i y < owng s p i x := by
  intro i hi h
  have hkey : ∃ x : Nat, x < m ∧ T x = true ∧ ∀ y : Int, -1 ≤ y ∧ y < m → va s i y - pr (lowP m s) y ≤ va s i x - pr (lowP m s) x := by
   have hopt := fun y hy => hF.opts (va_none s) hi (x := y) hy
   rw [Bool.or_eq_true, decide_eq_true_eq] at h
   rcases h with h | rfl
   ·obtain ⟨z, z1, z2⟩ := (hBi i).1 h
    have hr := hD.rg i hi
    rw [z1] at hopt hr
    exact ⟨z, by omega, z2, hopt⟩
   ·exact ⟨t, ht, htt, fun y hy => Int.le_trans (hopt y hy) hjt⟩
  obtain ⟨x, x1, x2, x3⟩ := hkey
  refine ⟨x, x1, x2, fun y hy hn => ?_⟩
  have h1 := x3 y hy
  have h2 := (hTi x).1 x2
  have h3 : owng s p i x = va s i x - pr p x := rfl
  have h4 : owng s p i y = va s i y - pr p y := rfl
  have h5 : pr p y = pr (lowP m s) y := by
   by_cases hz : y = -1
   ·rw [hz]; rfl
   ·have hT0 := hn y.toNat (by omega)
    have h6 := hle y.toNat (by omega)
    have h7 : ¬ pr p (y.toNat : Nat) < pr (lowP m s) (y.toNat : Nat) := fun h => by rw [(hTi _).2 h] at hT0; cases hT0
    rw [show ((y.toNat : Nat) : Int) = y by omega] at h6 h7
    omega
  omega
 refine hno (fun i => B i || decide (i = j)) ⟨?_, ?_⟩
 ·cases hw : an m s p (fun i => B i || decide (i = j)) (-1) with
  | false => rfl
  | true =>
   obtain ⟨i, h1, h2, h3⟩ := an_iff.1 hw
   obtain ⟨x, x1, x2, x3⟩ := hwant i h1 h2
   have h4 := x3 (-1) ⟨by omega, by omega⟩ fun z hz => by omega
   have h5 := ((wD_iff ⟨by omega, by omega⟩).1 h3).2 x x1
   omega
 ·have c2 : cn m (fun y => an m s p (fun i => B i || decide (i = j)) y) ≤ cn m T := by
   refine cn_le fun y hy h => ?_
   obtain ⟨i, h1, h2, h3⟩ := an_iff.1 h
   obtain ⟨x, x1, x2, x3⟩ := hwant i h1 h2
   cases hTy : T y with
   | true => rfl
   | false =>
    have h4 := x3 y ⟨by omega, by omega⟩ fun z hz => by
     have : z = y := by omega
     rw [this]; exact hTy
    have h5 := ((wD_iff ⟨by omega, by omega⟩).1 h3).2 x x1
    omega
  have c3 := cn_split (n := s.length) (fun i => B i || decide (i = j)) B
  have c4 : cn s.length B ≤ cn s.length (fun i => (B i || decide (i = j)) && B i) := cn_le fun i _ h => by simp only [h, Bool.true_or, Bool.and_self]
  have c5 : 1 ≤ cn s.length (fun i => (B i || decide (i = j)) && !B i) := cn_pos hj (by simp only [hbj, decide_true, Bool.or_true, Bool.not_false, Bool.and_self])
  omega
end
end
section
theorem bc {α β : Type} {o : Option α} {f g : α → Option β} (h : ∀ x, f x = g x) : Option.bind o f = Option.bind o g := by rw [funext h]
theorem req_bc {α : Type} {P : Prop} [Decidable P] {x y : Option α} (h : x = y) : req P x = req P y := by rw [h]
theorem req_map {α β : Type} {P : Prop} [Decidable P] {x : Option α} {f : α → β} : (req P x).map f = req P (x.map f) := by unfold req; split <;> rfl
theorem blk_at {β : Type} {p : List Int} {i : Int} (h : i < ((p.length : Nat) : Int)) {g : Int → Option β} :
  req ((0 : Int) ≤ i ∧ (i : Int) < ((p.length : Nat) : Int)) (Option.bind (p[(0 + (Int.toNat i))]?) g) = Option.bind (at? p i) g := by
 unfold at?
 by_cases h0 : 0 ≤ i
 ·rw [req_pos ⟨h0, h⟩, if_pos h0, Nat.zero_add]
 ·unfold req
  rw [if_neg (fun h => h0 h.1), if_neg h0]; rfl
section
variable {F : Nat} {s : List (List Int)} {p : List Int}
theorem f86_1_p1_is {b : Int} : ∀ (k : Nat) (a i : Int), f86_1_p1 F s 0 p.length b p k a i = f86_p1 F s p b k a i
 | 0, _, _ => rfl
 | k + 1, a, i => by
  rw [f86_1_p1, f86_p1]
  by_cases h : (decide (i < ((p.length : Nat) : Int))) = true
  ·rw [if_pos h, if_pos h]
   refine bc fun x => bc fun y => ?_
   rw [blk_at (of_decide_eq_true h)]
   exact bc fun z => f86_1_p1_is k _ _
  ·rw [if_neg h, if_neg h]
theorem f86_1_p6_is {b x : Int} : ∀ (k : Nat) (i : Int) (l : List Int), f86_1_p6 F s 0 p.length b x p k i l = f86_p6 F s p b x k i l
 | 0, _, _ => rfl
 | k + 1, i, l => by
  rw [f86_1_p6, f86_p6]
  by_cases h : (decide (i < ((p.length : Nat) : Int))) = true
  ·rw [if_pos h, if_pos h]
   refine bc fun y => bc fun z => ?_
   rw [blk_at (of_decide_eq_true h)]
   exact bc fun u => (show Option.bind (f86_p9 F s p b x l i z u) _ = _ from bc fun t => f86_1_p6_is k _ _)
  ·rw [if_neg h, if_neg h]
theorem f86_1_p6_1_is {b x : Int} : ∀ (k : Nat) (i : Int) (l : List Int), f86_1_p6_1 F s 0 p.length b x p k i l = f86_p6_1 F s p b x k i l
 | 0, _, _ => rfl
 | k + 1, i, l => by
  rw [f86_1_p6_1, f86_p6_1]
  by_cases h : (decide (i < ((p.length : Nat) : Int))) = true
  ·rw [if_pos h, if_pos h]
   refine bc fun y => bc fun z => ?_
   rw [blk_at (of_decide_eq_true h)]
   exact bc fun u => (show Option.bind (f86_p9_2 F s p b x l i z u) _ = _ from bc fun t => f86_1_p6_1_is k _ _)
  ·rw [if_neg h, if_neg h]
theorem f86_1_is {b : Int} : f86_1 F s 0 p.length b p = f86 F s p b := by
 unfold f86_1 f86
 rw [f86_1_p1_is]
 refine bc fun x => ?_
 unfold f86_1_p4 f86_p4
 by_cases h : (x == 0) = true
 ·rw [if_pos h, if_pos h, req_pos (by decide), req_pos (by decide), Option.bind_some, Option.bind_some]
  dsimp only
  rw [f86_1_p6_is]
 ·rw [if_neg h, if_neg h, Option.bind_some, Option.bind_some]
  dsimp only
  rw [f86_1_p6_1_is]
theorem f90_1_p5_is {g : List Int} {l : Int} : ∀ (k : Nat) (c : Bool) (i : Int) (out : List Int), f90_1_p5_1 F s 0 p.length g l p k c i out = f90_p5_1 F s p g l k c i out
 | 0, _, _, _ => rfl
 | k + 1, c, i, out => by
  rw [f90_1_p5_1, f90_p5_1]
  by_cases h : (decide (i < ((g.length : Nat) : Int))) = true
  ·rw [if_pos h, if_pos h]
   refine bc fun x => ?_
   rw [f86_1_is]
   refine bc fun y => ?_
   by_cases hc : c = true
   ·rw [if_pos hc, if_pos hc]
    refine bc fun z => ?_
    by_cases hz : z = true
    ·rw [if_pos hz, if_pos hz]
     exact bc fun u => (show Option.bind (f90_p8_3 F s p g out l i u) _ = _ from bc fun t => f90_1_p5_is k _ _ _)
    ·rw [if_neg hz, if_neg hz]; exact f90_1_p5_is k _ _ _
   ·rw [if_neg hc, if_neg hc]
    refine bc fun v => bc fun z => ?_
    by_cases hz : z = true
    ·rw [if_pos hz, if_pos hz]
     exact bc fun u => (show Option.bind (f90_p8_4 F s p g out v l i u) _ = _ from bc fun t => f90_1_p5_is k _ _ _)
    ·rw [if_neg hz, if_neg hz]; exact f90_1_p5_is k _ _ _
  ·rw [if_neg h, if_neg h]
theorem f90_1_p1_is {g : List Int} : ∀ (k : Nat) (c : Bool) (i : Int) (out : List Int), f90_1_p1 F s 0 p.length g p k c i out = f90_p1 F s p g k c i out
 | 0, _, _, _ => rfl
 | k + 1, c, i, out => by
  rw [f90_1_p1, f90_p1]
  by_cases h : (decide (i < ((p.length : Nat) : Int))) = true
  ·rw [if_pos h, if_pos h, f90_1_p5_is]
   exact bc fun x => f90_1_p1_is k _ _ _
  ·rw [if_neg h, if_neg h]
theorem f90_1_is {g : List Int} : f90_1 F s 0 p.length g p = f90 F s p g := by
 unfold f90_1 f90
 rw [f90_1_p1_is]
theorem f90_2_p5_is {g : List Int} {l : Int} : ∀ (k : Nat) (c : Bool) (i : Int) (out : List Int), f90_2_p5_1 F s 0 p.length (some g) l p k c i out = f90_p5_1 F s p g l k c i out
 | 0, _, _, _ => rfl
 | k + 1, c, i, out => by
  rw [f90_2_p5_1, f90_p5_1, show (some g).getD [] = g from rfl]
  by_cases h : (decide (i < ((g.length : Nat) : Int))) = true
  ·rw [if_pos h, if_pos h]
   refine bc fun x => ?_
   rw [f86_1_is]
   refine bc fun y => ?_
   by_cases hc : c = true
   ·rw [if_pos hc, if_pos hc]
    refine bc fun z => ?_
    by_cases hz : z = true
    ·rw [if_pos hz, if_pos hz]
     exact bc fun u => (show Option.bind (f90_p8_3 F s p g out l i u) _ = _ from bc fun t => f90_2_p5_is k _ _ _)
    ·rw [if_neg hz, if_neg hz]; exact f90_2_p5_is k _ _ _
   ·rw [if_neg hc, if_neg hc]
    refine bc fun v => bc fun z => ?_
    by_cases hz : z = true
    ·rw [if_pos hz, if_pos hz]
     exact bc fun u => (show Option.bind (f90_p8_4 F s p g out v l i u) _ = _ from bc fun t => f90_2_p5_is k _ _ _)
    ·rw [if_neg hz, if_neg hz]; exact f90_2_p5_is k _ _ _
  ·rw [if_neg h, if_neg h]
theorem f90_2_p1_is {g : List Int} : ∀ (k : Nat) (c : Bool) (i : Int) (out : List Int), f90_2_p1 F s 0 p.length (some g) p k c i out = f90_p1 F s p g k c i out
 | 0, _, _, _ => rfl
 | k + 1, c, i, out => by
  rw [f90_2_p1, f90_p1]
  by_cases h : (decide (i < ((p.length : Nat) : Int))) = true
  ·rw [if_pos h, if_pos h, f90_2_p5_is]
   exact bc fun x => f90_2_p1_is k _ _ _
  ·rw [if_neg h, if_neg h]
theorem f90_2_is {g : List Int} : f90_2 F s 0 p.length (some g) p = f90 F s p g := by
 unfold f90_2 f90
 rw [f90_2_p1_is]
def cv : f103_R → f103_1_R
 | .c0 => .c0
 | .c1 l => .c1 l
def cv4 : f103_p4_R → f103_1_p4_R
 | .c0 l => .c0 l
 | .c1 => .c1
theorem f103_1_p4_is {r1 : (List (List Int)) → Nat → Nat → (List Int) → Int → (List Int) → Option f103_1_R} {r : (List (List Int)) → (List Int) → (List Int) → Int → Option f103_R} {b : List Int} {q : Int}
  (hr : ∀ b q, r1 s 0 p.length b q p = (r s p b q).map cv) : ∀ (k : Nat) (i : Int), f103_1_p4 F r1 s 0 p.length b q p k i = (f103_p4 F r s p b q k i).map cv4
 | 0, _ => rfl
 | k + 1, i => by
  rw [f103_1_p4, f103_p4]
  by_cases h : (decide (i < ((s.length : Nat) : Int))) = true
  ·rw [if_pos h, if_pos h, req_map, req_map]
   refine req_bc (req_bc ?_)
   rw [hr]
   cases hx : r s p (List.drop 0 (List.take (0 + (([] : List Int) ++ b ++ [i]).length) (([] : List Int) ++ b ++ [i]))) (w64 (q - 1)) with
   | none => rfl
   | some x =>
    cases x with
    | c0 =>
     rw [Option.map_some, Option.bind_some, Option.bind_some]
     exact f103_1_p4_is hr k _
    | c1 l =>
     rw [Option.map_some, Option.bind_some, Option.bind_some]
     dsimp only [cv]
     rw [req_map]; rfl
  ·rw [if_neg h, if_neg h]; rfl
theorem f103_1_is : ∀ (k : Nat) (b : List Int) (q : Int), f103_1 F k s 0 p.length b q p = (f103 F k s p b q).map cv
 | 0, _, _ => rfl
 | k + 1, b, q => by
  show f103_1_b F (f103_1 F k) s 0 p.length b q p = (f103_b F (f103 F k) s p b q).map cv
  unfold f103_1_b f103_b
  by_cases h : (q == 0) = true
  ·rw [if_pos h, if_pos h, f90_1_is]
   cases f90 F s p b with
   | none => rfl
   | some x =>
    obtain ⟨x, c⟩ := x
    rw [Option.bind_some, Option.bind_some]
    dsimp only
    cases c with
    | true => rfl
    | false =>
     simp only [Bool.false_eq_true, if_false]
     split <;> rfl
  ·rw [if_neg h, if_neg h]
   have e2 : f103_1_p2 F s 0 p.length b q p = f103_p2 F s p b q := rfl
   rw [e2]
   cases f103_p2 F s p b q with
   | none => rfl
   | some i =>
    rw [Option.bind_some, Option.bind_some, f103_1_p4_is (f103_1_is k)]
    cases f103_p4 F (f103 F k) s p b q F i with
    | none => rfl
    | some x => cases x <;> rfl
def cv87 : f87_R → f87_1_R
 | .c0 l => .c0 l
 | .c1 => .c1
def cv871 : f87_p1_R → f87_1_p1_R
 | .c0 l => .c0 l
 | .c1 => .c1
theorem f87_1_p1_is : ∀ (k : Nat) (q : Int), f87_1_p1 F s 0 p.length p k q = (f87_p1 F s p k q).map cv871
 | 0, _ => rfl
 | k + 1, q => by
  rw [f87_1_p1, f87_p1]
  by_cases h : (decide (q ≤ ((s.length : Nat) : Int))) = true
  ·rw [if_pos h, if_pos h]
   by_cases h2 : (decide (((p.length : Nat) : Int) > 0)) = true
   ·rw [if_pos h2, if_pos h2, f103_1_is]
    cases f103 F F s p [] q with
    | none => rfl
    | some x =>
     cases x with
     | c0 =>
      rw [Option.map_some, Option.bind_some, Option.bind_some]
      exact f87_1_p1_is k _
     | c1 l =>
      rw [Option.map_some, Option.bind_some, Option.bind_some]
      dsimp only [cv]
      rw [req_map]; rfl
   ·rw [if_neg h2, if_neg h2]; rfl
  ·rw [if_neg h, if_neg h]; rfl
theorem f87_1_is : f87_1 F s 0 p.length p = (f87 F s p).map cv87 := by
 unfold f87_1 f87
 rw [f87_1_p1_is]
 cases f87_p1 F s p F 1 with
 | none => rfl
 | some x => cases x <;> rfl
def res87 (o : Option (List Int)) : f87_1_R := match o with | none => .c1 | some l => .c0 l
theorem bad_cons {m : Nat} {l : List Int} (h : badL m s p l = true) : l ≠ [] := fun e => by
 subst e
 unfold badL at h
 simp at h
theorem f87_1_eq {m : Nat} (hF : 100 ≤ F) (hv : Vs m s) (hp : Pd m p) (h0 : 0 < m) : f87_1 F s 0 m p = some (res87 ((allG s.length).find? (badL m s p))) := by
 have hn := hv.n
 have hpl := hp.len
 have e := f87_p1_eq hF hv hp h0 F 0 (by omega) (by omega)
 rw [List.drop_zero] at e
 rw [show f87_1 F s 0 m p = f87_1 F s 0 p.length p by rw [hpl], f87_1_is]
 unfold f87
 rw [show f87_p1 F s p F 1 = _ from e]
 unfold allG
 cases hf : ((List.range s.length).flatMap fun k => extG s.length (k + 1) []).find? (badL m s p) with
 | none => rfl
 | some l => rfl
end

def mk (f : Nat → Bool) : Nat → Nat
 | 0 => 0
 | k + 1 => mk f k ||| (if f k = true then 2 ^ k else 0)
theorem mk_lt (f : Nat → Bool) : ∀ k, mk f k < 2 ^ k
 | 0 => (show 0 < 1 by decide)
 | k + 1 => by
  have h := mk_lt f k
  have h2 : 2 ^ k < 2 ^ (k + 1) := Nat.pow_lt_pow_right (by decide) (by omega)
  rw [mk]
  refine Nat.or_lt_two_pow (by omega) ?_
  split <;> omega
theorem mk_bit (f : Nat → Bool) (i : Nat) : ∀ k, (mk f k).testBit i = (decide (i < k) && f i)
 | 0 => by simp [mk]
 | k + 1 => by
  rw [mk, Nat.testBit_or, mk_bit f i k]
  by_cases hk : f k = true
  ·rw [if_pos hk, Nat.testBit_two_pow]
   by_cases e : k = i
   ·subst e; simp [hk]
   ·by_cases hi : i < k
    ·simp [hi, e, show i < k + 1 by omega]
    ·simp [hi, e, show ¬ i < k + 1 by omega]
  ·rw [if_neg hk, Nat.zero_testBit, Bool.or_false]
   by_cases e : k = i
   ·subst e; simp [hk]
   ·by_cases hi : i < k
    ·simp [hi, show i < k + 1 by omega]
    ·simp [hi, show ¬ i < k + 1 by omega]
section
variable {m : Nat} {s : List (List Int)} {p : List Int}
theorem cn_congr {n : Nat} {f g : Nat → Bool} (h : ∀ i, i < n → f i = g i) : cn n f = cn n g :=
 Nat.le_antisymm (cn_le fun i hi e => by rw [← h i hi]; exact e) (cn_le fun i hi e => by rw [h i hi]; exact e)
theorem an_congr {f g : Nat → Bool} {x : Int} (h : ∀ i, i < s.length → f i = g i) : an m s p f x = an m s p g x := by
 rw [Bool.eq_iff_iff, an_iff, an_iff]
 exact ⟨fun ⟨i, a, b, c⟩ => ⟨i, a, by rw [← h i a]; exact b, c⟩, fun ⟨i, a, b, c⟩ => ⟨i, a, by rw [h i a]; exact b, c⟩⟩
theorem Bad.congr {f g : Nat → Bool} (h : ∀ i, i < s.length → f i = g i) (hb : Bad m s p f) : Bad m s p g := by
 have e : (fun y : Nat => an m s p f y) = fun y : Nat => an m s p g y := funext fun y => an_congr h
 refine ⟨by rw [← an_congr h]; exact hb.1, ?_⟩
 have := hb.2
 rw [e, cn_congr h] at this
 exact this
theorem anyM_an {g : Nat} {x : Int} (hx : -1 ≤ x ∧ x < m) : anyM m s p (mbG s.length g) x = an m s p (g.testBit ·) x := by
 rw [Bool.eq_iff_iff, anyM_iff hx, an_iff]
 unfold wD
 simp only [decide_eq_true_eq]
theorem badL_iff {g : Nat} : badL m s p (mbG s.length g) = true ↔ Bad m s p (g.testBit ·) := by
 have e : (List.range m).filter (fun y : Nat => anyM m s p (mbG s.length g) y) = (List.range m).filter fun y : Nat => an m s p (g.testBit ·) y :=
  List.filter_congr fun y hy => anyM_an ⟨by omega, by have := List.mem_range.1 hy; omega⟩
 have e2 : (mbG s.length g).length = cn s.length (g.testBit ·) := by unfold mbG cn; rw [List.length_map]
 unfold badL Bad
 rw [Bool.and_eq_true, Bool.not_eq_true', decide_eq_true_eq, anyM_an ⟨by omega, by omega⟩, e, e2]
 exact Iff.rfl
theorem pc_cn {n g : Nat} (hn : n ≤ 5) (hg : g < 2 ^ n) : pcN g = cn n (g.testBit ·) := by
 have h := congrArg List.length ((look_G1 hn).2.2.2.2 g hg)
 unfold mbG at h
 rw [List.length_map, List.length_map] at h
 exact h.symm
theorem key_lt {g h : Nat} (hl : pcN h < pcN g) : keyG h < keyG g := by unfold keyG; omega
theorem find_min {key : Nat → Nat} {q : Nat → Bool} : ∀ {l : List Nat}, l.Pairwise (fun g h => key g < key h) → ∀ {g : Nat}, l.find? q = some g → ∀ h ∈ l, q h = true → key g ≤ key h
 | [], _, _, hf, _, _, _ => by cases hf
 | x :: l, hp, g, hf, h, hm, hq => by
  rw [List.pairwise_cons] at hp
  rw [List.find?_cons] at hf
  cases hx : q x with
  | true =>
   rw [hx] at hf
   obtain rfl : x = g := Option.some.inj hf
   rcases List.mem_cons.1 hm with rfl | hm
   ·exact Nat.le_refl _
   ·exact Nat.le_of_lt (hp.1 h hm)
  | false =>
   rw [hx] at hf
   rcases List.mem_cons.1 hm with rfl | hm
   ·rw [hq] at hx; cases hx
   ·exact find_min hp.2 hf h hm hq
theorem found (hv : Vs m s) {l : List Int} (hf : (allG s.length).find? (badL m s p) = some l) : ∃ g, g < 2 ^ s.length ∧ l = mbG s.length g ∧ Bad m s p (g.testBit ·) ∧ ∀ q : Nat → Bool, cn s.length q < cn s.length (g.testBit ·) → ¬ Bad m s p q := by
 have hn := hv.n
 obtain ⟨a1, a2, a3, a4, _⟩ := look_G1 hn.2
 rw [a1, List.find?_map] at hf
 obtain ⟨g, hg, rfl⟩ := Option.map_eq_some_iff.1 hf
 have hgm := List.mem_of_find?_eq_some hg
 have hgb : badL m s p (mbG s.length g) = true := by
  have := List.find?_some hg
  exact this
 have hg2 := a3 g hgm
 refine ⟨g, hg2.2, rfl, badL_iff.1 hgb, fun q hq hb => ?_⟩
 have h1 := mk_lt q s.length
 have h2 : ∀ i, i < s.length → q i = (mk q s.length).testBit i := fun i hi => by rw [mk_bit]; simp [hi]
 have hb2 : Bad m s p ((mk q s.length).testBit ·) := hb.congr h2
 have h3 : cn s.length q = cn s.length ((mk q s.length).testBit ·) := cn_congr h2
 have h4 : 1 ≤ mk q s.length := by
  refine Nat.pos_of_ne_zero fun e => ?_
  have := hb2.2
  rw [e] at this
  have h0 : cn s.length ((0 : Nat).testBit ·) = 0 := by unfold cn; simp
  omega
 have h5 := find_min (q := badL m s p ∘ mbG s.length) a4 hg _ (a2 _ h4 h1) (badL_iff.2 hb2)
 have h6 := key_lt (g := g) (h := mk q s.length) (by rw [pc_cn hn.2 hg2.2, pc_cn hn.2 h1]; omega)
 omega
theorem none_found (hv : Vs m s) (hf : (allG s.length).find? (badL m s p) = none) : ∀ q : Nat → Bool, ¬ Bad m s p q := by
 intro q hb
 have hn := hv.n
 obtain ⟨a1, a2, a3, a4, _⟩ := look_G1 hn.2
 have h1 := mk_lt q s.length
 have h2 : ∀ i, i < s.length → q i = (mk q s.length).testBit i := fun i hi => by rw [mk_bit]; simp [hi]
 have hb2 : Bad m s p ((mk q s.length).testBit ·) := hb.congr h2
 have h4 : 1 ≤ mk q s.length := by
  refine Nat.pos_of_ne_zero fun e => ?_
  have := hb2.2
  rw [e] at this
  have h0 : cn s.length ((0 : Nat).testBit ·) = 0 := by unfold cn; simp
  omega
 rw [a1] at hf
 have := List.find?_eq_none.1 hf _ (List.mem_map.2 ⟨_, a2 _ h4 h1, rfl⟩)
 exact this (badL_iff.2 hb2)
end
end
section
section
variable {m F : Nat} {s : List (List Int)} {p : List Int}
theorem f40_p6_eq {x3 : List Int} (hx3 : x3.length = m) (hm : m ≤ 5) {l : List Nat} (hl : ∀ y ∈ l, y < m) (hnd : l.Nodup) (hll : l.length ≤ 1000) : ∀ (k i : Nat) (p : List Int), i ≤ l.length → l.length < k + i → p.length = m → (∀ y : Nat, y < m → 0 ≤ pr p y ∧ pr p y ≤ 1000) →
  (∀ y ∈ l.drop i, pr p (y : Nat) ≤ 999) →
  ∃ p', f40_p6_1 F s x3 (l.map fun (y : Nat) => (y : Int)) k i p = some p' ∧ p'.length = m ∧ ∀ y : Nat, y < m → pr p' y = pr p y + if y ∈ l.drop i then 1 else 0 := by
 intro k
 induction k with
 | zero => intro i p _ h; omega
 | succ k ih =>
  intro i p h1 h2 h3 h4 h6
  unfold f40_p6_1
  by_cases hi : i < l.length
  ·have hd := List.drop_eq_getElem_cons hi
   have hy := hl _ (List.getElem_mem hi)
   have hb := h4 _ hy
   have hb2 := h6 l[i] (by rw [hd]; exact List.mem_cons_self ..)
   have hnotin : l[i] ∉ l.drop (i + 1) := by
    have := hnd.sublist (List.drop_sublist i l)
    rw [hd, List.nodup_cons] at this
    exact this.1
   obtain ⟨p', e1, e2, e3⟩ := ih (i + 1) (p.set l[i] (pr p l[i] + 1)) (by omega) (by omega) (by rw [List.length_set]; exact h3) (fun y hy' => by
     rw [pr_set (by omega)]
     by_cases e : y = l[i]
     ·rw [if_pos e]; omega
     ·rw [if_neg e]; exact h4 y hy') (fun y hy' => by
     rw [pr_set (by omega), if_neg (show ¬ y = l[i] from fun e => by rw [e] at hy'; exact hnotin hy')]
     exact h6 y (by rw [hd]; exact List.mem_cons_of_mem _ hy'))
   refine ⟨p', ?_, e2, fun y hy' => ?_⟩
   ·rw [if_pos (by simp; omega), at_of (show (l.map fun (y : Nat) => (y : Int))[i]? = some (l[i] : Int) by rw [List.getElem?_map, List.getElem?_eq_getElem hi]; rfl), Option.bind_some, req_pos (by omega), Int.toNat_natCast, Nat.zero_add, pr_opt (by omega), Option.bind_some, req_pos (by omega), w64_in (n := pr p (l[i] : Nat) + 1) (by omega), w64_succ (by omega)]
    exact e1
   ·rw [e3 y hy', pr_set (by omega), hd]
    by_cases e : y = l[i]
    ·subst e; rw [if_pos rfl, if_neg hnotin, if_pos (List.mem_cons_self ..)]; omega
    ·rw [if_neg e]
     by_cases h : y ∈ l.drop (i + 1)
     ·rw [if_pos h, if_pos (List.mem_cons_of_mem _ h)]
     ·rw [if_neg h, if_neg (fun hh => (List.mem_cons.1 hh).elim e h)]
  ·rw [if_neg (by simp; omega), List.drop_eq_nil_of_le (by omega)]
   exact ⟨p, rfl, h3, fun y _ => by simp⟩
theorem tot_lt {a b : List Int} {e : Nat} (he : e < m) (h : ∀ l : Nat, l < m → pr a l ≤ pr b l) (hlt : pr a e < pr b e) : tot m a < tot m b := by
 have h1 : tot m a ≤ tot m b := sm_le h
 refine Classical.byContradiction fun hc => ?_
 have := sm_eq_of (n := m) (f := fun l => pr a (l : Int)) (g := fun l => pr b (l : Int)) h (by
  show tot m b ≤ tot m a
  omega) e he
 have this : pr a (e : Int) = pr b (e : Int) := this
 omega
theorem f40_p2_eq (hF : 100 ≤ F) (hv : Vs m s) (h0 : 0 < m) {x3 : List Int} (hx3 : x3.length = m) : ∀ (k : Nat) (p : List Int), Lo m (lowP m s) p → tot m (lowP m s) - tot m p < k →
  f40_p2 F s x3 k ((allG s.length).find? (badL m s p)) p = some (lowP m s) := by
 have hm := hv.m5
 have hn := hv.n
 intro k
 induction k with
 | zero =>
  intro p hp h
  have : tot m p ≤ tot m (lowP m s) := sm_le fun l hl => (hp.bd l hl).2
  omega
 | succ k ih =>
  intro p hp h
  have hpd : Pd m p := ⟨hp.len, fun l hl => by have h1 := hp.bd l hl; have h2 := lowP_bd hv hl; omega⟩
  unfold f40_p2
  cases hf : (allG s.length).find? (badL m s p) with
  | none =>
   rw [if_pos (show (none : Option (List Int)).isNone = true from rfl), settled hv hp.len (fun l hl => (hp.bd l hl).1) (fun l hl => (hp.bd l hl).2) (none_found hv hf)]
  | some l =>
   obtain ⟨g, g1, g2, g3, g4⟩ := found hv hf
   have hg : ∀ x ∈ l, 0 ≤ x ∧ x < s.length := fun x hx => by
    rw [g2] at hx
    unfold mbG at hx
    obtain ⟨i, hi, rfl⟩ := List.mem_map.1 hx
    have := List.mem_range.1 (List.mem_filter.1 hi).1
    omega
   have hgl : l.length ≤ 20 := by
    rw [g2]; unfold mbG
    rw [List.length_map]
    exact Nat.le_trans (List.length_filter_le _ _) (by rw [List.length_range]; omega)
   have e90 := f90_eq hF hv hpd h0 hg hgl
   obtain ⟨L, hL⟩ : ∃ L, L = (List.range m).filter fun (y : Nat) => anyM m s p l y := ⟨_, rfl⟩
   have hLm : ∀ y, y ∈ L ↔ y < m ∧ an m s p (g.testBit ·) y = true := fun y => by
    rw [hL, List.mem_filter, List.mem_range]
    refine and_congr_right fun hy => ?_
    rw [g2, anyM_an ⟨by omega, by omega⟩]
   have hup : ∀ y ∈ L, pr p (y : Nat) < pr (lowP m s) (y : Nat) := fun y hy => by
    obtain ⟨y1, y2⟩ := (hLm y).1 hy
    exact raise hv (fun l hl => (hp.bd l hl).2) g3 (fun q _ hq => g4 q hq) y1 y2
   obtain ⟨p', e1, e2, e3⟩ := f40_p6_eq (F := F) (s := s) hx3 hm (l := L) (fun y hy => ((hLm y).1 hy).1) (by rw [hL]; exact nd_filter m _) (by
     have : L.length ≤ m := by rw [hL]; exact Nat.le_trans (List.length_filter_le _ _) (by rw [List.length_range]; exact Nat.le_refl _)
     omega) F 0 p (by omega) (by
     have : L.length ≤ m := by rw [hL]; exact Nat.le_trans (List.length_filter_le _ _) (by rw [List.length_range]; exact Nat.le_refl _)
     omega) hp.len (fun y hy => by have := hpd.bd y hy; omega) (fun y hy => by
     rw [List.drop_zero] at hy
     have := hpd.bd y ((hLm y).1 hy).1; omega)
   rw [List.drop_zero] at e3
   have hlo : Lo m (lowP m s) p' := ⟨e2, fun y hy => by
    have h1 := hp.bd y hy
    rw [e3 y hy]
    by_cases hy' : y ∈ L
    ·have := hup y hy'; rw [if_pos hy']; omega
    ·rw [if_neg hy']; omega⟩
   have hpd' : Pd m p' := ⟨e2, fun l hl => by have h1 := hlo.bd l hl; have h2 := lowP_bd hv hl; omega⟩
   -- somebody wants something
   have hex : ∃ y, y ∈ L := by
    have h1 := g3.2
    have : 0 < cn s.length (g.testBit ·) := by omega
    obtain ⟨i, hi⟩ := List.exists_mem_of_length_pos this
    obtain ⟨i1, i2⟩ := List.mem_filter.1 hi
    rcases wD_some (m := m) (s := s) (p := p) (i := i) with hw | ⟨y, y1, y2⟩
    ·have := an_iff.2 ⟨i, List.mem_range.1 i1, i2, hw⟩
     rw [g3.1] at this; cases this
    ·exact ⟨y, (hLm y).2 ⟨y1, an_iff.2 ⟨i, List.mem_range.1 i1, i2, y2⟩⟩⟩
   obtain ⟨e, he⟩ := hex
   have he' := (hLm e).1 he
   have ht : tot m p < tot m p' := tot_lt he'.1 (fun l hl => by rw [e3 l hl]; split <;> omega) (by rw [e3 e he'.1, if_pos he]; omega)
   rw [if_neg (by simp), hx3, Int.toNat_natCast]
   rw [show f90_2 F s 0 m (some l) p = f90 F s p l by rw [← hp.len]; exact f90_2_is, e90, Option.bind_some]
   dsimp only
   rw [← hL, show f40_p6_1 F s x3 (L.map fun (y : Nat) => (y : Int)) F 0 p = _ from e1, Option.bind_some, f87_1_eq hF hv hpd' h0, Option.bind_some]
   have hih := ih p' hlo (by omega)
   cases hf' : (allG s.length).find? (badL m s p') with
   | none => rw [hf'] at hih; exact hih
   | some l' =>
    rw [hf'] at hih
    have := bad_cons (List.find?_some hf')
    unfold res87
    dsimp only
    rw [req_pos this]
    exact hih
theorem f40_eq (hF : 1000 ≤ F) (s : List (List Int)) : f40 F s = some (if ckS s ≠ 0 then ([], ckS s) else (lowP (s[0]?.getD []).length s, 0)) := by
 unfold f40
 rw [f25_eq (by omega), Option.bind_some]
 by_cases h : ckS s = 0
 ·have hv := ckS_ok h
  have hm := hv.m5
  have hn := hv.n
  generalize hmm : (s[0]?.getD []).length = m at *
  obtain ⟨r, h1, h2⟩ := hv.at0
  have hb : 0 ≤ tot m (lowP m s) ∧ tot m (lowP m s) ≤ m * 99 := sm_bd (m := m) (f := fun l => pr (lowP m s) (l : Int)) (c := 99) fun l hl => lowP_bd hv hl
  have e0 : tot m (List.replicate m 0) = 0 := by
   have := sm_bd (m := m) (f := fun l => pr (List.replicate m 0) (l : Int)) (c := 0) fun l hl => by rw [pr_zero hl]; omega
   rw [Int.mul_zero] at this
   show sm m (fun l => pr (List.replicate m 0) (l : Int)) = 0
   omega
  have hlo : Lo m (lowP m s) (List.replicate m 0) := ⟨by simp, fun l hl => by rw [pr_zero hl]; exact ⟨Int.le_refl _, (lowP_bd hv hl).1⟩⟩
  have hpd : Pd m (List.replicate m 0) := ⟨by simp, fun l hl => by rw [pr_zero hl]; omega⟩
  rw [if_neg (by simpa using h), if_neg (by simpa using h), h1, Option.bind_some, h2, req_pos (by omega), Int.toNat_natCast]
  by_cases h0 : 0 < m
  ·have hl := f40_p2_eq (F := F) (by omega) hv h0 h2 F (List.replicate m 0) hlo (by rw [e0]; omega)
   rw [f87_1_eq (by omega) hv hpd h0, Option.bind_some]
   cases hf : (allG s.length).find? (badL m s (List.replicate m 0)) with
   | none =>
    have e := settled hv (by simp) (fun l hl => (hlo.bd l hl).1) (fun l hl => (hlo.bd l hl).2) (none_found hv hf)
    unfold res87
    dsimp only
    obtain ⟨F', rfl⟩ : ∃ F', F = F' + 1 := ⟨F - 1, by omega⟩
    unfold f40_p2_1
    rw [if_pos (show (none : Option (List Int)).isNone = true from rfl), Option.bind_some, req_pos (by simp), e, Nat.zero_add, List.drop_zero, List.take_of_length_le (by rw [lowP_len]; omega)]
   | some l =>
    rw [hf] at hl
    have := bad_cons (List.find?_some hf)
    unfold res87
    dsimp only
    rw [req_pos this, hl, Option.bind_some, req_pos (by rw [lowP_len]; omega), Nat.zero_add, List.drop_zero, List.take_of_length_le (by rw [lowP_len]; omega)]
  ·obtain rfl : m = 0 := by omega
   have e : f87_1 F s 0 0 (List.replicate 0 (0 : Int)) = some .c1 := by
    show f87_1 F s 0 ([] : List Int).length [] = _
    rw [f87_1_is]
    unfold f87
    obtain ⟨F', rfl⟩ : ∃ F', F = F' + 1 := ⟨F - 1, by omega⟩
    unfold f87_p1
    rw [if_pos (by rw [decide_eq_true_eq]; omega), if_neg (by simp)]
    rfl
   rw [e, Option.bind_some]
   dsimp only
   obtain ⟨F', rfl⟩ : ∃ F', F = F' + 1 := ⟨F - 1, by omega⟩
   unfold f40_p2_1
   rw [if_pos (show (none : Option (List Int)).isNone = true from rfl), Option.bind_some, req_pos (by simp)]
   rfl
 ·rw [if_pos (by simpa using h), if_pos h]
end

def AvW (m w L : Nat) (l : List Int) : Prop := L < 32 ∧ ∀ j : Nat, j < m → L.testBit j = (!decide ((j : Int) ∈ l) && decide (j ≠ w))
theorem AvW.all {m w : Nat} (hm : m ≤ 5) (hw : w < m) : AvW m w (dl (all_ m) w) [] := by
 obtain ⟨_, _, a3, a4⟩ := look_L (all_lt hm) (show w < 5 by omega)
 refine ⟨a3, fun j hj => ?_⟩
 rw [a4 j (by omega), all_bit]
 by_cases e : j = w
 ·subst e; simp
 ·simp [hj, e]
theorem AvW.next {m w L : Nat} {l : List Int} (hm : m ≤ 5) (h : AvW m w L l) {x : Int} (hx : x ∈ cand m L true) : AvW m w (dx L x) (l ++ [x]) := by
 rcases mem_cand hx with rfl | ⟨y, rfl, h1, h2⟩
 ·refine ⟨h.1, fun j hj => ?_⟩
  rw [show dx L (-1) = L from rfl, h.2 j hj]
  congr 2
  refine decide_eq_decide.2 ⟨fun h => List.mem_append_left _ h, fun h => ?_⟩
  rcases List.mem_append.1 h with h | h
  ·exact h
  ·simp at h
 ·obtain ⟨_, _, a3, a4⟩ := look_L h.1 (show y < 5 by omega)
  have edx : dx L (y : Int) = dl L y := by unfold dx; rw [if_neg (by omega), Int.toNat_natCast]
  rw [edx]
  refine ⟨a3, fun j hj => ?_⟩
  rw [a4 j (by omega), h.2 j hj]
  by_cases e : j = y
  ·subst e; simp
  ·have e1 : (j != y) = true := by simpa using e
   rw [e1, Bool.and_true]
   congr 2
   refine decide_eq_decide.2 ⟨fun h => List.mem_append_left _ h, fun h => ?_⟩
   rcases List.mem_append.1 h with h | h
   ·exact h
   ·simp at h; omega
theorem f100w_p2_eq {F m L w : Nat} {l : List Int} {B : Int} (hF : 100 ≤ F) (hm : m ≤ 5) (hl : l.length ≤ 20) (ha : AvW m w L l) {rec : Int → Int → Int → List Int → Option (List (List Int))} {G : Int → List (List Int)} (hG : ∀ x, (G x).length ≤ 10000)
  (hrec : ∀ x, x ∈ cand m L true → rec B m w (l ++ [x]) = some (G x)) : ∀ (k j : Nat) (acc : List (List Int)), m < k + j → j ≤ m → acc.length ≤ 10000 * (j + 1) → f100_p2 F rec B m w l k j acc = some (acc ++ (lotsF m L true j).flatMap G) := by
 intro k
 induction k with
 | zero => intro j acc h _ _; omega
 | succ k ih =>
  intro j acc h1 h2 h3
  unfold f100_p2
  by_cases hj : j < m
  ·rw [if_pos (by simp; omega), if_neg (by simp), lotsF_step hj, ha.2 j hj, w64_succ (by omega)]
   by_cases hjw : j = w
   ·rw [if_neg (by simp; omega)]
    have e : (!decide ((j : Int) ∈ l) && decide (j ≠ w)) = false := by simp [hjw]
    rw [e, Bool.and_false, if_neg (by decide)]
    exact ih (j + 1) acc (by omega) (by omega) (by omega)
   rw [if_pos (by simp; omega), f74_eq (by omega) hF, Option.bind_some]
   unfold f100_p5
   by_cases hc : (j : Int) ∈ l
   ·rw [decide_eq_true hc, if_pos rfl, Option.bind_some]
    simp only [Bool.not_true, Bool.and_false, Bool.false_and, Bool.false_eq_true, if_false]
    exact ih (j + 1) acc (by omega) (by omega) (by omega)
   ·have hmem : (j : Int) ∈ cand m L true := by
     rw [lotsF_zero]
     refine List.mem_cons_of_mem _ ?_
     unfold lotsF
     simp only [if_true, List.mem_map, List.mem_filter]
     refine ⟨j, ⟨by simpa using hj, ?_⟩, rfl⟩
     rw [ha.2 j hj, decide_eq_false hc, decide_eq_true hjw]; rfl
    have hg := hG (j : Int)
    rw [decide_eq_false hc, if_neg (by decide), req_pos (by simp; omega), req_pos (by simp; omega), List.nil_append, take0, hrec _ hmem, Option.bind_some, req_pos (by omega), Option.bind_some]
    simp only [Bool.not_false, Bool.and_true, Bool.true_and, ne_eq, hjw, not_false_eq_true, decide_true, if_true, List.flatMap_cons]
    rw [ih (j + 1) _ (by omega) (by omega) (by simp; omega), List.append_assoc]
  ·rw [if_neg (by simp; omega), lotsF_end (by omega)]
   simp
theorem f100w_eq {F m B w : Nat} (hF : 100 ≤ F) (hm : m ≤ 5) (hB : B ≤ 5) : ∀ (r k : Nat) (l : List Int) (L : Nat), l.length + r = B → r < k → AvW m w L l → f100 F k B m w l = some ((ds m (-1) r l.length L).map (l ++ ·)) := by
 intro r
 induction r with
 | zero =>
  intro k l L h1 h2 h3
  obtain ⟨k, rfl⟩ : ∃ q, k = q + 1 := ⟨k - 1, by omega⟩
  show f100_b F (f100 F k) B m w l = _
  unfold f100_b
  rw [if_pos (by simp; omega)]
  simp [ds]
 | succ r ih =>
  intro k l L h1 h2 h3
  obtain ⟨k, rfl⟩ : ∃ q, k = q + 1 := ⟨k - 1, by omega⟩
  obtain ⟨F', hF'⟩ : ∃ F', F = F' + 1 := ⟨F - 1, by omega⟩
  show f100_b F (f100 F k) B m w l = _
  unfold f100_b
  rw [if_neg (by simp; omega), ds_step]
  have hrec : ∀ x, x ∈ cand m L true → f100 F k B m w (l ++ [x]) = some ((ds m (-1) r (l.length + 1) (dx L x)).map ((l ++ [x]) ++ ·)) := by
   intro x hx
   have := ih k (l ++ [x]) (dx L x) (by simp; omega) (by omega) (h3.next hm hx)
   rw [this]
   simp
  have hG : ∀ x : Int, ((ds m (-1) r (l.length + 1) (dx L x)).map ((l ++ [x]) ++ ·)).length ≤ 10000 := fun x => by
   rw [List.length_map]
   have := len_bd (i := l.length + 1) (L := dx L x) hm (show r ≤ 5 by omega)
   omega
  have e := f100w_p2_eq (B := (B : Int)) hF hm (by omega : l.length ≤ 20) h3 hG hrec F' 0
  have h0 : (-1 : Int) ∈ cand m L true := by simp [cand]
  have hg0 := hG (-1)
  subst hF'
  unfold f100_p2
  rw [if_pos (by simp; omega), if_pos (by decide), req_pos (by simp; omega), req_pos (by simp; omega), List.nil_append, take0, hrec _ h0, Option.bind_some, req_pos (by simp at hg0 ⊢; omega), List.nil_append, show w64 ((-1 : Int) + 1) = ((0 : Nat) : Int) by decide, e _ (by omega) (by omega) (by omega), Option.bind_some, take0, lotsF_zero, List.flatMap_cons]
section
variable {m F : Nat} {s : List (List Int)}
theorem f67w_eq {w : Nat} (hF : 10000 ≤ F) (hv : Vs m s) (hw : w < m) : ∃ a b, f67 F s w = some (a, b, Vx m s w) := by
 obtain ⟨r, h1, h2⟩ := hv.at0
 have hn := hv.n
 have e1 := f100w_eq (F := F) (B := s.length) (by omega) hv.m5 hn.2 s.length F [] (dl (all_ m) w) (by simp) (by omega) (AvW.all hv.m5 hw)
 have hmap : (ds m (-1) s.length ([] : List Int).length (dl (all_ m) w)).map (([] : List Int) ++ ·) = ds m (-1) s.length 0 (dl (all_ m) w) := by simp
 rw [hmap] at e1
 have hl := len_bd (i := 0) (L := dl (all_ m) w) hv.m5 hn.2
 have e2 := f67_p2_eq (F := F) (ts := ds m (-1) s.length 0 (dl (all_ m) w)) (by omega) hv (fun t ht => ds_range _ _ _ t ht) (by omega) F 0 ([], (-1, 0)) (by omega) (by omega) (by decide) (by decide)
 rw [List.drop_zero] at e2
 obtain ⟨g1, g2⟩ := sq_fold s hv.ok (ds m (-1) s.length 0 (dl (all_ m) w)) ([], (-1, 0)) (by decide)
 have hmo := mo_ds (-1) s 0 (dl (all_ m) w) hv.ok
 have hbd := mo_bd (but := -1) hv.m5 s 0 (dl (all_ m) w) hv.ok
 have ec : comb (-1, 0) (mxc ((ds m (-1) s.length 0 (dl (all_ m) w)).map (wv s))) = mo m (-1) s 0 (dl (all_ m) w) := by
  rw [← hmo]
  have := comb_first (w := (mo m (-1) s 0 (dl (all_ m) w)).1) (c := (mo m (-1) s 0 (dl (all_ m) w)).2) hbd.1
  exact this
 dsimp only at g1
 rw [ec] at g1
 rw [g1] at e2
 refine ⟨((ds m (-1) s.length 0 (dl (all_ m) w)).foldl (sq s) ([], (-1, 0))).1, (mo m (-1) s 0 (dl (all_ m) w)).2, ?_⟩
 unfold f67
 rw [if_neg (by simp; intro h; rw [h] at hn; exact absurd hn.1 (by decide)), h1, Option.bind_some, h2, e1, Option.bind_some, show f67_p2 F s _ F [] 0 (-1) 0 = _ from e2, Option.bind_some]
 rfl
theorem f42_p2_eq (hF : 10000 ≤ F) (hv : Vs m s) : ∀ (k i : Nat), i ≤ m → m < k + i → f42_p2 F s (W m s (-1)) k i ((List.range i).map fun l => W m s (-1) - Vx m s l) = some (highP m s) := by
 have hm := hv.m5
 obtain ⟨r, h1, h2⟩ := hv.at0
 intro k
 induction k with
 | zero => intro i _ h; omega
 | succ k ih =>
  intro i g1 g2
  unfold f42_p2
  rw [h1, Option.bind_some, h2]
  by_cases hi : i < m
  ·obtain ⟨a, b, e⟩ := f67w_eq hF hv hi
   have hbd : 0 ≤ W m s (-1) - Vx m s i ∧ W m s (-1) - Vx m s i ≤ 99 := by
    have q1 := (highP_fair hv).nn i hi
    have hF' := highP_fair hv
    have q2 := (show Hi m s (highP m s) from ⟨highP_len, fun l hl => Int.le_refl _, fun q hq => by have := hF'.own q hq; omega, fun l hl hu => hF'.free l hl hu⟩).bd hv hi
    rw [highP_pr hi] at q1 q2
    omega
   rw [if_pos (by simp; omega), e, Option.bind_some]
   dsimp only
   rw [req_pos (by simp; omega), w64_in (n := W m s (-1) - Vx m s i) (by omega), w64_succ (by omega)]
   have := ih (i + 1) (by omega) (by omega)
   rw [List.range_succ, List.map_append] at this
   exact this
  ·obtain rfl : i = m := by omega
   rw [if_neg (by simp)]; rfl
theorem f42_eq (hF : 10000 ≤ F) (s : List (List Int)) : f42 F s = some (if ckS s ≠ 0 then ([], ckS s) else (highP (s[0]?.getD []).length s, 0)) := by
 unfold f42
 rw [f25_eq (by omega), Option.bind_some]
 by_cases h : ckS s = 0
 ·have hv := ckS_ok h
  have hm := hv.m5
  generalize hmm : (s[0]?.getD []).length = m at *
  have e := f42_p2_eq hF hv F 0 (by omega) (by omega)
  have e : f42_p2 F s (W m s (-1)) F 0 [] = _ := e
  rw [if_neg (by simpa using h), if_neg (by simpa using h), f67_eq hF hv, Option.bind_some]
  dsimp only
  rw [show (mo m (-1) s 0 (all_ m)).1 = W m s (-1) from rfl, e, Option.bind_some, take0]
 ·rw [if_pos (by simpa using h), if_pos h]
end
end

end Go.Gh.Sale
