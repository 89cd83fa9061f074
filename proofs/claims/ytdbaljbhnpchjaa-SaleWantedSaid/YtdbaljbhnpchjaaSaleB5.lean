/- What is needed of the plain texts. -/
import Derived.Test.YtdbaljbhnpchjaaSale5N0
namespace Go.Gh.Sale
set_option linter.unusedVariables false
set_option linter.unusedSimpArgs false

section
theorem w64_in {n : Int} (h : -9223372036854775808 ≤ n ∧ n < 9223372036854775808) : w64 n = n := by
  unfold w64 IntKind.wrap
  simp [IntKind.bits, IntKind.signed]
  split <;> omega
theorem w64_succ {n : Nat} (h : n < 1000000000) : w64 ((n : Int) + 1) = ((n + 1 : Nat) : Int) := by rw [w64_in (by omega)]; omega
theorem at_of {α : Type} {l : List α} {i : Nat} {x : α} (h : l[i]? = some x) : at? l ((i : Nat) : Int) = some x := by
  unfold at?; rw [if_pos (by omega), Int.toNat_natCast]; exact h
theorem at_get {α : Type} {l : List α} {i : Nat} (h : i < l.length) : at? l ((i : Nat) : Int) = some l[i] := at_of (List.getElem?_eq_getElem h)
theorem req_pos {α : Type} {p : Prop} [Decidable p] {x : Option α} (h : p) : req p x = x := by unfold req; rw [if_pos h]
theorem take0 {α : Type} (l : List α) : List.drop 0 (List.take (0 + l.length) l) = l := by simp
theorem drop_cons {α : Type} {l : List α} {i : Nat} (h : i < l.length) : l.drop i = l[i] :: l.drop (i + 1) := List.drop_eq_getElem_cons h
/-- The lots that are left, without one. -/
def dl (L l : Nat) : Nat := if L.testBit l = true then L - 2 ^ l else L
def lookL : Bool := (List.range 32).all fun (L : Nat) => (List.range 5).all fun (l : Nat) => (iAndNot .u8 (L : Int) (iShl .u8 1 (l : Int)) == ((dl L l : Nat) : Int)) && ((iAnd .u8 (iShr .u8 (L : Int) (l : Int)) 1 == 1) == L.testBit l) && decide (dl L l < 32) &&
  (List.range 5).all fun j => (dl L l).testBit j == (L.testBit j && j != l)
theorem lookL_true : lookL = true := by decide +kernel
theorem look_L {L l : Nat} (hL : L < 32) (hl : l < 5) : iAndNot .u8 (L : Int) (iShl .u8 1 (l : Int)) = ((dl L l : Nat) : Int) ∧ (iAnd .u8 (iShr .u8 (L : Int) (l : Int)) 1 == 1) = L.testBit l ∧ dl L l < 32 ∧ ∀ j, j < 5 → (dl L l).testBit j = (L.testBit j && j != l) := by
  have h := lookL_true
  unfold lookL at h
  simp only [List.all_eq_true, List.mem_range] at h
  have h2 := h L hL l hl
  simp only [Bool.and_eq_true, beq_iff_eq, List.all_eq_true, List.mem_range, decide_eq_true_eq] at h2
  exact ⟨h2.1.1.1, h2.1.1.2, h2.1.2, h2.2⟩
theorem f71_neg {F : Nat} {L : Int} : f71 F L (-1) = some (L, true) := by unfold f71; rw [if_pos (by decide)]
theorem f71_eq {F L l : Nat} (hL : L < 32) (hl : l < 5) : f71 F L l = some (((dl L l : Nat) : Int), L.testBit l) := by
  obtain ⟨h1, h2, _⟩ := look_L hL hl
  unfold f71
  rw [if_neg (by simp), req_pos (by omega), h1, h2]
def all_ (m : Nat) : Nat := 2 ^ m - 1
theorem all_look : ((List.range 6).all fun (m : Nat) => IntKind.wrap .u8 ((iShl .u8 1 (m : Int)) - 1) == ((all_ m : Nat) : Int) && decide (all_ m < 32)) = true := by decide +kernel
theorem f69_eq {F m : Nat} {M : Mm} {s : List (List Int)} (hm : m ≤ 5) : f69 F M s m = some ((all_ m : Nat) : Int) ∧ all_ m < 32 := by
  have h := all_look
  simp only [List.all_eq_true, List.mem_range, Bool.and_eq_true, beq_iff_eq, decide_eq_true_eq] at h
  have h2 := h m (by omega)
  unfold f69
  rw [req_pos (by omega), h2.1]
  exact ⟨rfl, h2.2⟩
theorem all_bit {m j : Nat} : (all_ m).testBit j = decide (j < m) := by unfold all_; exact Nat.testBit_two_pow_sub_one m j

/- What is asked: the greatest worth, and how many divisions have it. -/
def cand (m L : Nat) (free : Bool) : List Int := -1 :: (if free then ((List.range m).filter fun l => L.testBit l).map (fun (l : Nat) => (l : Int)) else [])
def dx (L : Nat) (x : Int) : Nat := if x < 0 then L else dl L x.toNat
def vl (r : List Int) (x : Int) : Int := if x < 0 then 0 else (r[x.toNat]?).getD 0
def comb (b a : Int × Int) : Int × Int := if a.1 > b.1 then a else if a.1 = b.1 then (b.1, b.2 + a.2) else b
def mo (m : Nat) (but : Int) : List (List Int) → Nat → Nat → Int × Int
  | [], _, _ => (0, 1)
  | r :: rs, i, L => (cand m L (decide ((i : Int) ≠ but))).foldl (fun b x => comb b ((mo m but rs (i + 1) (dx L x)).1 + vl r x, (mo m but rs (i + 1) (dx L x)).2)) (-1, 0)
/-- Rows of worths for so many lots. -/
def Ok (m : Nat) (s : List (List Int)) : Prop := ∀ r ∈ s, r.length = m ∧ ∀ x ∈ r, 0 ≤ x ∧ x ≤ 99
theorem vl_bd {m : Nat} {r : List Int} (h : r.length = m ∧ ∀ x ∈ r, 0 ≤ x ∧ x ≤ 99) (x : Int) : 0 ≤ vl r x ∧ vl r x ≤ 99 := by
  unfold vl
  split
  · omega
  · by_cases hx : x.toNat < r.length
    · rw [List.getElem?_eq_getElem hx]
      exact h.2 _ (List.getElem_mem hx)
    · rw [List.getElem?_eq_none (by omega)]
      exact ⟨Int.le_refl 0, by decide⟩
theorem f72_eq {F i : Nat} {M : Mm} {s : List (List Int)} {x m : Int} {n : Nat} (ho : Ok n s) (hi : i < s.length) (hx : -1 ≤ x ∧ x < n) : f72 F i x M s m = some (vl s[i] x) := by
  unfold f72 vl
  by_cases h : x < 0
  · rw [if_pos (by simpa using h), if_pos h]
  · obtain ⟨l, rfl⟩ : ∃ l : Nat, x = l := ⟨x.toNat, by omega⟩
    have hl := (ho _ (List.getElem_mem hi)).1
    have hb : l < s[i].length := by omega
    rw [if_neg (by simp), if_neg h, at_get hi, Option.bind_some, at_get hb, Option.bind_some, Int.toNat_natCast, List.getElem?_eq_getElem hb]
    rfl
/-- The lots from one on that are there. -/
def lotsF (m L : Nat) (free : Bool) (j : Nat) : List Int := if free then (((List.range m).drop j).filter fun l => L.testBit l).map (fun (l : Nat) => (l : Int)) else []
theorem lotsF_zero (m L : Nat) (free : Bool) : cand m L free = -1 :: lotsF m L free 0 := by unfold cand lotsF; rw [List.drop_zero]
end
section
def wv : List (List Int) → List Int → Int
  | r :: rs, x :: xs => vl r x + wv rs xs
  | _, _ => 0
/-- The best division. -/
def bst (m : Nat) : List (List Int) → Nat → Nat → List Int
  | [], _, _ => []
  | r :: rs, i, L => match (cand m L true).find? (fun x => decide ((mo m (-1) rs (i + 1) (dx L x)).1 + vl r x = (mo m (-1) (r :: rs) i L).1)) with
    | some x => x :: bst m rs (i + 1) (dx L x)
    | none => []
end
section
def badW (x : Int) : Bool := !decide (0 ≤ x ∧ x ≤ 99)
def rowE (m : Int) (l : List Int) : Int := if (l.length : Int) ≠ m then 5 else if l.any badW = true then 1 else 0
def rowsE (m : Int) : List (List Int) → Int
  | [] => 0
  | r :: rs => if rowE m r ≠ 0 then rowE m r else rowsE m rs
def ckS (s : List (List Int)) : Int := if s.length = 0 then 4 else if s.length > 5 then 3 else if (s[0]?.getD []).length > 5 then 3 else rowsE (s[0]?.getD []).length s
theorem f70_eq {F : Nat} {a x b : Int} : f70 F a x b = some (decide (a ≤ x ∧ x ≤ b)) := by
  unfold f70
  by_cases h : a ≤ x <;> simp [h]
theorem f102_eq {F : Nat} {x : Int} : f102 F x = some (badW x) := by
  unfold f102 badW; rw [f70_eq, Option.bind_some]
theorem f107_p1_eq {F : Nat} {l : List Int} (hl : l.length ≤ 5000) : ∀ (k i : Nat), i ≤ l.length → l.length < k + i → ((l.drop i).any badW = true ∧ ∃ j : Nat, f107_p1 F l k i = some (.c0 j)) ∨ ((l.drop i).any badW = false ∧ f107_p1 F l k i = some .c1) := by
  intro k
  induction k with
  | zero => intro i _ h; omega
  | succ k ih =>
    intro i h1 h2
    unfold f107_p1
    by_cases hi : i < l.length
    · rw [if_pos (by simp; omega), at_get hi, Option.bind_some, f102_eq, Option.bind_some, drop_cons hi, List.any_cons]
      cases hb : badW l[i]
      · rw [if_neg (by simp), w64_succ (by omega), Bool.false_or]
        exact ih (i + 1) (by omega) (by omega)
      · rw [if_pos rfl]
        exact .inl ⟨by simp, i, rfl⟩
    · rw [if_neg (by simp; omega), List.drop_eq_nil_of_le (by omega)]
      exact .inr ⟨rfl, rfl⟩
theorem f101_eq {F : Nat} {l : List Int} (hl : l.length < F) (hF : F ≤ 5000 ∨ l.length ≤ 5000) : f101 F l = some (l.any badW) := by
  unfold f101 f107
  rcases f107_p1_eq (F := F) (l := l) (by omega) F 0 (by omega) (by omega) with ⟨h1, j, h2⟩ | ⟨h1, h2⟩
  · rw [List.drop_zero] at h1
    rw [show f107_p1 F l F 0 = _ from h2, h1, Option.bind_some, Option.bind_some]; simp
  · rw [List.drop_zero] at h1
    rw [show f107_p1 F l F 0 = _ from h2, h1, Option.bind_some, Option.bind_some]; simp
theorem f76_eq {F m : Nat} (hF : 100 ≤ F) (hm : m ≤ 50) {l : List Int} : f76 F l m = some (rowE m l) := by
  unfold f76 rowE
  by_cases h : (l.length : Int) = m
  · rw [if_neg (by simpa using h), if_neg (by simpa using h), f101_eq (by omega) (by omega), Option.bind_some]
    split <;> rfl
  · rw [if_pos (by simpa using h), if_pos h]
theorem f24_p4_eq {F : Nat} {s : List (List Int)} (hF : 100 ≤ F) (hs : s.length ≤ 5) (h0 : 0 < s.length) (hm : (s[0]?.getD []).length ≤ 5) : ∀ (k i : Nat), i ≤ s.length → s.length < k + i →
    f24_p4 F s k i = some (if rowsE (s[0]?.getD []).length (s.drop i) ≠ 0 then .c0 (rowsE (s[0]?.getD []).length (s.drop i)) else .c1) := by
  have e0 : at? s 0 = some (s[0]?.getD []) := by rw [List.getElem?_eq_getElem h0]; exact at_get h0
  intro k
  induction k with
  | zero => intro i _ h; omega
  | succ k ih =>
    intro i h1 h2
    unfold f24_p4
    by_cases hi : i < s.length
    · rw [if_pos (by simp; omega), at_get hi, Option.bind_some, e0, Option.bind_some, f76_eq hF (by omega), Option.bind_some, drop_cons hi, rowsE]
      by_cases hr : rowE (s[0]?.getD []).length s[i] ≠ 0
      · rw [if_pos (by simpa using hr), if_pos hr, if_pos hr]
      · rw [if_neg (by simpa using hr), if_neg hr, w64_succ (by omega)]
        exact ih (i + 1) (by omega) (by omega)
    · rw [if_neg (by simp; omega), List.drop_eq_nil_of_le (by omega)]
      rfl
theorem f24_eq {F : Nat} (hF : 100 ≤ F) (s : List (List Int)) : f24 F s = some (ckS s) := by
  unfold f24 ckS
  by_cases h1 : s.length = 0
  · rw [if_pos (by simp [h1]), if_pos h1]
  · rw [if_neg (by simp; intro h; simp [h] at h1), if_neg h1]
    by_cases h2 : s.length > 5
    · rw [if_pos (by simp; omega), if_pos h2]
    · have e0 : at? s 0 = some (s[0]?.getD []) := by rw [List.getElem?_eq_getElem (Nat.pos_of_ne_zero h1)]; exact at_get (Nat.pos_of_ne_zero h1)
      rw [if_neg (by simp; omega), if_neg h2, e0, Option.bind_some]
      by_cases h3 : (s[0]?.getD []).length > 5
      · rw [if_pos (by simp; omega), if_pos h3]
      · rw [if_neg (by simp; omega), if_neg h3]
        have e := f24_p4_eq hF (s := s) (by omega) (Nat.pos_of_ne_zero h1) (by omega) F 0 (Nat.zero_le _) (by omega)
        rw [show f24_p4 F s F 0 = _ from e, Option.bind_some, List.drop_zero]
        by_cases hr : rowsE (s[0]?.getD []).length s = 0
        · rw [if_neg (by simpa using hr), hr]
        · rw [if_pos hr]
/-- A valid sale. -/
structure Vs (m : Nat) (s : List (List Int)) : Prop where
  ok : Ok m s
  n : 0 < s.length ∧ s.length ≤ 5
  m5 : m ≤ 5
theorem rowsE_ok {m : Nat} : ∀ (s : List (List Int)), rowsE m s = 0 ↔ Ok m s := by
  intro s
  induction s with
  | nil => exact ⟨fun _ r hr => (by cases hr), fun _ => rfl⟩
  | cons r rs ih =>
    have hr : rowE m r = 0 ↔ r.length = m ∧ ∀ x ∈ r, 0 ≤ x ∧ x ≤ 99 := by
      unfold rowE
      by_cases h1 : (r.length : Int) = m
      · rw [if_neg (by simpa using h1)]
        by_cases h2 : r.any badW = true
        · rw [if_pos h2]
          refine ⟨fun h => (by cases h), fun h => ?_⟩
          obtain ⟨x, hx, hb⟩ := List.any_eq_true.1 h2
          have := h.2 x hx
          simp [badW] at hb
          omega
        · rw [if_neg h2]
          refine ⟨fun _ => ⟨by omega, fun x hx => ?_⟩, fun _ => rfl⟩
          have : badW x = false := by
            cases hb : badW x
            · rfl
            · exact absurd (List.any_eq_true.2 ⟨x, hx, hb⟩) h2
          simp [badW] at this
          exact this
      · rw [if_pos h1]
        exact ⟨fun h => (by cases h), fun h => absurd (by omega) h1⟩
    rw [rowsE]
    by_cases h : rowE m r = 0
    · rw [if_neg (by simpa using h), ih]
      refine ⟨fun k x hx => ?_, fun k x hx => k x (by simp [hx])⟩
      rcases List.mem_cons.1 hx with rfl | hx
      · exact hr.1 h
      · exact k x hx
    · rw [if_pos h]
      exact ⟨fun k => absurd k h, fun k => absurd (hr.2 (k r (by simp))) h⟩
theorem ckS_ok {s : List (List Int)} (h : ckS s = 0) : Vs (s[0]?.getD []).length s := by
  unfold ckS at h
  split at h
  · cases h
  · split at h
    · cases h
    · split at h
      · cases h
      · exact ⟨(rowsE_ok s).1 h, by omega, by omega⟩
theorem Vs.head {m : Nat} {s : List (List Int)} (h : Vs m s) : (s[0]?.getD []).length = m := by
  rw [List.getElem?_eq_getElem h.n.1]
  exact (h.ok _ (List.getElem_mem h.n.1)).1
theorem Vs.ck {m : Nat} {s : List (List Int)} (h : Vs m s) : ckS s = 0 := by
  have := h.n
  have := h.m5
  unfold ckS
  rw [h.head, if_neg (by omega), if_neg (by omega), if_neg (by omega)]
  exact (rowsE_ok s).2 h.ok
theorem Vs.at0 {m : Nat} {s : List (List Int)} (h : Vs m s) : ∃ r, at? s 0 = some r ∧ r.length = m := by
  have h0 := h.n.1
  exact ⟨s[0], at_get h0, (h.ok _ (List.getElem_mem h0)).1⟩
theorem f65_eq {F : Nat} (hF : 100 ≤ F) (s : List (List Int)) : f65 F s = some (if ckS s ≠ 0 then .c0 (ckS s) else .c1 0 [] s ((s[0]?.getD []).length : Nat)) := by
  unfold f65
  rw [f24_eq hF, Option.bind_some]
  by_cases h : ckS s = 0
  · have hv := ckS_ok h
    have e0 : at? s 0 = some (s[0]?.getD []) := by rw [List.getElem?_eq_getElem hv.n.1]; exact at_get hv.n.1
    rw [if_neg (by simp [h]), if_neg (by simpa using h), e0, Option.bind_some]
  · rw [if_pos (by simpa using h), if_pos h]
/-- The best division of a valid sale. -/
def bestD (m : Nat) (s : List (List Int)) : List Int := bst m s 0 (all_ m)
def okD (L : Nat) : List Int → Bool
  | [] => true
  | x :: xs => (decide (x < 0) || L.testBit x.toNat) && okD (dx L x) xs
theorem f21_p4_eq {F m : Nat} {s : List (List Int)} {l : List Int} (hF : 100 ≤ F) (hv : Vs m s) (hl : l.length = s.length) (hx : ∀ x ∈ l, -1 ≤ x ∧ x < m) {M : Mm} : ∀ (k i L : Nat) (acc : Int), i ≤ l.length → l.length < k + i → L < 32 → 0 ≤ acc → acc ≤ 100 * i →
    f21_p4 F l M s m k L acc i = some (if okD L (l.drop i) = true then .c1 (acc + wv (s.drop i) (l.drop i)) else .c0 6) := by
  have hm := hv.m5
  have hn := hv.n
  intro k
  induction k with
  | zero => intro i L acc _ h; omega
  | succ k ih =>
    intro i L acc h1 h2 h3 h4 h5
    unfold f21_p4
    by_cases hi : i < l.length
    · have his : i < s.length := by omega
      have hxi := hx _ (List.getElem_mem hi)
      have hvl := vl_bd (hv.ok _ (List.getElem_mem his)) l[i]
      rw [if_pos (by simp; omega), at_get hi, Option.bind_some, f70_eq, w64_in (n := (m : Int) - 1) (by omega), decide_eq_true (by omega), Option.bind_some, if_pos rfl, drop_cons hi, drop_cons his, okD, wv]
      have acc1 : w64 (acc + vl s[i] l[i]) = acc + vl s[i] l[i] := w64_in (by omega)
      by_cases hneg : l[i] < 0
      · have e : l[i] = -1 := by omega
        rw [f72_eq hv.ok his hxi]
        rw [e] at acc1 hvl ⊢
        rw [f71_neg, Option.bind_some]
        dsimp only
        rw [if_pos rfl, Option.bind_some, acc1, w64_succ (by omega), ih (i + 1) L _ (by omega) (by omega) h3 (by omega) (by omega), show dx L (-1) = L from rfl, decide_eq_true (by decide), Bool.true_or, Bool.true_and, Int.add_assoc]
      · obtain ⟨j, hj⟩ : ∃ j : Nat, l[i] = j := ⟨l[i].toNat, by omega⟩
        rw [f72_eq hv.ok his hxi]
        rw [hj] at acc1 hvl hxi ⊢
        obtain ⟨a1, a2, a3, a4⟩ := look_L h3 (show j < 5 by omega)
        have edx : dx L (j : Int) = dl L j := by unfold dx; rw [if_neg (by omega), Int.toNat_natCast]
        rw [f71_eq h3 (by omega), Option.bind_some, Int.toNat_natCast, decide_eq_false (by omega), Bool.false_or, edx]
        dsimp only
        cases ht : L.testBit j
        · simp
        · rw [if_pos rfl, Option.bind_some, acc1, w64_succ (by omega), ih (i + 1) (dl L j) _ (by omega) (by omega) a3 (by omega) (by omega), Bool.true_and, Int.add_assoc]
    · rw [if_neg (by simp; omega), List.drop_eq_nil_of_le (by omega)]
      rw [show List.drop i s = [] from List.drop_eq_nil_of_le (by omega)]
      simp [okD, wv]
theorem f21_eq {F m : Nat} {s : List (List Int)} {l : List Int} (hF : 100 ≤ F) (hv : Vs m s) (hl : l.length = s.length) (hx : ∀ x ∈ l, -1 ≤ x ∧ x < m) : f21 F s l = some (if okD (all_ m) l = true then (wv s l, 0) else (0, 6)) := by
  obtain ⟨a1, a2⟩ := f69_eq (F := F) (M := []) (s := s) hv.m5
  have hn := hv.n
  unfold f21
  rw [f65_eq hF, Option.bind_some, if_neg (by simp [hv.ck]), hv.head]
  dsimp only
  rw [if_neg (by decide), if_neg (by simp; omega), a1, Option.bind_some]
  have e := f21_p4_eq hF hv hl hx (M := []) F 0 (all_ m) 0 (by omega) (by omega) a2 (by omega) (by omega)
  rw [show f21_p4 F l [] s m F (all_ m : Nat) 0 0 = _ from e, Option.bind_some, List.drop_zero, List.drop_zero, Int.zero_add]
  cases okD (all_ m) l
  · rfl
  · rfl
end
section
theorem f96_p1_eq {F : Nat} {l : List Int} {x : Int} (hl : l.length ≤ 5000) : ∀ (k i : Nat), i ≤ l.length → l.length < k + i → (x ∈ l.drop i ∧ ∃ j : Nat, f96_p1 F l x k i = some (.c0 j)) ∨ (x ∉ l.drop i ∧ f96_p1 F l x k i = some .c1) := by
  intro k
  induction k with
  | zero => intro i _ h; omega
  | succ k ih =>
    intro i h1 h2
    unfold f96_p1
    by_cases hi : i < l.length
    · rw [if_pos (by simp; omega), at_get hi, Option.bind_some, drop_cons hi]
      by_cases he : x = l[i]
      · rw [if_pos (by simpa using he)]
        exact .inl ⟨by rw [he]; exact List.mem_cons_self .., i, rfl⟩
      · rw [if_neg (by simpa using he), w64_succ (by omega)]
        rcases ih (i + 1) (by omega) (by omega) with ⟨a, b⟩ | ⟨a, b⟩
        · exact .inl ⟨List.mem_cons_of_mem _ a, b⟩
        · exact .inr ⟨fun h => by rcases List.mem_cons.1 h with h | h; exact he h; exact a h, b⟩
    · rw [if_neg (by simp; omega), List.drop_eq_nil_of_le (by omega)]
      exact .inr ⟨by simp, rfl⟩
theorem f53_eq {F : Nat} {l : List Int} {x : Int} (hl : l.length ≤ 50) (hF : 100 ≤ F) : f53 F l x = some (decide (x ∈ l)) := by
  unfold f53 f96
  rcases f96_p1_eq (F := F) (l := l) (x := x) (by omega) F 0 (by omega) (by omega) with ⟨h1, j, h2⟩ | ⟨h1, h2⟩
  · rw [List.drop_zero] at h1
    rw [show f96_p1 F l x F 0 = _ from h2, decide_eq_true h1, Option.bind_some, Option.bind_some]; simp
  · rw [List.drop_zero] at h1
    rw [show f96_p1 F l x F 0 = _ from h2, decide_eq_false h1, Option.bind_some, Option.bind_some]; simp
theorem f23_p2_eq {F : Nat} {a b : List Int} (hab : a.length = b.length) (ha : a.length ≤ 5000) : ∀ (k i : Nat), i ≤ a.length → a.length < k + i → f23_p2 F a b k i = some (if a.drop i = b.drop i then .c1 else .c0) := by
  intro k
  induction k with
  | zero => intro i _ h; omega
  | succ k ih =>
    intro i h1 h2
    unfold f23_p2
    by_cases hi : i < a.length
    · rw [if_pos (by simp; omega), at_of (List.getElem?_eq_getElem hi), at_of (List.getElem?_eq_getElem (by omega : i < b.length)), Option.bind_some, Option.bind_some]
      have e : (List.drop i a = List.drop i b) = (a[i] = b[i] ∧ List.drop (i + 1) a = List.drop (i + 1) b) := by rw [drop_cons hi, drop_cons (by omega : i < b.length), List.cons.injEq]
      simp only [e]
      by_cases he : a[i] = b[i]
      · rw [if_neg (by simp [he]), w64_succ (by omega), ih (i + 1) (by omega) (by omega)]
        simp only [he, true_and]
      · rw [if_pos (by simp [he]), if_neg (fun h => he h.1)]
    · rw [if_neg (by simp; omega), List.drop_eq_nil_of_le (by omega), List.drop_eq_nil_of_le (by omega)]
      rfl
theorem f23_eq {F : Nat} {a b : List Int} (ha : a.length < F) (h5 : a.length ≤ 5000) : f23 F a b = some (decide (a = b)) := by
  unfold f23
  by_cases hab : a.length = b.length
  · have h := f23_p2_eq (F := F) hab (by omega) F 0 (by omega) (by omega)
    rw [List.drop_zero, List.drop_zero] at h
    rw [if_neg (by simp [hab]), show f23_p2 F a b F 0 = _ from h, Option.bind_some]
    by_cases he : a = b
    · rw [if_pos he, decide_eq_true he]
    · rw [if_neg he, decide_eq_false he]
  · rw [if_pos (by simp; omega), decide_eq_false (fun h => hab (by rw [h]))]
/-- Lots that a list has not. -/
def Avail (m L : Nat) (l : List Int) : Prop := L < 32 ∧ ∀ j : Nat, j < m → L.testBit j = !decide ((j : Int) ∈ l)
theorem Avail.all {m : Nat} (hm : m ≤ 5) : Avail m (all_ m) [] := ⟨(f69_eq (F := 0) (M := []) (s := []) hm).2, fun j hj => by rw [all_bit]; simp [hj]⟩
theorem mem_lotsF {m L : Nat} {x : Int} : ∀ j : Nat, x ∈ lotsF m L true j → ∃ l : Nat, x = l ∧ l < m ∧ L.testBit l = true := by
  intro j h
  unfold lotsF at h
  simp only [if_true, List.mem_map, List.mem_filter] at h
  obtain ⟨l, ⟨h1, h2⟩, rfl⟩ := h
  exact ⟨l, rfl, by simpa using List.mem_of_mem_drop h1, h2⟩
theorem mem_cand {m L : Nat} {x : Int} (h : x ∈ cand m L true) : x = -1 ∨ ∃ l : Nat, x = l ∧ l < m ∧ L.testBit l = true := by
  rw [lotsF_zero] at h
  rcases List.mem_cons.1 h with h | h
  · exact .inl h
  · exact .inr (mem_lotsF 0 h)
theorem Avail.next {m L : Nat} {l : List Int} (hm : m ≤ 5) (h : Avail m L l) {x : Int} (hx : x ∈ cand m L true) : Avail m (dx L x) (l ++ [x]) := by
  rcases mem_cand hx with rfl | ⟨y, rfl, h1, h2⟩
  · refine ⟨h.1, fun j hj => ?_⟩
    rw [show dx L (-1) = L from rfl, h.2 j hj]
    congr 1
    refine decide_eq_decide.2 ⟨fun h => List.mem_append_left _ h, fun h => ?_⟩
    rcases List.mem_append.1 h with h | h
    · exact h
    · simp at h
  · obtain ⟨_, _, a3, a4⟩ := look_L h.1 (show y < 5 by omega)
    have edx : dx L (y : Int) = dl L y := by unfold dx; rw [if_neg (by omega), Int.toNat_natCast]
    rw [edx]
    refine ⟨a3, fun j hj => ?_⟩
    rw [a4 j (by omega), h.2 j hj]
    by_cases e : j = y
    · subst e; simp
    · have e1 : (j != y) = true := by simpa using e
      rw [e1, Bool.and_true]
      congr 1
      refine decide_eq_decide.2 ⟨fun h => List.mem_append_left _ h, fun h => ?_⟩
      rcases List.mem_append.1 h with h | h
      · exact h
      · simp at h; omega
end
section
theorem works10 : f16 10000 = some true := by decide +kernel
end
section
theorem Vs.set {m b : Nat} {s : List (List Int)} {l : List Int} (hv : Vs m s) (hl : l.length = m ∧ ∀ x ∈ l, 0 ≤ x ∧ x ≤ 99) : Vs m (s.set b l) := by
  refine ⟨fun r hr => ?_, by rw [List.length_set]; exact hv.n, hv.m5⟩
  rcases List.mem_or_eq_of_mem_set hr with h | rfl
  · exact hv.ok r h
  · exact hl

/- The worth of the best division. -/
/-- What a bidder has of the best division. -/
def lot (m : Nat) (s : List (List Int)) (b : Nat) : Int := (bestD m s)[b]?.getD (-1)
theorem row_bd {m b : Nat} {s : List (List Int)} (hv : Vs m s) (x : Int) : 0 ≤ vl (s[b]?.getD []) x ∧ vl (s[b]?.getD []) x ≤ 99 := by
  by_cases hb : b < s.length
  · rw [List.getElem?_eq_getElem hb, Option.getD_some]
    exact vl_bd (hv.ok _ (List.getElem_mem hb)) x
  · rw [List.getElem?_eq_none (by omega), Option.getD_none]
    unfold vl
    split <;> simp
end
section
theorem rowE_ok {m : Nat} {l : List Int} (h : rowE m l = 0) : l.length = m ∧ ∀ x ∈ l, 0 ≤ x ∧ x ≤ 99 := by
  unfold rowE at h
  by_cases h1 : (l.length : Int) = m
  · rw [if_neg (by simpa using h1)] at h
    refine ⟨by omega, fun x hx => ?_⟩
    by_cases h2 : l.any badW = true
    · rw [if_pos h2] at h; cases h
    · by_cases h3 : 0 ≤ x ∧ x ≤ 99
      · exact h3
      · exact absurd (List.any_eq_true.2 ⟨x, hx, by unfold badW; rw [decide_eq_false h3]; rfl⟩) h2
  · rw [if_pos h1] at h; cases h
theorem rowE_of {m : Nat} {l : List Int} (h : l.length = m ∧ ∀ x ∈ l, 0 ≤ x ∧ x ≤ 99) : rowE m l = 0 := by
  unfold rowE
  rw [if_neg (by simp [h.1]), if_neg]
  intro h2
  obtain ⟨x, hx, hb⟩ := List.any_eq_true.1 h2
  unfold badW at hb
  rw [decide_eq_true (h.2 x hx)] at hb
  cases hb
end
section
theorem f73_eq {F : Nat} {x a b : Int} : f73 F x a b = some (decide (a ≤ x ∧ x ≤ b)) := by
  unfold f73
  by_cases h : a ≤ x <;> simp [h]
theorem f25_p8_eq {F i : Nat} {s : List (List Int)} (hi : i < s.length) (hl : s[i].length ≤ 5000) : ∀ (k j : Nat), j ≤ s[i].length → s[i].length < k + j → f25_p8 F s i k j = some (if (s[i].drop j).any badW = true then .c0 else .c1) := by
  intro k
  induction k with
  | zero => intro j _ h; omega
  | succ k ih =>
    intro j h1 h2
    unfold f25_p8
    rw [at_get hi, Option.bind_some]
    by_cases hj : j < s[i].length
    · rw [if_pos (by simp; omega), at_get hj, Option.bind_some, f73_eq, Option.bind_some, drop_cons hj, List.any_cons]
      cases hb : badW s[i][j]
      · have hb2 : 0 ≤ s[i][j] ∧ s[i][j] ≤ 99 := by simpa [badW] using hb
        rw [decide_eq_true hb2, if_pos rfl, w64_succ (by omega), Bool.false_or]
        exact ih (j + 1) (by omega) (by omega)
      · have hb2 : ¬ (0 ≤ s[i][j] ∧ s[i][j] ≤ 99) := fun h => by simp [badW, h] at hb
        rw [decide_eq_false hb2, if_neg (by decide), Bool.true_or, if_pos rfl]
    · rw [if_neg (by simp; omega), List.drop_eq_nil_of_le (by omega)]
      rfl
theorem f25_p3_eq {F : Nat} {s : List (List Int)} (hF : 100 ≤ F) (hs : s.length ≤ 5) (h0 : 0 < s.length) (hm : (s[0]?.getD []).length ≤ 5) : ∀ (k i : Nat), i ≤ s.length → s.length < k + i →
    f25_p3 F s k i = some (if rowsE (s[0]?.getD []).length (s.drop i) ≠ 0 then .c0 (rowsE (s[0]?.getD []).length (s.drop i)) else .c1) := by
  have e0 : at? s 0 = some (s[0]?.getD []) := by rw [List.getElem?_eq_getElem h0]; exact at_get h0
  intro k
  induction k with
  | zero => intro i _ h; omega
  | succ k ih =>
    intro i h1 h2
    unfold f25_p3
    by_cases hi : i < s.length
    · rw [if_pos (by simp; omega), at_get hi, Option.bind_some, e0, Option.bind_some, drop_cons hi, rowsE]
      by_cases hlen : (s[i].length : Int) = (s[0]?.getD []).length
      · have e8 := f25_p8_eq (F := F) hi (by omega) F 0 (by omega) (by omega)
        rw [List.drop_zero] at e8
        rw [if_neg (by simpa using hlen), show f25_p8 F s i F 0 = _ from e8, Option.bind_some]
        by_cases hb : s[i].any badW = true
        · have er : rowE (s[0]?.getD []).length s[i] = 1 := by unfold rowE; rw [if_neg (by simpa using hlen), if_pos hb]
          rw [if_pos hb, er]; rfl
        · have er : rowE (s[0]?.getD []).length s[i] = 0 := by unfold rowE; rw [if_neg (by simpa using hlen), if_neg hb]
          have e2 : (if (0 : Int) ≠ 0 then (0 : Int) else rowsE (s[0]?.getD []).length (s.drop (i + 1))) = rowsE (s[0]?.getD []).length (s.drop (i + 1)) := if_neg (fun h => h rfl)
          rw [if_neg hb, er, e2, w64_succ (by omega)]
          exact ih (i + 1) (by omega) (by omega)
      · have er : rowE (s[0]?.getD []).length s[i] = 5 := by unfold rowE; rw [if_pos hlen]
        rw [if_pos (by simpa using hlen), er]; rfl
    · rw [if_neg (by simp; omega), List.drop_eq_nil_of_le (by omega)]
      rfl
theorem f25_eq {F : Nat} (hF : 100 ≤ F) (s : List (List Int)) : f25 F s = some (ckS s) := by
  unfold f25 ckS
  by_cases h1 : s.length = 0
  · rw [if_pos (by simp [h1]), if_pos h1]
  · rw [if_neg (by simp; intro h; simp [h] at h1), if_neg h1]
    by_cases h2 : s.length > 5
    · rw [if_pos (by simp; omega), if_pos h2]
    · have e0 : at? s 0 = some (s[0]?.getD []) := by rw [List.getElem?_eq_getElem (Nat.pos_of_ne_zero h1)]; exact at_get (Nat.pos_of_ne_zero h1)
      rw [if_neg (by simp; omega), if_neg h2, e0, Option.bind_some]
      by_cases h3 : (s[0]?.getD []).length > 5
      · rw [if_pos (by simp; omega), if_pos h3]
      · rw [if_neg (by simp; omega), if_neg h3]
        have e := f25_p3_eq hF (s := s) (by omega) (Nat.pos_of_ne_zero h1) (by omega) F 0 (Nat.zero_le _) (by omega)
        rw [show f25_p3 F s F 0 = _ from e, Option.bind_some, List.drop_zero]
        by_cases hr : rowsE (s[0]?.getD []).length s = 0
        · rw [if_neg (by simpa using hr), hr]
        · rw [if_pos hr]
theorem f74_p1_eq {F : Nat} {l : List Int} {x : Int} (hl : l.length ≤ 5000) : ∀ (k i : Nat), i ≤ l.length → l.length < k + i → f74_p1 F l x k i = some (if x ∈ l.drop i then .c0 else .c1) := by
  intro k
  induction k with
  | zero => intro i _ h; omega
  | succ k ih =>
    intro i h1 h2
    unfold f74_p1
    by_cases hi : i < l.length
    · rw [if_pos (by simp; omega), at_get hi, Option.bind_some, drop_cons hi]
      by_cases he : l[i] = x
      · rw [if_pos (by simpa using he), if_pos (by rw [he]; exact List.mem_cons_self ..)]
      · rw [if_neg (by simpa using he), w64_succ (by omega), ih (i + 1) (by omega) (by omega)]
        have : (x ∈ l[i] :: l.drop (i + 1)) = (x ∈ l.drop (i + 1)) := by
          rw [List.mem_cons]; exact propext ⟨fun h => h.resolve_left fun e => he e.symm, .inr⟩
        simp only [this]
    · rw [if_neg (by simp; omega), List.drop_eq_nil_of_le (by omega)]
      simp
theorem f74_eq {F : Nat} {l : List Int} {x : Int} (hl : l.length ≤ 50) (hF : 100 ≤ F) : f74 F l x = some (decide (x ∈ l)) := by
  have e := f74_p1_eq (F := F) (l := l) (x := x) (by omega) F 0 (by omega) (by omega)
  rw [List.drop_zero] at e
  unfold f74
  rw [show f74_p1 F l x F 0 = _ from e, Option.bind_some]
  by_cases h : x ∈ l
  · rw [if_pos h, decide_eq_true h]
  · rw [if_neg h, decide_eq_false h]
theorem f75_p1_eq {F m : Nat} {s : List (List Int)} {l : List Int} (hv : Vs m s) (hl : l.length = s.length) (hx : ∀ x ∈ l, -1 ≤ x ∧ x < m) : ∀ (k i : Nat) (acc : Int), i ≤ l.length → l.length < k + i → 0 ≤ acc → acc ≤ 100 * i →
    f75_p1 F s l k acc i = some (acc + wv (s.drop i) (l.drop i)) := by
  have hn := hv.n
  intro k
  induction k with
  | zero => intro i acc _ h; omega
  | succ k ih =>
    intro i acc h1 h2 h4 h5
    unfold f75_p1
    by_cases hi : i < l.length
    · have his : i < s.length := by omega
      have hxi := hx _ (List.getElem_mem hi)
      have hrow := hv.ok _ (List.getElem_mem his)
      have hvl := vl_bd hrow l[i]
      rw [if_pos (by simp; omega), at_get hi, Option.bind_some, drop_cons hi, drop_cons his, wv, w64_succ (by omega)]
      unfold f75_p4
      by_cases hneg : l[i] ≥ 0
      · obtain ⟨j, hj⟩ : ∃ j : Nat, l[i] = j := ⟨l[i].toNat, by omega⟩
        have hj2 : j < s[i].length := by omega
        have ev : vl s[i] l[i] = s[i][j] := by rw [hj]; unfold vl; rw [if_neg (by omega), Int.toNat_natCast, List.getElem?_eq_getElem hj2]; rfl
        rw [if_pos (by simpa using hneg), at_get his, Option.bind_some, at_get hi, Option.bind_some, hj, at_get hj2, Option.bind_some, Option.bind_some, w64_in (by omega), ih (i + 1) _ (by omega) (by omega) (by omega) (by omega), ← hj, ev, Int.add_assoc]
      · have ev : vl s[i] l[i] = 0 := by unfold vl; rw [if_pos (by omega)]
        rw [if_neg (by simpa using hneg), Option.bind_some, ev, ih (i + 1) acc (by omega) (by omega) h4 (by omega), Int.zero_add]
    · rw [if_neg (by simp; omega), show List.drop i s = [] from List.drop_eq_nil_of_le (by omega)]
      rw [wv] <;> simp
theorem f75_eq {F m : Nat} {s : List (List Int)} {l : List Int} (hF : 100 ≤ F) (hv : Vs m s) (hl : l.length = s.length) (hx : ∀ x ∈ l, -1 ≤ x ∧ x < m) : f75 F s l = some (wv s l) := by
  have hn := hv.n
  have e := f75_p1_eq (F := F) hv hl hx F 0 0 (by omega) (by omega) (by omega) (by omega)
  rw [List.drop_zero, List.drop_zero, Int.zero_add] at e
  unfold f75
  rw [show f75_p1 F s l F 0 0 = _ from e, Option.bind_some]

/- All divisions, as a list. -/
def wE (m L : Nat) : List Int → Int
  | [] => 0
  | x :: xs => if -1 ≤ x ∧ x ≤ (m : Int) - 1 then (if x ≥ 0 ∧ L.testBit x.toNat = false then 6 else wE m (dx L x) xs) else 2
def worthA (s : List (List Int)) (l : List Int) : Int × Int := if ckS s ≠ 0 then (0, ckS s) else if (l.length : Int) ≠ s.length then (0, 5) else
  if wE (s[0]?.getD []).length (all_ (s[0]?.getD []).length) l ≠ 0 then (0, wE (s[0]?.getD []).length (all_ (s[0]?.getD []).length) l) else (wv s l, 0)
theorem wE_range {m : Nat} : ∀ (l : List Int) (L : Nat), wE m L l = 0 → ∀ x ∈ l, -1 ≤ x ∧ x < m
  | [], _, _, x, hx => by cases hx
  | y :: ys, L, h, x, hx => by
    rw [wE] at h
    split at h
    · rename_i hy
      split at h
      · cases h
      · rcases List.mem_cons.1 hx with rfl | hx
        · omega
        · exact wE_range ys _ h x hx
    · cases h
theorem wE_no {m L : Nat} {x : Int} {xs : List Int} (h : ¬ (-1 ≤ x ∧ x ≤ (m : Int) - 1)) : wE m L (x :: xs) = 2 := by
  show (if -1 ≤ x ∧ x ≤ (m : Int) - 1 then (if x ≥ 0 ∧ L.testBit x.toNat = false then 6 else wE m (dx L x) xs) else 2) = 2
  exact if_neg h
theorem wE_used {m L : Nat} {x : Int} {xs : List Int} (h : -1 ≤ x ∧ x ≤ (m : Int) - 1) (h2 : x ≥ 0 ∧ L.testBit x.toNat = false) : wE m L (x :: xs) = 6 := by
  show (if -1 ≤ x ∧ x ≤ (m : Int) - 1 then (if x ≥ 0 ∧ L.testBit x.toNat = false then 6 else wE m (dx L x) xs) else 2) = 6
  rw [if_pos h, if_pos h2]
theorem wE_go {m L : Nat} {x : Int} {xs : List Int} (h : -1 ≤ x ∧ x ≤ (m : Int) - 1) (h2 : ¬ (x ≥ 0 ∧ L.testBit x.toNat = false)) : wE m L (x :: xs) = wE m (dx L x) xs := by
  show (if -1 ≤ x ∧ x ≤ (m : Int) - 1 then (if x ≥ 0 ∧ L.testBit x.toNat = false then 6 else wE m (dx L x) xs) else 2) = _
  rw [if_pos h, if_neg h2]
theorem f21_p4_gen {F m : Nat} {s : List (List Int)} {l : List Int} (hF : 100 ≤ F) (hv : Vs m s) (hl : l.length = s.length) {M : Mm} : ∀ (k i L : Nat) (acc : Int), i ≤ l.length → l.length < k + i → L < 32 → 0 ≤ acc → acc ≤ 100 * i →
    f21_p4 F l M s m k L acc i = some (if wE m L (l.drop i) ≠ 0 then .c0 (wE m L (l.drop i)) else .c1 (acc + wv (s.drop i) (l.drop i))) := by
  have hm := hv.m5
  have hn := hv.n
  intro k
  induction k with
  | zero => intro i L acc _ h; omega
  | succ k ih =>
    intro i L acc h1 h2 h3 h4 h5
    unfold f21_p4
    by_cases hi : i < l.length
    · have his : i < s.length := by omega
      have hvl := vl_bd (hv.ok _ (List.getElem_mem his)) l[i]
      have acc1 : w64 (acc + vl s[i] l[i]) = acc + vl s[i] l[i] := w64_in (by omega)
      rw [if_pos (by simp; omega), at_get hi, Option.bind_some, f70_eq, w64_in (n := (m : Int) - 1) (by omega), Option.bind_some, drop_cons hi, drop_cons his, wv]
      by_cases hr : -1 ≤ l[i] ∧ l[i] ≤ (m : Int) - 1
      · rw [decide_eq_true hr, if_pos rfl]
        by_cases hneg : l[i] < 0
        · have e : l[i] = -1 := by omega
          rw [f72_eq hv.ok his ⟨by omega, by omega⟩, wE_go hr (by omega)]
          rw [e] at acc1 hvl ⊢
          rw [f71_neg, Option.bind_some]
          dsimp only
          rw [if_pos rfl, Option.bind_some, acc1, w64_succ (by omega), ih (i + 1) L _ (by omega) (by omega) h3 (by omega) (by omega), show dx L (-1) = L from rfl, Int.add_assoc]
        · obtain ⟨j, hj⟩ : ∃ j : Nat, l[i] = j := ⟨l[i].toNat, by omega⟩
          rw [f72_eq hv.ok his ⟨by omega, by omega⟩]
          rw [hj] at acc1 hvl hr ⊢
          obtain ⟨a1, a2, a3, a4⟩ := look_L h3 (show j < 5 by omega)
          have edx : dx L (j : Int) = dl L j := by unfold dx; rw [if_neg (by omega), Int.toNat_natCast]
          rw [f71_eq h3 (by omega), Option.bind_some]
          dsimp only
          cases ht : L.testBit j
          · rw [if_neg (by decide), wE_used hr ⟨by omega, by rw [Int.toNat_natCast]; exact ht⟩]; rfl
          · rw [if_pos rfl, Option.bind_some, acc1, w64_succ (by omega), ih (i + 1) (dl L j) _ (by omega) (by omega) a3 (by omega) (by omega), wE_go hr (fun h => by have := h.2; rw [Int.toNat_natCast, ht] at this; cases this), edx, Int.add_assoc]
      · rw [decide_eq_false hr, if_neg (by decide), wE_no hr]; rfl
    · rw [if_neg (by simp; omega), List.drop_eq_nil_of_le (by omega)]
      rw [show List.drop i s = [] from List.drop_eq_nil_of_le (by omega)]
      simp [wE, wv]
theorem f21_gen {F : Nat} (hF : 100 ≤ F) (s : List (List Int)) (l : List Int) : f21 F s l = some (worthA s l) := by
  unfold f21 worthA
  rw [f65_eq hF, Option.bind_some]
  by_cases h : ckS s = 0
  · have hv := ckS_ok h
    obtain ⟨a1, a2⟩ := f69_eq (F := F) (M := []) (s := s) hv.m5
    have hn := hv.n
    rw [if_neg (by simpa using h), if_neg (by simpa using h)]
    dsimp only
    rw [if_neg (by decide)]
    by_cases hl : (l.length : Int) = s.length
    · have e := f21_p4_gen hF hv (by omega : l.length = s.length) (M := []) F 0 (all_ (s[0]?.getD []).length) 0 (by omega) (by omega) a2 (by omega) (by omega)
      rw [List.drop_zero, List.drop_zero, Int.zero_add] at e
      rw [if_neg (by simpa using hl), if_neg (by simpa using hl), a1, Option.bind_some, show f21_p4 F l [] s _ F (all_ (s[0]?.getD []).length : Nat) 0 0 = _ from e, Option.bind_some]
      by_cases hw : wE (s[0]?.getD []).length (all_ (s[0]?.getD []).length) l = 0
      · rw [if_neg (by simpa using hw), if_neg (by simpa using hw)]
      · rw [if_pos hw, if_pos hw]
    · rw [if_pos (by simpa using hl), if_pos hl]
  · rw [if_pos h, if_pos h]
    dsimp only
    rw [if_pos (by simpa using h)]
theorem f22_p2_stay {F : Nat} {s : List (List Int)} {l : List Int} {e : Int} (he : e ≠ 0) : ∀ (k : Nat) (i : Int), f22_p2 F s l (k + 1) e i = some e := by
  intro k i
  unfold f22_p2
  by_cases h : decide (i < ((List.length l : Nat) : Int)) = true
  · rw [if_pos h, if_neg (by simpa using he)]
  · rw [if_neg h]
theorem f22_p2_1_stay {F : Nat} {s : List (List Int)} {l : List Int} {e : Int} (he : e ≠ 0) : ∀ (k : Nat) (i : Int), f22_p2_1 F s l (k + 1) e i = some e := by
  intro k i
  unfold f22_p2_1
  by_cases h : decide (i < ((List.length l : Nat) : Int)) = true
  · rw [if_pos h, if_neg (by simpa using he)]
  · rw [if_neg h]
theorem f22_p2_eq {F m : Nat} {s : List (List Int)} {l : List Int} (hF : 100 ≤ F) (hv : Vs m s) (hl : l.length = s.length) : ∀ (k i L : Nat), i ≤ l.length → l.length < k + i → Avail m L (l.take i) → f22_p2 F s l (k + 1) 0 i = some (wE m L (l.drop i)) := by
  have hm := hv.m5
  have hn := hv.n
  obtain ⟨r, q1, q2⟩ := hv.at0
  intro k
  induction k with
  | zero => intro i L _ h; omega
  | succ k ih =>
    intro i L h1 h2 h3
    rw [f22_p2]
    by_cases hi : i < l.length
    · have htk : l.take (i + 1) = l.take i ++ [l[i]] := by rw [List.take_add_one, List.getElem?_eq_getElem hi]; rfl
      rw [if_pos (by simp; omega), if_pos (by decide), at_get hi, Option.bind_some, q1, Option.bind_some, f73_eq, q2, w64_in (n := (m : Int) - 1) (by omega), Option.bind_some, drop_cons hi]
      unfold f22_p5
      by_cases hr : -1 ≤ l[i] ∧ l[i] ≤ (m : Int) - 1
      · rw [decide_eq_true hr, if_pos rfl, at_get hi, Option.bind_some]
        by_cases hneg : l[i] ≥ 0
        · obtain ⟨j, hj⟩ : ∃ j : Nat, l[i] = j := ⟨l[i].toNat, by omega⟩
          have hbit := h3.2 j (by omega)
          rw [if_pos (by simpa using hneg), req_pos (by omega), Int.toNat_natCast, List.drop_zero, f74_eq (by simp; omega) hF, Option.bind_some]
          unfold f22_p6
          rw [hj] at htk hr ⊢
          by_cases hc : (j : Int) ∈ l.take i
          · rw [decide_eq_true hc, if_pos rfl, Option.bind_some, Option.bind_some, wE_used hr ⟨by omega, by rw [Int.toNat_natCast, hbit, decide_eq_true hc]; rfl⟩]
            exact f22_p2_stay (by decide) k _
          · have hmem : (j : Int) ∈ cand m L true := by
              unfold cand
              simp only [if_true, List.mem_cons, List.mem_map, List.mem_filter, List.mem_range]
              exact .inr ⟨j, ⟨by omega, by rw [hbit, decide_eq_false hc]; rfl⟩, rfl⟩
            rw [decide_eq_false hc, if_neg (by decide), Option.bind_some, Option.bind_some, wE_go hr (fun h => by have := h.2; rw [Int.toNat_natCast, hbit, decide_eq_false hc] at this; cases this), w64_succ (by omega)]
            refine ih (i + 1) (dx L j) (by omega) (by omega) ?_
            rw [htk]
            exact h3.next hm hmem
        · have e : l[i] = -1 := by omega
          have hmem : (-1 : Int) ∈ cand m L true := by simp [cand]
          rw [if_neg (by simpa using hneg), Option.bind_some, wE_go hr (by omega), w64_succ (by omega)]
          refine ih (i + 1) (dx L l[i]) (by omega) (by omega) ?_
          rw [htk, e]
          exact h3.next hm hmem
      · rw [decide_eq_false hr, if_neg (by decide), wE_no hr, Option.bind_some]
        exact f22_p2_stay (by decide) k _
    · rw [if_neg (by simp; omega), List.drop_eq_nil_of_le (by omega)]
      rfl
theorem f22_eq {F : Nat} (hF : 100 ≤ F) (s : List (List Int)) (l : List Int) (hl30 : l.length ≤ 50) : f22 F s l = some (worthA s l) := by
  obtain ⟨F', rfl⟩ : ∃ F', F = F' + 1 := ⟨F - 1, by omega⟩
  unfold f22 worthA
  rw [f25_eq hF, Option.bind_some]
  by_cases h : ckS s = 0
  · have hv := ckS_ok h
    rw [h, if_pos (by decide), if_neg (by decide)]
    unfold f22_p0
    by_cases hl : (l.length : Int) = s.length
    · have e := f22_p2_eq (F := F' + 1) hF hv (by omega : l.length = s.length) F' 0 (all_ (s[0]?.getD []).length) (by omega) (by omega) (by rw [List.take_zero]; exact Avail.all hv.m5)
      rw [List.drop_zero] at e
      rw [if_neg (by simpa using hl), Option.bind_some, if_neg (by simpa using hl), show f22_p2 (F' + 1) s l (F' + 1) 0 0 = _ from e, Option.bind_some]
      by_cases hw : wE (s[0]?.getD []).length (all_ (s[0]?.getD []).length) l = 0
      · rw [if_neg (by simpa using hw), if_neg (by simpa using hw), f75_eq hF hv (by omega) (wE_range l _ hw), Option.bind_some]
      · rw [if_pos (by simpa using hw), if_pos hw]
    · rw [if_pos (by simpa using hl), if_pos hl, Option.bind_some, f22_p2_stay (by decide), Option.bind_some, if_pos (by decide)]
  · rw [if_neg (by simpa using h), if_pos h, f22_p2_1_stay h, Option.bind_some, if_pos (by simpa using h)]
end
section
theorem f82_p2_eq {F : Nat} {l : List Int} (hl : l.length ≤ 5000) : ∀ (k i : Nat), i ≤ l.length → l.length < k + i → f82_p2 F l k i = some (if (l.drop i).any badW = true then .c0 else .c1) := by
  intro k
  induction k with
  | zero => intro i _ h; omega
  | succ k ih =>
    intro i h1 h2
    unfold f82_p2
    by_cases hi : i < l.length
    · rw [if_pos (by simp; omega), at_get hi, Option.bind_some, f73_eq, Option.bind_some, drop_cons hi, List.any_cons]
      by_cases hb : (0 ≤ l[i] ∧ l[i] ≤ 99)
      · rw [if_pos (by simpa using hb), w64_succ (by omega), ih (i + 1) (by omega) (by omega)]
        rw [show badW l[i] = false by unfold badW; rw [decide_eq_true hb]; rfl, Bool.false_or]
      · rw [if_neg (by simpa using hb), show badW l[i] = true by unfold badW; rw [decide_eq_false hb]; rfl, Bool.true_or, if_pos rfl]
    · rw [if_neg (by simp; omega), List.drop_eq_nil_of_le (by omega)]
      rfl
theorem f82_eq {F m : Nat} {s : List (List Int)} {l : List Int} (hF : 100 ≤ F) (hv : Vs m s) : f82 F s l = some (rowE m l) := by
  obtain ⟨r, q1, q2⟩ := hv.at0
  have hm := hv.m5
  unfold f82 rowE
  rw [q1, Option.bind_some, q2]
  by_cases h : (l.length : Int) = m
  · rw [if_neg (by simpa using h), if_neg (by simpa using h), show f82_p2 F l F 0 = _ from f82_p2_eq (by omega) F 0 (by omega) (by omega), Option.bind_some, List.drop_zero]
    by_cases hb : l.any badW = true
    · rw [if_pos hb, if_pos hb]
    · rw [if_neg hb, if_neg hb]
  · rw [if_pos (by simpa using h), if_pos h]
end
section
/-- The sum of f 0, .., f (n - 1). -/
def sm : Nat → (Nat → Int) → Int
  | 0, _ => 0
  | n + 1, f => sm n f + f n
section
variable {n m : Nat} {v : Nat → Int → Int} {d t : Nat → Int}
end

/- Prices. -/
/-- What a lot costs; none costs nothing. -/
def pr (p : List Int) (x : Int) : Int := if x < 0 then 0 else (p[x.toNat]?).getD 0
theorem pr_neg {p : List Int} : pr p (-1) = 0 := rfl
theorem pr_nat {p : List Int} {l : Nat} (h : l < p.length) : pr p (l : Int) = p[l] := by
  unfold pr; rw [if_neg (by omega), Int.toNat_natCast, List.getElem?_eq_getElem h, Option.getD_some]
section
variable {n m : Nat} {v : Nat → Int → Int} {d t : Nat → Int} {p : List Int}
end
end
section
/-- A list as a function. -/
def fl (l : List Int) : Nat → Int := fun i => l[i]?.getD (-1)
theorem fl_get {l : List Int} {i : Nat} (h : i < l.length) : fl l i = l[i] := by unfold fl; rw [List.getElem?_eq_getElem h, Option.getD_some]
/-- What a lot is worth to a bidder. -/
def va (s : List (List Int)) (i : Nat) (x : Int) : Int := vl (s[i]?.getD []) x
theorem va_none (s : List (List Int)) (i : Nat) : va s i (-1) = 0 := rfl
section
variable {m : Nat} {s : List (List Int)} (hv : Vs m s)
include hv
end
section
variable {m : Nat} {s : List (List Int)} (hv : Vs m s)
include hv
end
end
section
section
variable {m : Nat} {s : List (List Int)} (hv : Vs m s)
include hv
theorem va_at {i l : Nat} (hi : i < s.length) (hl : l < m) (h : l < s[i].length) : s[i][l] = va s i l := by
  have _ := hv
  unfold va vl
  rw [if_neg (by omega), Int.toNat_natCast, List.getElem?_eq_getElem hi, Option.getD_some, List.getElem?_eq_getElem h, Option.getD_some]
theorem va_bd {i : Nat} {x : Int} : 0 ≤ va s i x ∧ va s i x ≤ 99 := row_bd (b := i) hv x
end
section
variable {m i F : Nat} {s : List (List Int)} {M : Mm} {P D : List Int}
end
end
section
section
variable {m i F : Nat} {s : List (List Int)} {M : Mm} {D : List Int}
end
end
section
section
variable {n m : Nat} {v : Nat → Int → Int} {d t : Nat → Int} {p : List Int}
end
section
variable {m : Nat} {s : List (List Int)} {r : List Int} (hv : Vs m s) (hr : Vs m (s ++ [r]))
include hv hr
end
section
variable {m : Nat} {s : List (List Int)} (hv : Vs m s) (hm4 : m ≤ 4)
include hv hm4
end
section
variable {m : Nat} {s : List (List Int)} (hv : Vs m s) (hm4 : m ≤ 4)
include hv hm4
end
end
section
/-- The most that one of the first lots gives, or nothing. -/
def mxw (f : Nat → Int) : Nat → Int
  | 0 => 0
  | j + 1 => if f j > mxw f j then f j else mxw f j
/-- Which of them give as much. -/
def wb (f : Nat → Int) : Nat → Nat
  | 0 => 0
  | j + 1 => if f j > mxw f j then 2 ^ j else if f j = mxw f j then wb f j ||| 2 ^ j else wb f j
theorem mxw_le {f : Nat → Int} : ∀ {j : Nat}, 0 ≤ mxw f j ∧ ∀ l, l < j → f l ≤ mxw f j
  | 0 => ⟨Int.le_refl _, fun l h => by omega⟩
  | j + 1 => by
    obtain ⟨h1, h2⟩ := mxw_le (f := f) (j := j)
    rw [mxw]
    split
    · refine ⟨by omega, fun l hl => ?_⟩
      by_cases e : l = j
      · subst e; exact Int.le_refl _
      · have := h2 l (by omega); omega
    · refine ⟨h1, fun l hl => ?_⟩
      by_cases e : l = j
      · subst e; omega
      · exact h2 l (by omega)
theorem mxw_is {f : Nat → Int} : ∀ {j : Nat}, mxw f j = 0 ∨ ∃ l, l < j ∧ mxw f j = f l
  | 0 => .inl rfl
  | j + 1 => by
    rw [mxw]
    split
    · exact .inr ⟨j, by omega, rfl⟩
    · rcases mxw_is (f := f) (j := j) with h | ⟨l, h1, h2⟩
      · exact .inl h
      · exact .inr ⟨l, by omega, h2⟩
theorem wb_bit {f : Nat → Int} : ∀ {j l : Nat}, (wb f j).testBit l = (decide (l < j) && decide (f l = mxw f j))
  | 0, l => by simp [wb]
  | j + 1, l => by
    have h := mxw_le (f := f) (j := j)
    rw [wb, mxw]
    by_cases h1 : f j > mxw f j
    · rw [if_pos h1, if_pos h1, Nat.testBit_two_pow]
      by_cases e : j = l
      · subst e; simp
      · rw [decide_eq_false e]
        by_cases e2 : l < j
        · have := h.2 l e2
          rw [decide_eq_false (p := f l = f j) (by omega), Bool.and_false]
        · rw [decide_eq_false (p := l < j + 1) (by omega), Bool.false_and]
    · rw [if_neg h1, if_neg h1]
      by_cases h2 : f j = mxw f j
      · rw [if_pos h2, Nat.testBit_or, wb_bit, Nat.testBit_two_pow]
        by_cases e : j = l
        · subst e; simp [h2]
        · rw [decide_eq_false e, Bool.or_false]
          congr 1
          exact decide_eq_decide.2 ⟨fun _ => by omega, fun _ => by omega⟩
      · rw [if_neg h2, wb_bit]
        by_cases e : j = l
        · subst e; simp [h2]
        · congr 1
          exact decide_eq_decide.2 ⟨fun _ => by omega, fun _ => by omega⟩
theorem wb_lt {f : Nat → Int} : ∀ {j : Nat}, wb f j < 2 ^ j
  | 0 => Nat.one_pos
  | j + 1 => by
    have h := wb_lt (f := f) (j := j)
    rw [wb]
    have e : 2 ^ (j + 1) = 2 ^ j + 2 ^ j := by rw [Nat.pow_succ]; omega
    split
    · omega
    · split
      · exact Nat.or_lt_two_pow (by omega) (by omega)
      · omega
theorem wb32 {f : Nat → Int} {j : Nat} (hj : j ≤ 5) : wb f j < 32 := Nat.lt_of_lt_of_le wb_lt (by
  have : 2 ^ j ≤ 2 ^ 5 := Nat.pow_le_pow_right (by decide) hj
  exact this)
def lookO : Bool := (List.range 32).all fun (L : Nat) => (List.range 5).all fun (l : Nat) => (iOr .u8 (L : Int) (iShl .u8 1 (l : Int)) == ((L ||| 2 ^ l : Nat) : Int)) && (iShl .u8 1 (l : Int) == ((2 ^ l : Nat) : Int)) && ((iAnd .u8 (iShr .u8 (L : Int) (l : Int)) 1 == 0) == !L.testBit l)
theorem lookO_true : lookO = true := by decide +kernel
theorem look_O {L l : Nat} (hL : L < 32) (hl : l < 5) : iOr .u8 (L : Int) (iShl .u8 1 (l : Int)) = ((L ||| 2 ^ l : Nat) : Int) ∧ iShl .u8 1 (l : Int) = ((2 ^ l : Nat) : Int) ∧ (iAnd .u8 (iShr .u8 (L : Int) (l : Int)) 1 == 0) = !L.testBit l := by
  have h := lookO_true
  unfold lookO at h
  simp only [List.all_eq_true, List.mem_range] at h
  have h2 := h L hL l hl
  simp only [Bool.and_eq_true, beq_iff_eq] at h2
  exact ⟨h2.1.1, h2.1.2, h2.2⟩
/-- What a lot gives to a bidder at prices. -/
def gv (s : List (List Int)) (p : List Int) (i l : Nat) : Int := va s i l - pr p l
section
variable {m i F : Nat} {s : List (List Int)} {M : Mm} {p : List Int}
/-- Prices for all lots. -/
structure Pd (m : Nat) (p : List Int) : Prop where
  len : p.length = m
  bd : ∀ l : Nat, l < m → 0 ≤ pr p l ∧ pr p l ≤ 99
theorem Pd.row (h : Pd m p) : p.length = m ∧ ∀ x ∈ p, 0 ≤ x ∧ x ≤ 99 := by
  refine ⟨h.len, fun x hx => ?_⟩
  obtain ⟨l, hl, rfl⟩ := List.getElem_of_mem hx
  have := h.bd l (by rw [← h.len]; exact hl)
  rwa [pr_nat hl] at this
theorem Pd.of (h : p.length = m ∧ ∀ x ∈ p, 0 ≤ x ∧ x ≤ 99) : Pd m p := ⟨h.1, fun l hl => by
  rw [pr_nat (by omega)]; exact h.2 _ (List.getElem_mem _)⟩
theorem gv_bd (hv : Vs m s) (hp : Pd m p) {l : Nat} (hl : l < m) : -99 ≤ gv s p i l ∧ gv s p i l ≤ 99 := by
  have h1 := va_bd hv (i := i) (x := (l : Int))
  have h2 := hp.bd l hl
  unfold gv; omega
theorem mxw_bd (hv : Vs m s) (hp : Pd m p) {j : Nat} (hj : j ≤ m) : 0 ≤ mxw (gv s p i) j ∧ mxw (gv s p i) j ≤ 99 := by
  refine ⟨mxw_le.1, ?_⟩
  rcases mxw_is (f := gv s p i) (j := j) with h | ⟨l, h1, h2⟩
  · omega
  · have := gv_bd (i := i) hv hp (l := l) (by omega); omega
theorem f84_p1_eq (hv : Vs m s) (hp : Pd m p) (hi : i < s.length) : ∀ (k j : Nat), j ≤ m → m < k + j → f84_p1 F i p M s m k (mxw (gv s p i) j) (wb (gv s p i) j : Nat) j = some (mxw (gv s p i) m, ((wb (gv s p i) m : Nat) : Int)) := by
  have hm := hv.m5
  have hlen := (hv.ok _ (List.getElem_mem hi)).1
  have hpl := hp.len
  intro k
  induction k with
  | zero => intro j _ h; omega
  | succ k ih =>
    intro j h1 h2
    unfold f84_p1
    by_cases hj : j < m
    · have hg := gv_bd (i := i) hv hp hj
      have e : s[i][j]'(by omega) - p[j]'(by omega) = gv s p i j := by
        unfold gv
        rw [← va_at hv hi hj (by omega), pr_nat (by omega)]
      have hmb := mxw_bd (i := i) hv hp (j := j) (by omega)
      obtain ⟨o1, o2, _⟩ := look_O (L := wb (gv s p i) j) (l := j) (wb32 (by omega)) (by omega)
      rw [if_pos (by simp; omega), at_get (by omega), Option.bind_some, at_get hi, Option.bind_some, at_get (by omega), Option.bind_some, w64_succ (by omega)]
      unfold f84_p5 f84_p6
      rw [e, w64_in (n := gv s p i j) (by omega)]
      have := ih (j + 1) (by omega) (by omega)
      rw [mxw, wb] at this
      by_cases h3 : gv s p i j > mxw (gv s p i) j
      · rw [if_pos h3, if_pos h3] at this
        rw [if_pos (by simpa using h3), req_pos (by omega), Option.bind_some, o2]
        exact this
      · rw [if_neg h3, if_neg h3] at this
        rw [if_neg (by simpa using h3)]
        by_cases h4 : gv s p i j = mxw (gv s p i) j
        · rw [if_pos h4] at this
          rw [if_pos (by simpa using h4), req_pos (by omega), Option.bind_some, Option.bind_some, o1]
          exact this
        · rw [if_neg h4] at this
          rw [if_neg (by simpa using h4), Option.bind_some, Option.bind_some]
          exact this
    · rw [if_neg (by simp; omega)]
      obtain rfl : j = m := by omega
      rfl
/-- The most that a lot, or none, gives to a bidder. -/
abbrev mxg (m : Nat) (s : List (List Int)) (p : List Int) (i : Nat) : Int := mxw (gv s p i) m
abbrev wbg (m : Nat) (s : List (List Int)) (p : List Int) (i : Nat) : Nat := wb (gv s p i) m
theorem f84_eq (hF : 100 ≤ F) (hv : Vs m s) (hp : Pd m p) (hi : i < s.length) : f84 F p i M s m = some (((wbg m s p i : Nat) : Int), mxg m s p i == 0) := by
  have hm := hv.m5
  have e := f84_p1_eq (F := F) (M := M) hv hp hi F 0 (by omega) (by omega)
  unfold f84
  rw [show f84_p1 F i p M s m F 0 0 0 = _ from e, Option.bind_some]
/-- What somebody has. -/
def owng (s : List (List Int)) (p : List Int) (i : Nat) (x : Int) : Int := va s i x - pr p x
theorem owng_none {i : Nat} : owng s p i (-1) = 0 := by unfold owng; rw [va_none, pr_neg]; rfl
/-- Prices are fair with a division, as a test. -/
def fairB (m : Nat) (s : List (List Int)) (p l : List Int) : Bool := ((List.range s.length).all fun i => decide (owng s p i (fl l i) = mxg m s p i)) && (List.range m).all fun y => decide (pr p y > 0 → (y : Int) ∈ l)
theorem f37_p3_eq (hF : 100 ≤ F) (hv : Vs m s) (hp : Pd m p) {l : List Int} (hl : l.length = s.length) (hx : ∀ x ∈ l, -1 ≤ x ∧ x < m) : ∀ (k j : Nat), j ≤ s.length → s.length < k + j → (f37_p3_1 F p l M s m k j = some .c1 ∧ ∀ i, j ≤ i → i < s.length → owng s p i (fl l i) = mxg m s p i) ∨ (f37_p3_1 F p l M s m k j = some .c0 ∧ ∃ i, i < s.length ∧ owng s p i (fl l i) ≠ mxg m s p i) := by
  have hn := hv.n
  have hm := hv.m5
  intro k
  induction k with
  | zero => intro j _ h; omega
  | succ k ih =>
    intro j h1 h2
    unfold f37_p3_1
    by_cases hj : j < s.length
    · have hr := hx _ (List.getElem_mem (l := l) (n := j) (by omega))
      have hfl : fl l j = l[j]'(by omega) := fl_get (by omega)
      have next : owng s p j (fl l j) = mxg m s p j → (f37_p3_1 F p l M s m k ((j + 1 : Nat) : Int) = some .c1 ∧ ∀ i, j ≤ i → i < s.length → owng s p i (fl l i) = mxg m s p i) ∨ (f37_p3_1 F p l M s m k ((j + 1 : Nat) : Int) = some .c0 ∧ ∃ i, i < s.length ∧ owng s p i (fl l i) ≠ mxg m s p i) := fun hok => by
        rcases ih (j + 1) (by omega) (by omega) with ⟨c, d⟩ | h
        · refine .inl ⟨c, fun i h4 h5 => ?_⟩
          by_cases e : i = j
          · subst e; exact hok
          · exact d i (by omega) h5
        · exact .inr h
      rw [if_pos (by simp; omega), at_get (by omega), Option.bind_some, f84_eq hF hv hp hj, Option.bind_some, w64_succ (by omega)]
      dsimp only
      by_cases h0 : l[j]'(by omega) < 0
      · have e1 : l[j]'(by omega) = -1 := by omega
        rw [if_pos (by simpa using h0)]
        rw [hfl, e1, owng_none] at next
        by_cases h3 : mxg m s p j = 0
        · rw [if_pos (by simpa using h3), if_neg (by simpa using h0)]
          exact next h3.symm
        · rw [if_neg (by simpa using h3)]
          exact .inr ⟨rfl, j, hj, fun e => h3 (by rw [hfl, e1, owng_none] at e; exact e.symm)⟩
      · obtain ⟨x, hxx⟩ : ∃ x : Nat, l[j]'(by omega) = x := ⟨(l[j]'(by omega)).toNat, by omega⟩
        have hb := wb_bit (f := gv s p j) (j := m) (l := x)
        obtain ⟨_, _, o3⟩ := look_O (L := wbg m s p j) (l := x) (wb32 hm) (by omega)
        rw [hfl] at next
        rw [hxx] at hr next ⊢
        rw [if_neg (by simp), if_pos (by simp), req_pos (by omega), o3, hb, decide_eq_true (by omega : x < m), Bool.true_and]
        have eo : owng s p j (x : Int) = gv s p j x := rfl
        by_cases h3 : gv s p j x = mxw (gv s p j) m
        · rw [decide_eq_true h3, if_neg (by decide)]
          exact next (by rw [eo]; exact h3)
        · rw [decide_eq_false h3, if_pos (by decide)]
          exact .inr ⟨rfl, j, hj, fun e => h3 (by rw [hfl, hxx, eo] at e; exact e)⟩
    · rw [if_neg (by simp; omega)]
      exact .inl ⟨rfl, fun i h4 h5 => by omega⟩
theorem f37_p8_1_eq (hF : 100 ≤ F) (hm : m ≤ 5) (hp : Pd m p) {l : List Int} (hl : l.length ≤ 50) : ∀ (k j : Nat), j ≤ m → m < k + j → (f37_p8_1 F l p k j = some .c1 ∧ ∀ y : Nat, j ≤ y → y < m → pr p y > 0 → (y : Int) ∈ l) ∨ (f37_p8_1 F l p k j = some .c0 ∧ ∃ y : Nat, y < m ∧ pr p y > 0 ∧ (y : Int) ∉ l) := by
  have hpl := hp.len
  intro k
  induction k with
  | zero => intro j _ h; omega
  | succ k ih =>
    intro j h1 h2
    unfold f37_p8_1
    by_cases hj : j < m
    · rw [if_pos (by simp; omega), at_get (by omega), Option.bind_some, w64_succ (by omega), ← pr_nat (by omega)]
      by_cases h3 : pr p j > 0
      · rw [if_pos (by simpa using h3), f53_eq (by omega) hF, Option.bind_some]
        by_cases h4 : (j : Int) ∈ l
        · rw [if_pos (by simpa using h4)]
          rcases ih (j + 1) (by omega) (by omega) with ⟨a, b⟩ | h
          · refine .inl ⟨a, fun y h5 h6 h7 => ?_⟩
            by_cases e : y = j
            · subst e; exact h4
            · exact b y (by omega) h6 h7
          · exact .inr h
        · rw [if_neg (by simpa using h4)]
          exact .inr ⟨rfl, j, hj, h3, h4⟩
      · rw [if_neg (by simpa using h3)]
        rcases ih (j + 1) (by omega) (by omega) with ⟨a, b⟩ | h
        · refine .inl ⟨a, fun y h5 h6 h7 => ?_⟩
          by_cases e : y = j
          · subst e; exact absurd h7 h3
          · exact b y (by omega) h6 h7
        · exact .inr h
    · rw [if_neg (by simp; omega)]
      exact .inl ⟨rfl, fun y h4 h5 => by omega⟩
theorem f83_eq (hF : 100 ≤ F) (hv : Vs m s) (hp : Pd m p) : f83 F s p = some (.c1 0 [] s m) := by
  unfold f83 f83_p0_1
  rw [f65_eq hF, Option.bind_some, if_neg (by simp [hv.ck]), hv.head]
  dsimp only
  rw [if_pos (by decide), f76_eq hF (by have := hv.m5; omega), rowE_of hp.row, Option.bind_some, Option.bind_some]
theorem f37_eq (hF : 100 ≤ F) (hv : Vs m s) (hp : Pd m p) {l : List Int} (hl : l.length = s.length) (hx : ∀ x ∈ l, -1 ≤ x ∧ x < m) (ho : okD (all_ m) l = true) : f37 F s p l = some (if fairB m s p l = true then 0 else 14) := by
  have hn := hv.n
  have hm := hv.m5
  unfold f37 f37_p0_1
  rw [f83_eq hF hv hp, Option.bind_some]
  dsimp only
  rw [if_pos (by decide), f21_eq hF hv hl hx, if_pos ho, Option.bind_some]
  dsimp only
  rw [Option.bind_some, if_neg (by decide)]
  rcases f37_p3_eq (M := []) hF hv hp hl hx F 0 (by omega) (by omega) with ⟨a, b⟩ | ⟨a, i, i1, i2⟩
  · rw [show f37_p3_1 F p l [] s m F 0 = _ from a, Option.bind_some]
    dsimp only
    rcases f37_p8_1_eq hF hm hp (l := l) (by omega) F 0 (by omega) (by omega) with ⟨c, d⟩ | ⟨c, y, y1, y2, y3⟩
    · rw [show f37_p8_1 F l p F 0 = _ from c, Option.bind_some]
      have e : fairB m s p l = true := by
        unfold fairB
        simp only [Bool.and_eq_true, List.all_eq_true, List.mem_range, decide_eq_true_eq]
        exact ⟨fun i hi => b i (by omega) hi, fun y hy => d y (by omega) hy⟩
      rw [e]; rfl
    · rw [show f37_p8_1 F l p F 0 = _ from c, Option.bind_some]
      have e : fairB m s p l = false := by
        cases h : fairB m s p l
        · rfl
        · unfold fairB at h
          simp only [Bool.and_eq_true, List.all_eq_true, List.mem_range, decide_eq_true_eq] at h
          exact absurd (h.2 y y1 y2) y3
      rw [e]; rfl
  · rw [show f37_p3_1 F p l [] s m F 0 = _ from a, Option.bind_some]
    have e : fairB m s p l = false := by
      cases h : fairB m s p l
      · rfl
      · unfold fairB at h
        simp only [Bool.and_eq_true, List.all_eq_true, List.mem_range, decide_eq_true_eq] at h
        exact absurd (h.1 i i1) i2
    rw [e]; rfl
end
end
section
theorem fr_succ {P : Nat → Bool} {j : Nat} : ((List.range (j + 1)).filter P).map (fun (l : Nat) => (l : Int)) = ((List.range j).filter P).map (fun (l : Nat) => (l : Int)) ++ (if P j = true then [(j : Int)] else []) := by
  rw [List.range_succ, List.filter_append, List.map_append]
  congr 1
  by_cases h : P j = true
  · rw [if_pos h, List.filter_cons, if_pos h]; rfl
  · rw [if_neg h, List.filter_cons, if_neg h]; rfl

/- Counting. -/
theorem cnt_sm {P : Nat → Bool} : ∀ {n : Nat}, ((((List.range n).filter P).length : Nat) : Int) = sm n fun i => if P i = true then 1 else 0
  | 0 => rfl
  | n + 1 => by
    rw [List.range_succ, List.filter_append, List.length_append, sm, ← cnt_sm (n := n)]
    by_cases h : P n = true
    · rw [if_pos h, List.filter_cons, if_pos h]; rfl
    · rw [if_neg h, List.filter_cons, if_neg h]; rfl
theorem sm_more {f : Nat → Int} {m : Nat} (h : ∀ l, m ≤ l → f l = 0) : ∀ k : Nat, sm (m + k) f = sm m f
  | 0 => rfl
  | k + 1 => by
    show sm (m + k) f + f (m + k) = _
    rw [sm_more h k, h (m + k) (by omega), Int.add_zero]
/-- What a bidder wants. -/
def wl (m : Nat) (s : List (List Int)) (p : List Int) (i : Nat) : List Int := (if mxg m s p i = 0 then [-1] else []) ++ ((List.range m).filter fun l => decide (gv s p i l = mxg m s p i)).map (fun (l : Nat) => (l : Int))
def wls (m : Nat) (s : List (List Int)) (p : List Int) : List (List Int) := (List.range s.length).map (wl m s p)
theorem mem_wl {m i : Nat} {s : List (List Int)} {p : List Int} {x : Int} (hx : -1 ≤ x ∧ x < m) : x ∈ wl m s p i ↔ owng s p i x = mxg m s p i := by
  unfold wl
  rw [List.mem_append]
  by_cases h0 : x < 0
  · have e : x = -1 := by omega
    subst e
    rw [owng_none]
    constructor
    · rintro (h | h)
      · split at h
        · rename_i h2; exact h2.symm
        · cases h
      · obtain ⟨j, _, e⟩ := List.mem_map.1 h; omega
    · intro h
      rw [if_pos h.symm]
      exact .inl (by simp)
  · obtain ⟨l, rfl⟩ : ∃ l : Nat, x = l := ⟨x.toNat, by omega⟩
    have e : owng s p i (l : Int) = gv s p i l := rfl
    rw [e]
    constructor
    · rintro (h | h)
      · split at h
        · simp at h
        · cases h
      · obtain ⟨j, hj, e⟩ := List.mem_map.1 h
        have : j = l := by omega
        subst this
        exact of_decide_eq_true (List.mem_filter.1 hj).2
    · intro h
      exact .inr (List.mem_map.2 ⟨l, List.mem_filter.2 ⟨List.mem_range.2 (by omega), decide_eq_true h⟩, rfl⟩)
theorem wl_range {m i : Nat} {s : List (List Int)} {p : List Int} : (∀ x ∈ wl m s p i, -1 ≤ x ∧ x < m) ∧ (wl m s p i).length ≤ m + 1 := by
  unfold wl
  refine ⟨fun x hx => ?_, ?_⟩
  · rcases List.mem_append.1 hx with h | h
    · split at h
      · simp at h; omega
      · cases h
    · obtain ⟨j, hj, rfl⟩ := List.mem_map.1 h
      have := List.mem_range.1 (List.mem_filter.1 hj).1
      omega
  · rw [List.length_append, List.length_map]
    have := List.length_filter_le (fun l => decide (gv s p i l = mxg m s p i)) (List.range m)
    rw [List.length_range] at this
    split <;> simp <;> omega
section
variable {m i F : Nat} {s : List (List Int)} {M : Mm} {p : List Int}
theorem f32_p7_eq (hm : m ≤ 5) {R : List (List Int)} {S : List (List Int)} {L : Nat} (hL : L < 32) {c : Bool} {b0 : List Int} (hb : b0.length ≤ 1) : ∀ (k j : Nat), j ≤ m → m < k + j → f32_p7_1 F p R L S i m M s k j (b0 ++ ((List.range j).filter (L.testBit ·)).map (fun (l : Nat) => (l : Int))) = some (b0 ++ ((List.range m).filter (L.testBit ·)).map (fun (l : Nat) => (l : Int))) := by
  have _ := c
  intro k
  induction k with
  | zero => intro j _ h; omega
  | succ k ih =>
    intro j h1 h2
    unfold f32_p7_1
    by_cases hj : j < m
    · obtain ⟨_, l2, _⟩ := look_L hL (show j < 5 by omega)
      rw [if_pos (by simp; omega), req_pos (by omega), w64_succ (by omega)]
      unfold f32_p10_1
      rw [l2]
      have hlen := List.length_filter_le (L.testBit ·) (List.range j)
      rw [List.length_range] at hlen
      have := ih (j + 1) (by omega) (by omega)
      rw [fr_succ] at this
      by_cases ht : L.testBit j = true
      · rw [if_pos ht] at this
        rw [if_pos ht, req_pos (by simp; omega), Option.bind_some, List.append_assoc]
        exact this
      · rw [if_neg ht, List.append_nil] at this
        rw [if_neg ht, Option.bind_some]
        exact this
    · rw [if_neg (by simp; omega)]
      obtain rfl : j = m := by omega
      rfl
theorem wl_bits : wl m s p i = (if mxg m s p i = 0 then [-1] else []) ++ ((List.range m).filter ((wbg m s p i).testBit ·)).map (fun (l : Nat) => (l : Int)) := by
  unfold wl
  congr 2
  refine List.filter_congr fun l hl => ?_
  rw [wb_bit, decide_eq_true (List.mem_range.1 hl), Bool.true_and]
theorem f32_p2_eq (hF : 100 ≤ F) (hv : Vs m s) (hp : Pd m p) : ∀ (k j : Nat), j ≤ s.length → s.length < k + j → f32_p2 F p s M s m k j ((List.range j).map (wl m s p)) = some (wls m s p) := by
  have hn := hv.n
  have hm := hv.m5
  intro k
  induction k with
  | zero => intro j _ h; omega
  | succ k ih =>
    intro j h1 h2
    unfold f32_p2
    by_cases hj : j < s.length
    · have e5 : f32_p5_1 F p ((List.range j).map (wl m s p)) (wbg m s p j : Nat) s j (mxg m s p j == 0) M s m = some (if mxg m s p j = 0 then [-1] else []) := by
        unfold f32_p5_1
        by_cases h0 : mxg m s p j = 0
        · rw [if_pos (by simpa using h0), if_pos h0, req_pos (by simp)]; rfl
        · rw [if_neg (by simpa using h0), if_neg h0]
      have e7 := f32_p7_eq (F := F) (i := j) (p := p) (M := M) (s := s) (R := (List.range j).map (wl m s p)) (S := s) hm (wb32 hm : wbg m s p j < 32) (c := true) (b0 := if mxg m s p j = 0 then [-1] else []) (by split <;> simp) F 0 (by omega) (by omega)
      rw [← wl_bits, show ((List.range 0).filter ((wbg m s p j).testBit ·)).map (fun (l : Nat) => (l : Int)) = [] from rfl, List.append_nil] at e7
      rw [if_pos (by simp; omega), f84_eq hF hv hp hj, Option.bind_some]
      dsimp only
      rw [e5, Option.bind_some, show f32_p7_1 F p ((List.range j).map (wl m s p)) (wbg m s p j : Nat) s j m M s F 0 (if mxg m s p j = 0 then [-1] else []) = _ from e7, Option.bind_some, take0, req_pos (by simp; omega), w64_succ (by omega)]
      have e : (List.range j).map (wl m s p) ++ [wl m s p j] = (List.range (j + 1)).map (wl m s p) := by simp [List.range_succ]
      rw [e]
      exact ih (j + 1) (by omega) (by omega)
    · rw [if_neg (by simp; omega)]
      obtain rfl : j = s.length := by omega
      rfl
theorem wls_len : (wls m s p).length = s.length := by simp [wls]
theorem f32_good (hF : 100 ≤ F) (hv : Vs m s) (hp : Pd m p) : f32 F s p = some (wls m s p, 0) := by
  have hn := hv.n
  have e := f32_p2_eq (M := []) hF hv hp F 0 (by omega) (by omega)
  unfold f32
  rw [f83_eq hF hv hp, Option.bind_some]
  dsimp only
  rw [if_neg (by decide), show f32_p2 F p s [] s m F 0 [] = _ from e, Option.bind_some, take0]

/- Groups. -/
/-- The members of a group. -/
def mbG (n g : Nat) : List Int := ((List.range n).filter (g.testBit ·)).map (fun (l : Nat) => (l : Int))
/-- What they want, and whether one of them wants none. -/
def unG (m : Nat) (s : List (List Int)) (p : List Int) (g : Nat) : Nat → Nat
  | 0 => 0
  | j + 1 => if g.testBit j = true then unG m s p g j ||| wbg m s p j else unG m s p g j
def fiG (m : Nat) (s : List (List Int)) (p : List Int) (g : Nat) : Nat → Bool
  | 0 => false
  | j + 1 => if g.testBit j = true then fiG m s p g j || (mxg m s p j == 0) else fiG m s p g j
/-- How many bits. -/
def pcN (L : Nat) : Nat := ((List.range 5).filter (L.testBit ·)).length
theorem un32 (hm : m ≤ 5) {g : Nat} : ∀ {j : Nat}, unG m s p g j < 32
  | 0 => by rw [unG]; decide
  | j + 1 => by
    rw [unG]
    split
    · exact Nat.or_lt_two_pow (n := 5) (un32 hm) (wb32 hm)
    · exact un32 hm
theorem un_bit {g l : Nat} : ∀ {j : Nat}, (unG m s p g j).testBit l = true ↔ ∃ i, i < j ∧ g.testBit i = true ∧ (wbg m s p i).testBit l = true
  | 0 => by simp [unG]
  | j + 1 => by
    rw [unG]
    by_cases h : g.testBit j = true
    · rw [if_pos h, Nat.testBit_or, Bool.or_eq_true, un_bit (j := j)]
      constructor
      · rintro (⟨i, h1, h2, h3⟩ | h3)
        · exact ⟨i, by omega, h2, h3⟩
        · exact ⟨j, by omega, h, h3⟩
      · rintro ⟨i, h1, h2, h3⟩
        by_cases e : i = j
        · subst e; exact .inr h3
        · exact .inl ⟨i, by omega, h2, h3⟩
    · rw [if_neg h, un_bit (j := j)]
      constructor
      · rintro ⟨i, h1, h2, h3⟩; exact ⟨i, by omega, h2, h3⟩
      · rintro ⟨i, h1, h2, h3⟩
        by_cases e : i = j
        · subst e; exact absurd h2 h
        · exact ⟨i, by omega, h2, h3⟩
theorem fi_iff {g : Nat} : ∀ {j : Nat}, fiG m s p g j = true ↔ ∃ i, i < j ∧ g.testBit i = true ∧ mxg m s p i = 0
  | 0 => by simp [fiG]
  | j + 1 => by
    rw [fiG]
    by_cases h : g.testBit j = true
    · rw [if_pos h, Bool.or_eq_true, fi_iff (j := j)]
      constructor
      · rintro (⟨i, h1, h2, h3⟩ | h3)
        · exact ⟨i, by omega, h2, h3⟩
        · exact ⟨j, by omega, h, by simpa using h3⟩
      · rintro ⟨i, h1, h2, h3⟩
        by_cases e : i = j
        · subst e; exact .inr (by simpa using h3)
        · exact .inl ⟨i, by omega, h2, h3⟩
    · rw [if_neg h, fi_iff (j := j)]
      constructor
      · rintro ⟨i, h1, h2, h3⟩; exact ⟨i, by omega, h2, h3⟩
      · rintro ⟨i, h1, h2, h3⟩
        by_cases e : i = j
        · subst e; exact absurd h2 h
        · exact ⟨i, by omega, h2, h3⟩
/-- A group who wants too much. -/
def badG (m : Nat) (s : List (List Int)) (p : List Int) (g : Nat) : Bool := !fiG m s p g s.length && decide (pcN (unG m s p g s.length) < (mbG s.length g).length)
/-- The better one of two groups. -/
def selG (F m : Nat) (s : List (List Int)) (p : List Int) (best : Option (List Int)) (g : Nat) : Option (List Int) :=
  if badG m s p g = true then
    match best with
    | none => some (mbG s.length g)
    | some b => if (mbG s.length g).length < b.length then some (mbG s.length g) else if (mbG s.length g).length = b.length ∧ (f56 F (mbG s.length g) (some b)).getD 0 < 0 then some (mbG s.length g) else some b
  else best
def lookQ : Bool := ((List.range 32).all fun (L : Nat) => (List.range 32).all fun (K : Nat) => iOr .u8 (L : Int) (K : Int) == ((L ||| K : Nat) : Int)) &&
  ((List.range 32).all fun (g : Nat) => (List.range 5).all fun (b : Nat) => ((iAnd .i64 (iShr .i64 (g : Int) (b : Int)) 1 == 1) == g.testBit b) && ((iAnd .i64 (iShr .i64 (g : Int) (b : Int)) 1 == 0) == !g.testBit b) && (iAnd .i64 (iShr .i64 (g : Int) (b : Int)) 1 == if g.testBit b then 1 else 0) && (iOr .i64 (g : Int) (iShl .i64 1 (b : Int)) == ((g ||| 2 ^ b : Nat) : Int))) &&
  ((List.range 6).all fun (n : Nat) => iShl .i64 1 (n : Int) == ((2 ^ n : Nat) : Int)) &&
  ((List.range 31).all fun (q : Nat) => (List.range 32).any fun (K : Nat) => (iAnd .u8 ((q + 1 : Nat) : Int) (IntKind.wrap .u8 (((q + 1 : Nat) : Int) - 1)) == (K : Int)) && (pcN K + 1 == pcN (q + 1)) && decide (K < q + 1))
theorem lookQ_true : lookQ = true := by decide +kernel
theorem look_or {L K : Nat} (hL : L < 32) (hK : K < 32) : iOr .u8 (L : Int) (K : Int) = ((L ||| K : Nat) : Int) := by
  have h := lookQ_true
  unfold lookQ at h
  simp only [Bool.and_eq_true, List.all_eq_true, List.mem_range, beq_iff_eq] at h
  exact h.1.1.1 L hL K hK
theorem look_g {g b : Nat} (hg : g < 32) (hb : b < 5) : (iAnd .i64 (iShr .i64 (g : Int) (b : Int)) 1 == 1) = g.testBit b ∧ (iAnd .i64 (iShr .i64 (g : Int) (b : Int)) 1 == 0) = !g.testBit b ∧ iAnd .i64 (iShr .i64 (g : Int) (b : Int)) 1 = (if g.testBit b = true then 1 else 0) ∧ iOr .i64 (g : Int) (iShl .i64 1 (b : Int)) = ((g ||| 2 ^ b : Nat) : Int) := by
  have h := lookQ_true
  unfold lookQ at h
  simp only [Bool.and_eq_true, List.all_eq_true, List.mem_range] at h
  have h2 := h.1.1.2 g hg b hb
  simp only [beq_iff_eq] at h2
  exact ⟨h2.1.1.1, h2.1.1.2, h2.1.2, h2.2⟩
theorem look_n {n : Nat} (hn : n ≤ 5) : iShl .i64 1 (n : Int) = ((2 ^ n : Nat) : Int) := by
  have h := lookQ_true
  unfold lookQ at h
  simp only [Bool.and_eq_true, List.all_eq_true, List.mem_range, beq_iff_eq] at h
  exact h.1.2 n (by omega)
theorem look_pc {L : Nat} (h0 : 0 < L) (hL : L < 32) : ∃ K : Nat, iAnd .u8 (L : Int) (IntKind.wrap .u8 ((L : Int) - 1)) = (K : Int) ∧ pcN K + 1 = pcN L ∧ K < L := by
  have h := lookQ_true
  unfold lookQ at h
  simp only [Bool.and_eq_true, List.all_eq_true, List.any_eq_true, List.mem_range, beq_iff_eq, decide_eq_true_eq] at h
  obtain ⟨K, _, h2⟩ := h.2 (L - 1) (by omega)
  rw [Nat.sub_add_cancel (by omega)] at h2
  exact ⟨K, h2.1.1, h2.1.2, h2.2⟩
theorem pc0 : pcN 0 = 0 := by decide
theorem pc_le {L : Nat} : pcN L ≤ 5 := by
  have := List.length_filter_le (L.testBit ·) (List.range 5)
  rw [List.length_range] at this
  exact this
theorem mb_succ {g j : Nat} : mbG (j + 1) g = mbG j g ++ (if g.testBit j = true then [(j : Int)] else []) := fr_succ
theorem mb_len {g n : Nat} : (mbG n g).length ≤ n := by
  unfold mbG
  have := List.length_filter_le (g.testBit ·) (List.range n)
  rw [List.length_range] at this
  simpa using this
theorem f34_p6_eq (hF : 100 ≤ F) (hv : Vs m s) (hp : Pd m p) {g : Nat} (hg : g < 32) {best : Option (List Int)} : ∀ (k j : Nat), j ≤ s.length → s.length < k + j → f34_p6 F s p best g M s m k (unG m s p g j : Nat) (fiG m s p g j) j (mbG j g) = some (((unG m s p g s.length : Nat) : Int), fiG m s p g s.length, mbG s.length g) := by
  have hn := hv.n
  have hm := hv.m5
  intro k
  induction k with
  | zero => intro j _ h; omega
  | succ k ih =>
    intro j h1 h2
    unfold f34_p6
    by_cases hj : j < s.length
    · obtain ⟨l1, _⟩ := look_g hg (show j < 5 by omega)
      have hml := mb_len (g := g) (n := j)
      have := ih (j + 1) (by omega) (by omega)
      rw [unG, fiG, mb_succ] at this
      rw [if_pos (by simp; omega), req_pos (by omega), w64_succ (by omega)]
      unfold f34_p9_1
      rw [l1]
      by_cases ht : g.testBit j = true
      · rw [if_pos ht, if_pos ht, if_pos ht] at this
        rw [if_pos ht, f84_eq hF hv hp hj, Option.bind_some]
        dsimp only
        rw [req_pos (by simp; omega), look_or (un32 hm) (wb32 hm)]
        cases hfi : fiG m s p g j with
        | true =>
          rw [hfi, Bool.true_or] at this
          rw [if_pos rfl, Option.bind_some]
          exact this
        | false =>
          rw [hfi, Bool.false_or] at this
          rw [if_neg (by decide), Option.bind_some]
          exact this
      · rw [if_neg ht, if_neg ht, if_neg ht, List.append_nil] at this
        rw [if_neg ht, Option.bind_some]
        exact this
    · rw [if_neg (by simp; omega)]
      obtain rfl : j = s.length := by omega
      rfl
theorem f34_p11_eq {best : Option (List Int)} {g : Int} {l : List Int} {c : Bool} : ∀ (k L acc : Nat), L < 32 → L < k → acc ≤ 100 → f34_p11 F s p best g l c M s m k L acc = some ((acc + pcN L : Nat) : Int) := by
  intro k
  induction k with
  | zero => intro L acc _ h; omega
  | succ k ih =>
    intro L acc h1 h2 h3
    unfold f34_p11
    by_cases h0 : L = 0
    · subst h0
      rw [if_neg (by simp), pc0]; rfl
    · obtain ⟨K, k1, k2, k3⟩ := look_pc (by omega : 0 < L) h1
      have := pc_le (L := L)
      by_cases hacc : acc ≤ 99
      · rw [if_pos (by simpa using h0), k1, w64_succ (by omega), ih K (acc + 1) (by omega) (by omega) (by omega)]
        congr 2
        omega
      · rw [if_pos (by simpa using h0), k1, w64_succ (by omega)]
        have key : ∀ (k L acc : Nat), L < 32 → L < k → acc ≤ 1000 → acc + pcN L ≤ 1000 → f34_p11 F s p best g l c M s m k L acc = some ((acc + pcN L : Nat) : Int) := by
          intro k
          induction k with
          | zero => intro L acc _ h; omega
          | succ k ih =>
            intro L acc h1 h2 h3 h4
            unfold f34_p11
            by_cases h0 : L = 0
            · subst h0
              rw [if_neg (by simp), pc0]; rfl
            · obtain ⟨K, k1, k2, k3⟩ := look_pc (by omega : 0 < L) h1
              rw [if_pos (by simpa using h0), k1, w64_succ (by omega), ih K (acc + 1) (by omega) (by omega) (by omega) (by omega)]
              congr 2
              omega
        rw [key k K (acc + 1) (by omega) (by omega) (by omega) (by omega)]
        congr 2
        omega
/-- Lists of at most five numbers can be compared. -/
theorem f56_p1_some {a b : List Int} (ha : a.length ≤ 5) : ∀ (k j : Nat), j ≤ a.length → a.length < k + j → ∃ r, f56_p1 F a (some b) k j = some r := by
  intro k
  induction k with
  | zero => intro j _ h; omega
  | succ k ih =>
    intro j h1 h2
    unfold f56_p1
    rw [Option.getD_some]
    by_cases hj : j < a.length
    · rw [if_pos (by simp; omega), at_get hj, Option.bind_some]
      by_cases hb : j < b.length
      · rw [if_neg (by simp; omega), at_get hb, Option.bind_some]
        have e : ∃ r, f98 F a[j] b[j] = some r := by
          unfold f98 f104
          simp only [Option.bind_some, bne_self_eq_false, Bool.false_eq_true, if_false]
          split
          · exact ⟨_, rfl⟩
          · split <;> exact ⟨_, rfl⟩
        obtain ⟨r, e⟩ := e
        rw [e, Option.bind_some, w64_succ (by omega)]
        split
        · exact ⟨_, rfl⟩
        · exact ih (j + 1) (by omega) (by omega)
      · rw [if_pos (by simp; omega)]; exact ⟨_, rfl⟩
    · rw [if_neg (by simp; omega)]; exact ⟨_, rfl⟩
theorem f56_some (hF : 100 ≤ F) {a b : List Int} (ha : a.length ≤ 5) : ∃ r, f56 F a (some b) = some r := by
  obtain ⟨r, e⟩ := f56_p1_some (F := F) (b := b) ha F 0 (by omega) (by omega)
  unfold f56
  rw [show f56_p1 F a (some b) F 0 = _ from e, Option.bind_some]
  cases r
  · exact ⟨_, rfl⟩
  · dsimp only
    split <;> exact ⟨_, rfl⟩
theorem bad_ne {g : Nat} (h : badG m s p g = true) : mbG s.length g ≠ [] := by
  intro e
  unfold badG at h
  rw [e] at h
  simp at h
theorem f34_step (hF : 100 ≤ F) (hv : Vs m s) {g : Nat} {best : Option (List Int)} : (Option.bind (f34_r21 F s p best g (mbG s.length g) (fiG m s p g s.length) (pcN (unG m s p g s.length) : Nat) M s m) fun x33 => f34_p14 F s p best g (mbG s.length g) x33 M s m) = some (selG F m s p best g) := by
  have hn := hv.n
  have hml := mb_len (g := g) (n := s.length)
  unfold f34_r21 selG
  cases hfi : fiG m s p g s.length with
  | true =>
    have hb : badG m s p g = false := by unfold badG; rw [hfi]; rfl
    rw [if_pos rfl, Option.bind_some, hb, if_neg (by decide)]
    unfold f34_p14
    rw [if_neg (by decide)]
  | false =>
    rw [if_neg (by decide)]
    by_cases hc : pcN (unG m s p g s.length) < (mbG s.length g).length
    · have hb : badG m s p g = true := by unfold badG; rw [hfi, decide_eq_true hc]; rfl
      have hne := bad_ne hb
      rw [if_pos (by simp; omega), if_pos hb]
      have e14 : ∀ x, f34_p14 F s p best g (mbG s.length g) x M s m = some (if x = true then some (mbG s.length g) else best) := fun x => by
        unfold f34_p14
        cases x with
        | true => rw [if_pos rfl, if_pos rfl, take0, req_pos hne]
        | false => rw [if_neg (by decide), if_neg (by decide)]
      cases best with
      | none => rw [if_pos (by decide), Option.bind_some, e14, if_pos rfl]
      | some b =>
        rw [if_neg (by simp), Option.getD_some]
        dsimp only
        by_cases h1 : (mbG s.length g).length < b.length
        · rw [if_pos (by simp; omega), Option.bind_some, e14, if_pos rfl, if_pos h1]
        · rw [if_neg (by simp; omega), if_neg h1]
          by_cases h2 : (mbG s.length g).length = b.length
          · obtain ⟨r, hr⟩ := f56_some (b := b) hF (by omega : (mbG s.length g).length ≤ 5)
            rw [if_pos (by simp; omega), take0, hr, Option.bind_some, Option.bind_some, e14, Option.getD_some]
            by_cases h3 : r < 0
            · rw [if_pos (by simpa using h3), if_pos ⟨h2, h3⟩]
            · rw [if_neg (by simpa using h3), if_neg (fun h => h3 h.2)]
          · rw [if_neg (by simp; omega), Option.bind_some, e14, if_neg (by decide), if_neg (fun h => h2 h.1)]
    · have hb : badG m s p g = false := by unfold badG; rw [decide_eq_false hc]; simp
      rw [if_neg (by simp; omega), Option.bind_some, hb, if_neg (by decide)]
      unfold f34_p14
      rw [if_neg (by decide)]
/-- The best group from one on. -/
def selR (F m : Nat) (s : List (List Int)) (p : List Int) : Nat → Nat → Option (List Int) → Option (List Int)
  | 0, _, best => best
  | k + 1, g, best => selR F m s p k (g + 1) (selG F m s p best g)
theorem f34_p2_eq (hF : 100 ≤ F) (hv : Vs m s) (hp : Pd m p) : ∀ (q k g : Nat) (best : Option (List Int)), g + q = 2 ^ s.length → q < k → f34_p2 F s p M s m k best g = some (selR F m s p q g best) := by
  have hn := hv.n
  have hm := hv.m5
  have hpow : 2 ^ s.length ≤ 2 ^ 5 := Nat.pow_le_pow_right (by decide) hn.2
  intro q
  induction q with
  | zero =>
    intro k g best h1 h2
    obtain ⟨k, rfl⟩ : ∃ q, k = q + 1 := ⟨k - 1, by omega⟩
    unfold f34_p2
    rw [req_pos (by omega), look_n hn.2, if_neg (by rw [decide_eq_true_eq]; omega)]
    rfl
  | succ q ih =>
    intro k g best h1 h2
    obtain ⟨k, rfl⟩ : ∃ q, k = q + 1 := ⟨k - 1, by omega⟩
    have e6 := f34_p6_eq (M := M) (g := g) (best := best) hF hv hp (by omega) F 0 (by omega) (by omega)
    have e11 := f34_p11_eq (F := F) (s := s) (p := p) (M := M) (m := m) (best := best) (g := (g : Int)) (l := mbG s.length g) (c := fiG m s p g s.length) F (unG m s p g s.length) 0 (un32 hm) (by have := un32 (m := m) (s := s) (p := p) hm (g := g) (j := s.length); omega) (by omega)
    have est := f34_step (F := F) (M := M) (p := p) (g := g) (best := best) hF hv
    unfold f34_p2
    rw [req_pos (by omega), look_n hn.2, if_pos (by rw [decide_eq_true_eq]; omega), show f34_p6 F s p best g M s m F 0 false 0 [] = _ from e6, Option.bind_some]
    dsimp only
    rw [show f34_p11 F s p best g (mbG s.length g) (fiG m s p g s.length) M s m F (unG m s p g s.length : Nat) 0 = _ from e11, Option.bind_some, Nat.zero_add]
    have est2 : ∀ h : Option (List Int) → Option (Option (List Int)), (Option.bind (f34_r21 F s p best g (mbG s.length g) (fiG m s p g s.length) (pcN (unG m s p g s.length) : Nat) M s m) fun x33 => Option.bind (f34_p14 F s p best g (mbG s.length g) x33 M s m) h) = h (selG F m s p best g) := fun h => by
      rw [← Option.bind_assoc, est, Option.bind_some]
    rw [est2, w64_succ (by omega)]
    exact ih k (g + 1) _ (by omega) (by omega)
/-- The group that Over returns. -/
def overG (F m : Nat) (s : List (List Int)) (p : List Int) : Option (List Int) := selR F m s p (2 ^ s.length - 1) 1 none
theorem f34_good (hF : 100 ≤ F) (hv : Vs m s) (hp : Pd m p) : f34 F s p = some (match overG F m s p with | none => ([], 13) | some b => (b, 0)) := by
  have hn := hv.n
  have hpow : 2 ^ s.length ≤ 2 ^ 5 := Nat.pow_le_pow_right (by decide) hn.2
  have h1 : 1 ≤ 2 ^ s.length := Nat.one_le_two_pow
  have e := f34_p2_eq (M := []) hF hv hp (2 ^ s.length - 1) F 1 none (by omega) (by omega)
  unfold f34
  rw [f83_eq hF hv hp, Option.bind_some]
  dsimp only
  rw [if_neg (by decide), show f34_p2 F s p [] s m F none 1 = _ from e, Option.bind_some]
  unfold overG
  cases selR F m s p (2 ^ s.length - 1) 1 none with
  | none => rfl
  | some b => rfl
/-- There is a group just if one is bad. -/
theorem selG_none {g : Nat} {best : Option (List Int)} : selG F m s p best g = none ↔ best = none ∧ badG m s p g = false := by
  unfold selG
  cases hb : badG m s p g with
  | false => rw [if_neg (by decide)]; simp
  | true =>
    rw [if_pos rfl]
    cases best with
    | none => simp
    | some b =>
      dsimp only
      split
      · simp
      · split <;> simp
theorem selR_none : ∀ (k g : Nat) (best : Option (List Int)), selR F m s p k g best = none ↔ best = none ∧ ∀ h, g ≤ h → h < g + k → badG m s p h = false
  | 0, g, best => by
    rw [selR]
    exact ⟨fun h => ⟨h, fun q h1 h2 => by omega⟩, fun h => h.1⟩
  | k + 1, g, best => by
    rw [selR, selR_none k (g + 1), selG_none]
    constructor
    · rintro ⟨⟨h1, h2⟩, h3⟩
      refine ⟨h1, fun q h4 h5 => ?_⟩
      by_cases e : q = g
      · subst e; exact h2
      · exact h3 q (by omega) (by omega)
    · rintro ⟨h1, h2⟩
      exact ⟨⟨h1, h2 g (by omega) (by omega)⟩, fun q h4 h5 => h2 q (by omega) (by omega)⟩
end
end

end Go.Gh.Sale
