/- What is needed of the plain texts. -/
import Derived.Test.YtdbaljbhnpchjaaSale4N0
namespace Go.Gh.Sale
set_option linter.unusedVariables false
set_option linter.unusedSimpArgs false

section
theorem w64_in {n : Int} (h : -9223372036854775808 ≤ n ∧ n < 9223372036854775808) : w64 n = n := by
  unfold w64 IntKind.wrap
  simp [IntKind.bits, IntKind.signed]
  split <;> omega
theorem w64_succ {n : Nat} (h : n < 1000000000) : w64 ((n : Int) + 1) = ((n + 1 : Nat) : Int) := by rw [w64_in (by omega)]; omega
theorem at_of {α : Type} {l : List α} {i : Nat} {x : α} (h : l[i]? = some x) : at? l ((i : Nat) : Int) = some x := by
  unfold at?; rw [if_pos (by omega), Int.toNat_natCast]; exact h
theorem at_get {α : Type} {l : List α} {i : Nat} (h : i < l.length) : at? l ((i : Nat) : Int) = some l[i] := at_of (List.getElem?_eq_getElem h)
theorem req_pos {α : Type} {p : Prop} [Decidable p] {x : Option α} (h : p) : req p x = x := by unfold req; rw [if_pos h]
theorem take0 {α : Type} (l : List α) : List.drop 0 (List.take (0 + l.length) l) = l := by simp
theorem drop_cons {α : Type} {l : List α} {i : Nat} (h : i < l.length) : l.drop i = l[i] :: l.drop (i + 1) := List.drop_eq_getElem_cons h
/-- The lots that are left, without one. -/
def dl (L l : Nat) : Nat := if L.testBit l = true then L - 2 ^ l else L
def lookL : Bool := (List.range 32).all fun (L : Nat) => (List.range 5).all fun (l : Nat) => (iAndNot .u8 (L : Int) (iShl .u8 1 (l : Int)) == ((dl L l : Nat) : Int)) && ((iAnd .u8 (iShr .u8 (L : Int) (l : Int)) 1 == 1) == L.testBit l) && decide (dl L l < 32) &&
  (List.range 5).all fun j => (dl L l).testBit j == (L.testBit j && j != l)
theorem lookL_true : lookL = true := by decide +kernel
theorem look_L {L l : Nat} (hL : L < 32) (hl : l < 5) : iAndNot .u8 (L : Int) (iShl .u8 1 (l : Int)) = ((dl L l : Nat) : Int) ∧ (iAnd .u8 (iShr .u8 (L : Int) (l : Int)) 1 == 1) = L.testBit l ∧ dl L l < 32 ∧ ∀ j, j < 5 → (dl L l).testBit j = (L.testBit j && j != l) := by
  have h := lookL_true
  unfold lookL at h
  simp only [List.all_eq_true, List.mem_range] at h
  have h2 := h L hL l hl
  simp only [Bool.and_eq_true, beq_iff_eq, List.all_eq_true, List.mem_range, decide_eq_true_eq] at h2
  exact ⟨h2.1.1.1, h2.1.1.2, h2.1.2, h2.2⟩
theorem f71_neg {F : Nat} {L : Int} : f71 F L (-1) = some (L, true) := by unfold f71; rw [if_pos (by decide)]
theorem f71_eq {F L l : Nat} (hL : L < 32) (hl : l < 5) : f71 F L l = some (((dl L l : Nat) : Int), L.testBit l) := by
  obtain ⟨h1, h2, _⟩ := look_L hL hl
  unfold f71
  rw [if_neg (by simp), req_pos (by omega), h1, h2]
def all_ (m : Nat) : Nat := 2 ^ m - 1
theorem all_look : ((List.range 6).all fun (m : Nat) => IntKind.wrap .u8 ((iShl .u8 1 (m : Int)) - 1) == ((all_ m : Nat) : Int) && decide (all_ m < 32)) = true := by decide +kernel
theorem f69_eq {F m : Nat} {M : Mm} {s : List (List Int)} (hm : m ≤ 5) : f69 F M s m = some ((all_ m : Nat) : Int) ∧ all_ m < 32 := by
  have h := all_look
  simp only [List.all_eq_true, List.mem_range, Bool.and_eq_true, beq_iff_eq, decide_eq_true_eq] at h
  have h2 := h m (by omega)
  unfold f69
  rw [req_pos (by omega), h2.1]
  exact ⟨rfl, h2.2⟩
theorem all_bit {m j : Nat} : (all_ m).testBit j = decide (j < m) := by unfold all_; exact Nat.testBit_two_pow_sub_one m j

/- What is asked: the greatest worth, and how many divisions have it. -/
def cand (m L : Nat) (free : Bool) : List Int := -1 :: (if free then ((List.range m).filter fun l => L.testBit l).map (fun (l : Nat) => (l : Int)) else [])
def dx (L : Nat) (x : Int) : Nat := if x < 0 then L else dl L x.toNat
def vl (r : List Int) (x : Int) : Int := if x < 0 then 0 else (r[x.toNat]?).getD 0
def comb (b a : Int × Int) : Int × Int := if a.1 > b.1 then a else if a.1 = b.1 then (b.1, b.2 + a.2) else b
def mo (m : Nat) (but : Int) : List (List Int) → Nat → Nat → Int × Int
  | [], _, _ => (0, 1)
  | r :: rs, i, L => (cand m L (decide ((i : Int) ≠ but))).foldl (fun b x => comb b ((mo m but rs (i + 1) (dx L x)).1 + vl r x, (mo m but rs (i + 1) (dx L x)).2)) (-1, 0)
/-- Rows of worths for so many lots. -/
def Ok (m : Nat) (s : List (List Int)) : Prop := ∀ r ∈ s, r.length = m ∧ ∀ x ∈ r, 0 ≤ x ∧ x ≤ 99
theorem vl_bd {m : Nat} {r : List Int} (h : r.length = m ∧ ∀ x ∈ r, 0 ≤ x ∧ x ≤ 99) (x : Int) : 0 ≤ vl r x ∧ vl r x ≤ 99 := by
  unfold vl
  split
  · omega
  · by_cases hx : x.toNat < r.length
    · rw [List.getElem?_eq_getElem hx]
      exact h.2 _ (List.getElem_mem hx)
    · rw [List.getElem?_eq_none (by omega)]
      exact ⟨Int.le_refl 0, by decide⟩
theorem cand_len (m L : Nat) (free : Bool) : (cand m L free).length ≤ m + 1 := by
  unfold cand
  cases free
  · simp
  · have := List.length_filter_le (fun l => L.testBit l) (List.range m)
    simp at this ⊢
    omega
theorem comb_bd {A C t : Int} {b a : Int × Int} (hb : -1 ≤ b.1 ∧ b.1 ≤ A ∧ 0 ≤ b.2 ∧ b.2 ≤ t * C) (ha : 0 ≤ a.1 ∧ a.1 ≤ A ∧ 1 ≤ a.2 ∧ a.2 ≤ C) (ht : 0 ≤ t) : 0 ≤ (comb b a).1 ∧ (comb b a).1 ≤ A ∧ 0 ≤ (comb b a).2 ∧ (comb b a).2 ≤ (t + 1) * C ∧ (0 ≤ b.1 → 1 ≤ b.2 → 1 ≤ (comb b a).2) ∧ (b = (-1, 0) → 1 ≤ (comb b a).2) := by
  have e : (t + 1) * C = t * C + C := by rw [Int.add_mul, Int.one_mul]
  have hC : 0 ≤ t * C := Int.mul_nonneg ht (by omega)
  unfold comb
  by_cases h1 : a.1 > b.1
  · rw [if_pos h1]
    exact ⟨by omega, by omega, by omega, by omega, fun _ _ => by omega, fun _ => by omega⟩
  · rw [if_neg h1]
    by_cases h2 : a.1 = b.1
    · rw [if_pos h2]
      exact ⟨by show 0 ≤ b.1; omega, by show b.1 ≤ A; omega, by show 0 ≤ b.2 + a.2; omega, by show b.2 + a.2 ≤ _; omega, fun _ _ => by show 1 ≤ b.2 + a.2; omega, fun _ => by show 1 ≤ b.2 + a.2; omega⟩
    · rw [if_neg h2]
      exact ⟨by omega, by omega, by omega, by omega, fun _ _ => by omega, fun h => by subst h; simp at h1; omega⟩
theorem fold_bd {A C : Int} (g : Int → Int × Int) (hg : ∀ x, 0 ≤ (g x).1 ∧ (g x).1 ≤ A ∧ 1 ≤ (g x).2 ∧ (g x).2 ≤ C) : ∀ (xs : List Int) (b : Int × Int) (t : Int), 0 ≤ t → -1 ≤ b.1 ∧ b.1 ≤ A ∧ 0 ≤ b.2 ∧ b.2 ≤ t * C →
    -1 ≤ (xs.foldl (fun b x => comb b (g x)) b).1 ∧ (xs.foldl (fun b x => comb b (g x)) b).1 ≤ A ∧ 0 ≤ (xs.foldl (fun b x => comb b (g x)) b).2 ∧ (xs.foldl (fun b x => comb b (g x)) b).2 ≤ (t + xs.length) * C ∧
    (0 ≤ b.1 → 1 ≤ b.2 → 0 ≤ (xs.foldl (fun b x => comb b (g x)) b).1 ∧ 1 ≤ (xs.foldl (fun b x => comb b (g x)) b).2) := by
  intro xs
  induction xs with
  | nil => intro b t ht hb; exact ⟨hb.1, hb.2.1, hb.2.2.1, by simpa using hb.2.2.2, fun h1 h2 => ⟨h1, h2⟩⟩
  | cons x xs ih =>
    intro b t ht hb
    have h1 := comb_bd hb (hg x) ht
    have h2 := ih (comb b (g x)) (t + 1) (by omega) ⟨by omega, h1.2.1, h1.2.2.1, h1.2.2.2.1⟩
    rw [List.foldl_cons]
    refine ⟨h2.1, h2.2.1, h2.2.2.1, ?_, fun a1 a2 => h2.2.2.2.2 (by omega) (h1.2.2.2.2.1 a1 a2)⟩
    have := h2.2.2.2.1
    rw [List.length_cons, show (t + ((xs.length + 1 : Nat) : Int)) = t + 1 + (xs.length : Int) by omega]
    exact this
theorem pow6 (k : Nat) : 1 ≤ (6 : Int) ^ k := by
  induction k with
  | zero => decide
  | succ k ih => rw [Int.pow_succ]; omega
theorem mo_bd {m : Nat} (hm : m ≤ 5) {but : Int} : ∀ (rows : List (List Int)) (i L : Nat), Ok m rows → 0 ≤ (mo m but rows i L).1 ∧ (mo m but rows i L).1 ≤ 99 * rows.length ∧ 1 ≤ (mo m but rows i L).2 ∧ (mo m but rows i L).2 ≤ 6 ^ rows.length := by
  intro rows
  induction rows with
  | nil => intro i L _; exact ⟨Int.le_refl 0, by show (0 : Int) ≤ 99 * ((0 : Nat) : Int); decide, Int.le_refl 1, Int.le_refl 1⟩
  | cons r rs ih =>
    intro i L h
    have hr := h r (by simp)
    have hrs : Ok m rs := fun x hx => h x (by simp [hx])
    have hg : ∀ x : Int, 0 ≤ ((mo m but rs (i + 1) (dx L x)).1 + vl r x, (mo m but rs (i + 1) (dx L x)).2).1 ∧ ((mo m but rs (i + 1) (dx L x)).1 + vl r x, (mo m but rs (i + 1) (dx L x)).2).1 ≤ 99 * ((r :: rs).length : Int) ∧
        1 ≤ ((mo m but rs (i + 1) (dx L x)).1 + vl r x, (mo m but rs (i + 1) (dx L x)).2).2 ∧ ((mo m but rs (i + 1) (dx L x)).1 + vl r x, (mo m but rs (i + 1) (dx L x)).2).2 ≤ 6 ^ rs.length := fun x => by
      have := ih (i + 1) (dx L x) hrs
      have := vl_bd hr x
      rw [List.length_cons]
      dsimp only
      omega
    have hc := cand_len m L (decide ((i : Int) ≠ but))
    have hp := pow6 rs.length
    simp only [mo]
    generalize hxs : cand m L (decide ((i : Int) ≠ but)) = xs at *
    match xs, hxs with
    | [], hxs => unfold cand at hxs; cases hxs
    | y :: ys, _ =>
      have h0 := comb_bd (b := ((-1 : Int), (0 : Int))) (A := 99 * ((r :: rs).length : Int)) (C := 6 ^ rs.length) (t := 0) ⟨Int.le_refl _, by omega, Int.le_refl 0, by omega⟩ (hg y) (Int.le_refl 0)
      have h1 := fold_bd (A := 99 * ((r :: rs).length : Int)) (C := 6 ^ rs.length) _ hg ys (comb (-1, 0) ((mo m but rs (i + 1) (dx L y)).1 + vl r y, (mo m but rs (i + 1) (dx L y)).2)) 1 (by decide) ⟨by omega, h0.2.1, h0.2.2.1, h0.2.2.2.1⟩
      rw [List.foldl_cons]
      have h2 := h1.2.2.2.2 h0.1 (h0.2.2.2.2.2 rfl)
      refine ⟨h2.1, h1.2.1, h2.2, Int.le_trans h1.2.2.2.1 ?_⟩
      rw [List.length_cons, Int.pow_succ, Int.mul_comm]
      refine Int.mul_le_mul_of_nonneg_left ?_ (by omega)
      simp only [List.length_cons] at hc
      omega

/- The memo. -/
theorem mget_mset {α β : Type} [DecidableEq α] : ∀ (es : List (α × β)) (k j : α) (v : β), mget (mset es k v) j = if k = j then some v else mget es j
  | [], k, j, v => by simp only [mset, mget]
  | e :: es, k, j, v => by
    simp only [mset]
    by_cases h : e.1 = k
    · rw [if_pos h]
      simp only [mget]
      by_cases h2 : k = j
      · rw [if_pos h2, if_pos h2]
      · rw [if_neg h2, if_neg h2, if_neg (by rw [h]; exact h2)]
    · rw [if_neg h]
      simp only [mget]
      rw [mget_mset es k j v]
      by_cases h2 : e.1 = j
      · rw [if_pos h2, if_pos h2, if_neg (by rw [← h2]; exact fun e => h e.symm)]
      · rw [if_neg h2, if_neg h2]
def Good (m : Nat) (s : List (List Int)) (M : Mm) : Prop := ∀ (i L : Nat) (but : Int) v, i ≤ s.length → L < 32 → mget M ((i : Int), (but, ((L : Int), ()))) = some v → v = ((mo m but (s.drop i) i L).1, ((mo m but (s.drop i) i L).2, ()))
theorem Good.nil (m : Nat) (s : List (List Int)) : Good m s [] := fun _ _ _ _ _ _ h => by cases h
theorem Good.set {m : Nat} {s : List (List Int)} {M : Mm} (h : Good m s M) {i L : Nat} {but : Int} : Good m s (mset M ((i : Int), (but, ((L : Int), ()))) ((mo m but (s.drop i) i L).1, ((mo m but (s.drop i) i L).2, ()))) := by
  intro j L' but' v h1 h2 h3
  rw [mget_mset] at h3
  split at h3
  · rename_i he
    simp only [Prod.mk.injEq] at he
    obtain ⟨e1, e2, e3, _⟩ := he
    have e1 : i = j := by omega
    have e3 : L = L' := by omega
    subst e1; subst e2; subst e3
    exact (Option.some.inj h3).symm
  · exact h j L' but' v h1 h2 h3
theorem f72_eq {F i : Nat} {M : Mm} {s : List (List Int)} {x m : Int} {n : Nat} (ho : Ok n s) (hi : i < s.length) (hx : -1 ≤ x ∧ x < n) : f72 F i x M s m = some (vl s[i] x) := by
  unfold f72 vl
  by_cases h : x < 0
  · rw [if_pos (by simpa using h), if_pos h]
  · obtain ⟨l, rfl⟩ : ∃ l : Nat, x = l := ⟨x.toNat, by omega⟩
    have hl := (ho _ (List.getElem_mem hi)).1
    have hb : l < s[i].length := by omega
    rw [if_neg (by simp), if_neg h, at_get hi, Option.bind_some, at_get hb, Option.bind_some, Int.toNat_natCast, List.getElem?_eq_getElem hb]
    rfl
/-- One more candidate. -/
theorem comb_eq {F : Nat} {x v w t : Int} {b : Int × Int} {M : Mm} {s : List (List Int)} {m i but L : Int} (hw : 0 ≤ w ∧ w ≤ 1000) (hv : 0 ≤ v ∧ v ≤ 99) (ht : 0 ≤ t ∧ t ≤ 1000000) (hb : 0 ≤ b.2 ∧ b.2 ≤ 1000000000) :
    f68_p8_1 F x w v b.1 M s m i but L b.2 t = some (comb b (w + v, t)) ∧ f68_p8_2 F x w v b.1 M s m i but L b.2 t = some (comb b (w + v, t)) := by
  have e1 : w64 (w + v) = w + v := w64_in (by omega)
  have e2 : w64 (b.2 + t) = b.2 + t := w64_in (by omega)
  unfold f68_p8_1 f68_p8_2 f68_p9_1 f68_p9_2 comb
  rw [e1, e2]
  by_cases h1 : w + v > b.1
  · rw [if_pos (by simpa using h1), if_pos h1]
    exact ⟨rfl, rfl⟩
  · rw [if_neg (by simpa using h1), if_neg h1]
    by_cases h2 : w + v = b.1
    · rw [if_pos (by simpa using h2), if_pos h2]
      exact ⟨rfl, rfl⟩
    · rw [if_neg (by simpa using h2), if_neg h2]
      exact ⟨rfl, rfl⟩
/-- The lots from one on that are there. -/
def lotsF (m L : Nat) (free : Bool) (j : Nat) : List Int := if free then (((List.range m).drop j).filter fun l => L.testBit l).map (fun (l : Nat) => (l : Int)) else []
theorem lotsF_zero (m L : Nat) (free : Bool) : cand m L free = -1 :: lotsF m L free 0 := by unfold cand lotsF; rw [List.drop_zero]
theorem lotsF_step {m L j : Nat} {free : Bool} (h : j < m) : lotsF m L free j = if free && L.testBit j then (j : Int) :: lotsF m L free (j + 1) else lotsF m L free (j + 1) := by
  unfold lotsF
  cases free
  · simp
  · simp only [if_true, Bool.true_and]
    rw [show (List.range m).drop j = j :: (List.range m).drop (j + 1) by rw [List.drop_eq_getElem_cons (by simpa using h)]; simp]
    rw [List.filter_cons]
    split <;> simp
theorem lotsF_end {m L j : Nat} {free : Bool} (h : m ≤ j) : lotsF m L free j = [] := by
  unfold lotsF
  rw [List.drop_eq_nil_of_le (by simpa using h)]
  simp
abbrev gm (m : Nat) (but : Int) (rs : List (List Int)) (i L : Nat) (r : List Int) (x : Int) : Int × Int := ((mo m but rs (i + 1) (dx L x)).1 + vl r x, (mo m but rs (i + 1) (dx L x)).2)
theorem pow5 {k : Nat} (h : k ≤ 5) : (6 : Int) ^ k ≤ 7776 := by
  match k, h with
  | 0, _ => decide
  | 1, _ => decide
  | 2, _ => decide
  | 3, _ => decide
  | 4, _ => decide
  | 5, _ => decide
  | k + 6, h => omega
theorem f68_p3_eq {F m i L : Nat} {but : Int} {s : List (List Int)} (hm : m ≤ 5) (hn : s.length ≤ 5) (ho : Ok m s) (hL : L < 32) (hi : i < s.length)
    {rec : Int → Int → Int → Mm → List (List Int) → Int → Option (Int × Int × Mm)}
    (hrec : ∀ (L' : Nat) (M : Mm), L' < 32 → Good m s M → ∃ M', rec ((i + 1 : Nat) : Int) but (L' : Int) M s m = some ((mo m but (s.drop (i + 1)) (i + 1) L').1, (mo m but (s.drop (i + 1)) (i + 1) L').2, M') ∧ Good m s M') :
    ∀ (k j : Nat) (M : Mm) (b : Int × Int), m < k + j → Good m s M → 0 ≤ b.2 ∧ b.2 ≤ 10000 * (j + 1) → j ≤ m →
    ∃ M', f68_p3 F rec s m i but L k j M b.1 b.2 = some (M', ((lotsF m L (decide ((i : Int) ≠ but)) j).foldl (fun b x => comb b (gm m but (s.drop (i + 1)) i L s[i] x)) b)) ∧ Good m s M' := by
  have hr := ho _ (List.getElem_mem hi)
  have hrs : Ok m (s.drop (i + 1)) := fun r hr => ho r (List.mem_of_mem_drop hr)
  have hp := pow5 (k := (s.drop (i + 1)).length) (by simp; omega)
  have hlen : (s.drop (i + 1)).length ≤ 5 := by simp; omega
  intro k
  induction k with
  | zero => intro j M b h _ _ _; omega
  | succ k ih =>
    intro j M b h1 h2 h3 h4
    unfold f68_p3
    by_cases hj : j < m
    · have e1 : w64 ((j : Int) + 1) = ((j + 1 : Nat) : Int) := w64_succ (by omega)
      rw [if_pos (by simp; omega), f71_eq hL (by omega), Option.bind_some, lotsF_step hj, e1]
      dsimp only
      by_cases ht : L.testBit j = true
      · rw [ht, if_pos rfl, if_pos (by simp)]
        by_cases hb : (i : Int) = but
        · rw [if_pos (by simpa using hb), decide_eq_false (by simpa using hb)]
          simp only [Bool.false_and, Bool.false_eq_true, if_false]
          have := ih (j + 1) M b (by omega) h2 (by omega) (by omega)
          rw [decide_eq_false (by simpa using hb)] at this
          exact this
        · obtain ⟨h5, h6, h7, h8⟩ := look_L hL (show j < 5 by omega)
          obtain ⟨M1, g1, g2⟩ := hrec (dl L j) M h7 h2
          have bd := mo_bd (but := but) hm (s.drop (i + 1)) (i + 1) (dl L j) hrs
          have hv := vl_bd hr (j : Int)
          have edx : dx L (j : Int) = dl L j := by unfold dx; rw [if_neg (by omega), Int.toNat_natCast]
          rw [if_neg (by simpa using hb), decide_eq_true (by simpa using hb), w64_succ (by omega), g1, Option.bind_some]
          dsimp only
          rw [f72_eq ho hi ⟨by omega, by omega⟩, Option.bind_some]
          obtain ⟨c1, _⟩ := comb_eq (F := F) (x := (j : Int)) (v := vl s[i] j) (w := (mo m but (s.drop (i + 1)) (i + 1) (dl L j)).1) (t := (mo m but (s.drop (i + 1)) (i + 1) (dl L j)).2) (b := b) (M := M1) (s := s) (m := m) (i := i) (but := but) (L := L) ⟨by omega, by omega⟩ hv ⟨by omega, by omega⟩ ⟨by omega, by omega⟩
          rw [c1, Option.bind_some]
          simp only [Bool.true_and, if_true, List.foldl_cons]
          have hb2 : 0 ≤ (comb b ((mo m but (s.drop (i + 1)) (i + 1) (dl L j)).1 + vl s[i] j, (mo m but (s.drop (i + 1)) (i + 1) (dl L j)).2)).2 ∧ (comb b ((mo m but (s.drop (i + 1)) (i + 1) (dl L j)).1 + vl s[i] j, (mo m but (s.drop (i + 1)) (i + 1) (dl L j)).2)).2 ≤ 10000 * (((j + 1 : Nat) : Int) + 1) := by
            unfold comb
            dsimp only
            split
            · dsimp only; omega
            · split
              · dsimp only; omega
              · omega
          have := ih (j + 1) M1 (comb b ((mo m but (s.drop (i + 1)) (i + 1) (dl L j)).1 + vl s[i] j, (mo m but (s.drop (i + 1)) (i + 1) (dl L j)).2)) (by omega) g2 hb2 (by omega)
          rw [decide_eq_true (by simpa using hb)] at this
          rw [show gm m but (s.drop (i + 1)) i L s[i] (j : Int) = ((mo m but (s.drop (i + 1)) (i + 1) (dl L j)).1 + vl s[i] j, (mo m but (s.drop (i + 1)) (i + 1) (dl L j)).2) by unfold gm; rw [edx]]
          exact this
      · have ht : L.testBit j = false := by simpa using ht
        rw [ht]
        simp only [Bool.and_false, Bool.false_eq_true, if_false]
        exact ih (j + 1) M b (by omega) h2 (by omega) (by omega)
    · rw [if_neg (by simp; omega), lotsF_end (by omega)]
      exact ⟨M, rfl, h2⟩
theorem f68_eq {F m : Nat} {but : Int} {s : List (List Int)} (hF : 100 ≤ F) (hm : m ≤ 5) (hn : s.length ≤ 5) (ho : Ok m s) : ∀ (k i L : Nat) (M : Mm), i ≤ s.length → s.length < k + i → L < 32 → Good m s M →
    ∃ M', f68 F k i but L M s m = some ((mo m but (s.drop i) i L).1, (mo m but (s.drop i) i L).2, M') ∧ Good m s M' := by
  intro k
  induction k with
  | zero => intro i L M _ h; omega
  | succ k ih =>
    intro i L M h1 h2 h3 h4
    show ∃ M', f68_b F (f68 F k) i but L M s m = _ ∧ _
    unfold f68_b
    by_cases hi : i = s.length
    · subst hi
      rw [if_pos (by simp), List.drop_length]
      exact ⟨M, rfl, h4⟩
    · have hil : i < s.length := by omega
      rw [if_neg (by simp; omega)]
      cases hg : mget M ((i : Int), (but, ((L : Int), ()))) with
      | some v =>
        have := h4 i L but v h1 h3 hg
        subst this
        simp only [Option.isSome_some, if_true]
        exact ⟨M, rfl, h4⟩
      | none =>
        rw [if_neg (by simp)]
        have hr := ho _ (List.getElem_mem hil)
        have hrs : Ok m (s.drop (i + 1)) := fun r hr => ho r (List.mem_of_mem_drop hr)
        have hp := pow5 (k := (s.drop (i + 1)).length) (by simp; omega)
        have hlen : (s.drop (i + 1)).length ≤ 5 := by simp; omega
        have bd := mo_bd (but := but) hm (s.drop (i + 1)) (i + 1) L hrs
        have hrec : ∀ (L' : Nat) (M : Mm), L' < 32 → Good m s M → ∃ M', f68 F k ((i + 1 : Nat) : Int) but (L' : Int) M s m = some ((mo m but (s.drop (i + 1)) (i + 1) L').1, (mo m but (s.drop (i + 1)) (i + 1) L').2, M') ∧ Good m s M' :=
          fun L' M hL' hM => ih (i + 1) L' M (by omega) (by omega) hL' hM
        obtain ⟨M1, g1, g2⟩ := hrec L M h3 h4
        obtain ⟨_, c2⟩ := comb_eq (F := F) (x := (-1 : Int)) (v := vl s[i] (-1)) (w := (mo m but (s.drop (i + 1)) (i + 1) L).1) (t := (mo m but (s.drop (i + 1)) (i + 1) L).2) (b := ((-1 : Int), (0 : Int))) (M := M1) (s := s) (m := m) (i := i) (but := but) (L := L) ⟨by omega, by omega⟩ (vl_bd hr (-1)) ⟨by omega, by omega⟩ ⟨by decide, by decide⟩
        have hb2 : 0 ≤ (comb (-1, 0) ((mo m but (s.drop (i + 1)) (i + 1) L).1 + vl s[i] (-1), (mo m but (s.drop (i + 1)) (i + 1) L).2)).2 ∧ (comb (-1, 0) ((mo m but (s.drop (i + 1)) (i + 1) L).1 + vl s[i] (-1), (mo m but (s.drop (i + 1)) (i + 1) L).2)).2 ≤ 10000 * (((0 : Nat) : Int) + 1) := by
          unfold comb
          dsimp only
          split
          · dsimp only; omega
          · split
            · dsimp only; omega
            · dsimp only; omega
        obtain ⟨F', rfl⟩ : ∃ F', F = F' + 1 := ⟨F - 1, by omega⟩
        obtain ⟨M2, p1, p2⟩ := f68_p3_eq (F := F' + 1) (but := but) hm hn ho h3 hil hrec F' 0 M1 (comb (-1, 0) ((mo m but (s.drop (i + 1)) (i + 1) L).1 + vl s[i] (-1), (mo m but (s.drop (i + 1)) (i + 1) L).2)) (by omega) g2 hb2 (by omega)
        have hd : s.drop i = s[i] :: s.drop (i + 1) := drop_cons hil
        have emo : mo m but (s.drop i) i L = (lotsF m L (decide ((i : Int) ≠ but)) 0).foldl (fun b x => comb b (gm m but (s.drop (i + 1)) i L s[i] x)) (comb (-1, 0) ((mo m but (s.drop (i + 1)) (i + 1) L).1 + vl s[i] (-1), (mo m but (s.drop (i + 1)) (i + 1) L).2)) := by
          rw [hd]
          simp only [mo]
          rw [lotsF_zero, List.foldl_cons, show dx L (-1) = L from rfl]
        have e0 : f68_p3 (F' + 1) (f68 (F' + 1) k) s m i but L (F' + 1) (-1) M (-1) 0 = some (M2, mo m but (s.drop i) i L) := by
          unfold f68_p3
          by_cases hm0 : (-1 : Int) < m
          · rw [if_pos (by simpa using hm0), f71_neg, Option.bind_some]
            dsimp only
            rw [if_pos rfl, if_neg (by decide), w64_succ (by omega), g1, Option.bind_some]
            dsimp only
            rw [f72_eq ho hil ⟨by omega, by omega⟩, Option.bind_some, c2, Option.bind_some, show w64 ((-1 : Int) + 1) = ((0 : Nat) : Int) by decide]
            rw [p1, emo]
          · omega
        rw [e0, Option.bind_some]
        exact ⟨_, rfl, p2.set⟩
end
section
def ds (m : Nat) (but : Int) : Nat → Nat → Nat → List (List Int)
  | 0, _, _ => [[]]
  | k + 1, i, L => (cand m L (decide ((i : Int) ≠ but))).flatMap fun x => (ds m but k (i + 1) (dx L x)).map (x :: ·)
def wv : List (List Int) → List Int → Int
  | r :: rs, x :: xs => vl r x + wv rs xs
  | _, _ => 0
def mxc (ws : List Int) : Int × Int := ws.foldl (fun b w => comb b (w, 1)) (-1, 0)
theorem comb_assoc (a b c : Int × Int) : comb (comb a b) c = comb a (comb b c) := by
  obtain ⟨a1, a2⟩ := a
  obtain ⟨b1, b2⟩ := b
  obtain ⟨c1, c2⟩ := c
  unfold comb
  dsimp only
  by_cases h1 : b1 > a1
  · rw [if_pos h1]
    by_cases h2 : c1 > b1
    · simp only [if_pos h2]; rw [if_pos (by omega)]
    · simp only [if_neg h2]
      by_cases h3 : c1 = b1
      · simp only [if_pos h3]; rw [if_pos h1]
      · simp only [if_neg h3]; rw [if_pos h1]
  · rw [if_neg h1]
    by_cases h4 : b1 = a1
    · subst h4
      simp only [if_true]
      by_cases h2 : c1 > b1
      · simp only [if_pos h2]
      · simp only [if_neg h2]
        by_cases h3 : c1 = b1
        · simp only [if_pos h3]; rw [if_neg (by omega), if_pos trivial, Int.add_assoc]
        · simp only [if_neg h3]; rw [if_neg (by omega), if_pos trivial]
    · simp only [if_neg h4]
      by_cases h2 : c1 > b1
      · simp only [if_pos h2]
      · simp only [if_neg h2]
        by_cases h3 : c1 = b1
        · simp only [if_pos h3]; rw [if_neg (by omega), if_neg (by omega), if_neg h1, if_neg h4]
        · simp only [if_neg h3]; rw [if_neg (by omega), if_neg (by omega), if_neg h1, if_neg h4]
theorem comb_none {b : Int × Int} (h : -1 ≤ b.1) : comb b (-1, 0) = b := by
  unfold comb
  rw [if_neg (by dsimp only; omega)]
  split
  · obtain ⟨b1, b2⟩ := b; simp
  · rfl
theorem comb_first {w c : Int} (h : 0 ≤ w) : comb (-1, 0) (w, c) = (w, c) := by
  unfold comb; rw [if_pos (by dsimp only; omega)]
theorem comb_ge {b a : Int × Int} : b.1 ≤ (comb b a).1 ∧ a.1 ≤ (comb b a).1 := by
  unfold comb
  by_cases h1 : a.1 > b.1
  · rw [if_pos h1]; omega
  · rw [if_neg h1]
    by_cases h2 : a.1 = b.1
    · rw [if_pos h2]; dsimp only; omega
    · rw [if_neg h2]; omega
theorem fold_mxc : ∀ (ws : List Int) (b : Int × Int), (∀ w ∈ ws, 0 ≤ w) → -1 ≤ b.1 → ws.foldl (fun b w => comb b (w, 1)) b = comb b (mxc ws) := by
  intro ws
  induction ws with
  | nil => intro b _ h; exact (comb_none h).symm
  | cons w ws ih =>
    intro b h hb
    have hw := h w (by simp)
    have hws : ∀ w ∈ ws, 0 ≤ w := fun x hx => h x (by simp [hx])
    have e : mxc (w :: ws) = comb (w, 1) (mxc ws) := by
      unfold mxc
      rw [List.foldl_cons, comb_first hw]
      exact ih (w, 1) hws (by dsimp only; omega)
    rw [List.foldl_cons, e, ← comb_assoc]
    exact ih _ hws (by have := (comb_ge (b := b) (a := (w, 1))).1; omega)
theorem mxc_cons {w : Int} {ws : List Int} (hw : 0 ≤ w) (h : ∀ w ∈ ws, 0 ≤ w) : mxc (w :: ws) = comb (w, 1) (mxc ws) := by
  unfold mxc
  rw [List.foldl_cons, comb_first hw]
  exact fold_mxc ws (w, 1) h (by dsimp only; omega)
theorem mxc_append {as bs : List Int} (ha : ∀ w ∈ as, 0 ≤ w) (hb : ∀ w ∈ bs, 0 ≤ w) : mxc (as ++ bs) = comb (mxc as) (mxc bs) := by
  unfold mxc
  rw [List.foldl_append]
  refine fold_mxc bs _ hb ?_
  have := fold_mxc as (-1, 0) ha (by decide)
  rw [this]
  have := (comb_ge (b := ((-1 : Int), (0 : Int))) (a := mxc as)).1
  omega
theorem mxc_map {v : Int} (hv : 0 ≤ v) : ∀ (ws : List Int), (∀ w ∈ ws, 0 ≤ w) → ws ≠ [] → mxc (ws.map (v + ·)) = ((mxc ws).1 + v, (mxc ws).2) := by
  have key : ∀ (ws : List Int) (b : Int × Int), (ws.map (v + ·)).foldl (fun b w => comb b (w, 1)) (b.1 + v, b.2) = ((ws.foldl (fun b w => comb b (w, 1)) b).1 + v, (ws.foldl (fun b w => comb b (w, 1)) b).2) := by
    intro ws
    induction ws with
    | nil => intro b; rfl
    | cons w ws ih =>
      intro b
      rw [List.map_cons, List.foldl_cons, List.foldl_cons, ← ih]
      congr 1
      unfold comb
      dsimp only
      by_cases h1 : w > b.1
      · rw [if_pos (by omega), if_pos h1]; simp [Int.add_comm]
      · rw [if_neg (by omega), if_neg h1]
        by_cases h2 : w = b.1
        · rw [if_pos (by omega), if_pos h2]
        · rw [if_neg (by omega), if_neg h2]
  intro ws h hne
  cases ws with
  | nil => exact absurd rfl hne
  | cons w ws =>
    have hw := h w (by simp)
    unfold mxc
    rw [List.map_cons, List.foldl_cons, List.foldl_cons, comb_first hw, comb_first (by omega), ← key ws (w, 1), Int.add_comm]
theorem mxc_max : ∀ (ws : List Int), (∀ w ∈ ws, 0 ≤ w) → (∀ w ∈ ws, w ≤ (mxc ws).1) ∧ (ws ≠ [] → (mxc ws).1 ∈ ws) ∧ (mxc ws).2 = ((ws.filter fun w => decide (w = (mxc ws).1)).length : Nat) := by
  intro ws
  induction ws with
  | nil => intro _; exact ⟨by simp, by simp, rfl⟩
  | cons w ws ih =>
    intro h
    have hw := h w (by simp)
    have hws : ∀ w ∈ ws, 0 ≤ w := fun x hx => h x (by simp [hx])
    obtain ⟨i1, i2, i3⟩ := ih hws
    have e := mxc_cons hw hws
    rw [e]
    unfold comb
    dsimp only
    by_cases h1 : (mxc ws).1 > w
    · rw [if_pos h1]
      refine ⟨fun x hx => ?_, fun _ => ?_, ?_⟩
      · rcases List.mem_cons.1 hx with rfl | hx
        · omega
        · exact i1 x hx
      · refine List.mem_cons_of_mem _ (i2 fun e => ?_)
        rw [e] at h1
        have : (mxc ([] : List Int)).1 = -1 := rfl
        omega
      · rw [List.filter_cons, if_neg (by simp; omega)]; exact i3
    · rw [if_neg h1]
      by_cases h2 : (mxc ws).1 = w
      · rw [if_pos h2]
        refine ⟨fun x hx => ?_, fun _ => by simp, ?_⟩
        · rcases List.mem_cons.1 hx with rfl | hx
          · exact Int.le_refl _
          · have := i1 x hx; omega
        · dsimp only
          rw [List.filter_cons, if_pos (by simp), List.length_cons, i3, h2]
          omega
      · rw [if_neg h2]
        refine ⟨fun x hx => ?_, fun _ => by simp, ?_⟩
        · rcases List.mem_cons.1 hx with rfl | hx
          · exact Int.le_refl _
          · have := i1 x hx; omega
        · dsimp only
          rw [List.filter_cons, if_pos (by simp), List.length_cons, List.filter_eq_nil_iff.2 (fun x hx => by have := i1 x hx; simp; omega)]
          rfl
theorem wv_nn {m : Nat} : ∀ (rows : List (List Int)) (l : List Int), Ok m rows → 0 ≤ wv rows l
  | [], _, _ => Int.le_refl 0
  | _ :: _, [], _ => Int.le_refl 0
  | r :: rs, x :: xs, h => by
    have := vl_bd (h r (by simp)) x
    have := wv_nn rs xs (fun y hy => h y (by simp [hy]))
    rw [wv]; omega
theorem ds_ne {m : Nat} {but : Int} : ∀ (k i L : Nat), ds m but k i L ≠ []
  | 0, _, _ => by simp [ds]
  | k + 1, i, L => by
    intro h
    rw [ds, lotsF_zero, List.flatMap_cons] at h
    have := ds_ne (m := m) (but := but) k (i + 1) (dx L (-1))
    simp at h
    exact this h.1
theorem mo_ds {m : Nat} (but : Int) : ∀ (rows : List (List Int)) (i L : Nat), Ok m rows → mo m but rows i L = mxc ((ds m but rows.length i L).map (wv rows)) := by
  intro rows
  induction rows with
  | nil => intro i L _; rfl
  | cons r rs ih =>
    intro i L h
    have hr := h r (by simp)
    have hrs : Ok m rs := fun x hx => h x (by simp [hx])
    have part : ∀ x : Int, ((mo m but rs (i + 1) (dx L x)).1 + vl r x, (mo m but rs (i + 1) (dx L x)).2) = mxc ((((ds m but rs.length (i + 1) (dx L x)).map (x :: ·))).map (wv (r :: rs))) := by
      intro x
      have := mxc_map (vl_bd hr x).1 ((ds m but rs.length (i + 1) (dx L x)).map (wv rs)) (fun w hw => by obtain ⟨t, _, rfl⟩ := List.mem_map.1 hw; exact wv_nn rs t hrs) (by simp [ds_ne])
      rw [← ih (i + 1) (dx L x) hrs] at this
      rw [← this, List.map_map, List.map_map]
      rfl
    simp only [mo, List.length_cons, ds]
    generalize cand m L (decide ((i : Int) ≠ but)) = xs
    have nn : ∀ ys : List Int, ∀ w ∈ (ys.flatMap fun x => (ds m but rs.length (i + 1) (dx L x)).map (x :: ·)).map (wv (r :: rs)), 0 ≤ w := fun ys w hw => by
      obtain ⟨t, _, rfl⟩ := List.mem_map.1 hw
      exact wv_nn _ _ h
    have main : ∀ (ys : List Int) (b : Int × Int), -1 ≤ b.1 → ys.foldl (fun b x => comb b ((mo m but rs (i + 1) (dx L x)).1 + vl r x, (mo m but rs (i + 1) (dx L x)).2)) b = comb b (mxc ((ys.flatMap fun x => (ds m but rs.length (i + 1) (dx L x)).map (x :: ·)).map (wv (r :: rs)))) := by
      intro ys
      induction ys with
      | nil => intro b hb; exact (comb_none hb).symm
      | cons y ys ihy =>
        intro b hb
        rw [List.foldl_cons, ihy _ (by have := (comb_ge (b := b) (a := ((mo m but rs (i + 1) (dx L y)).1 + vl r y, (mo m but rs (i + 1) (dx L y)).2))).1; omega), List.flatMap_cons, List.map_append, mxc_append (fun w hw => ?_) (nn ys), part y, comb_assoc]
        obtain ⟨t, _, rfl⟩ := List.mem_map.1 hw
        exact wv_nn _ _ h
    rw [main xs (-1, 0) (by decide)]
    have e : ∀ ws : List Int, (∀ w ∈ ws, 0 ≤ w) → comb (-1, 0) (mxc ws) = mxc ws := fun ws hws => (fold_mxc ws (-1, 0) hws (by decide)).symm
    exact e _ (nn xs)
/-- The best division. -/
def bst (m : Nat) : List (List Int) → Nat → Nat → List Int
  | [], _, _ => []
  | r :: rs, i, L => match (cand m L true).find? (fun x => decide ((mo m (-1) rs (i + 1) (dx L x)).1 + vl r x = (mo m (-1) (r :: rs) i L).1)) with
    | some x => x :: bst m rs (i + 1) (dx L x)
    | none => []
theorem mo_step {m : Nat} {r : List Int} {rs : List (List Int)} {i L : Nat} (h : Ok m (r :: rs)) : (∀ x ∈ cand m L true, (mo m (-1) rs (i + 1) (dx L x)).1 + vl r x ≤ (mo m (-1) (r :: rs) i L).1) ∧ ∃ x ∈ cand m L true, (mo m (-1) rs (i + 1) (dx L x)).1 + vl r x = (mo m (-1) (r :: rs) i L).1 := by
  have hi : decide ((i : Int) ≠ -1) = true := by simp <;> omega
  have hrs : Ok m rs := fun x hx => h x (by simp [hx])
  simp only [mo, hi]
  have hg : ∀ x : Int, 0 ≤ (mo m (-1) rs (i + 1) (dx L x)).1 + vl r x := fun x => by
    have := vl_bd (h r (by simp)) x
    have e := mo_ds (-1) rs (i + 1) (dx L x) hrs
    obtain ⟨_, q2, _⟩ := mxc_max ((ds m (-1) rs.length (i + 1) (dx L x)).map (wv rs)) (fun w hw => by obtain ⟨t, _, rfl⟩ := List.mem_map.1 hw; exact wv_nn rs t hrs)
    have := q2 (by simp [ds_ne])
    obtain ⟨t, _, ht⟩ := List.mem_map.1 this
    have := wv_nn (m := m) rs t hrs
    rw [e]; omega
  have main : ∀ (ys : List Int) (b : Int × Int), b.1 ≤ (ys.foldl (fun b x => comb b ((mo m (-1) rs (i + 1) (dx L x)).1 + vl r x, (mo m (-1) rs (i + 1) (dx L x)).2)) b).1 ∧
      (∀ x ∈ ys, (mo m (-1) rs (i + 1) (dx L x)).1 + vl r x ≤ (ys.foldl (fun b x => comb b ((mo m (-1) rs (i + 1) (dx L x)).1 + vl r x, (mo m (-1) rs (i + 1) (dx L x)).2)) b).1) ∧
      ((ys.foldl (fun b x => comb b ((mo m (-1) rs (i + 1) (dx L x)).1 + vl r x, (mo m (-1) rs (i + 1) (dx L x)).2)) b).1 = b.1 ∨ ∃ x ∈ ys, (mo m (-1) rs (i + 1) (dx L x)).1 + vl r x = (ys.foldl (fun b x => comb b ((mo m (-1) rs (i + 1) (dx L x)).1 + vl r x, (mo m (-1) rs (i + 1) (dx L x)).2)) b).1) := by
    intro ys
    induction ys with
    | nil => intro b; exact ⟨Int.le_refl _, by simp, .inl rfl⟩
    | cons y ys ih =>
      intro b
      obtain ⟨i1, i2, i3⟩ := ih (comb b ((mo m (-1) rs (i + 1) (dx L y)).1 + vl r y, (mo m (-1) rs (i + 1) (dx L y)).2))
      have hc := comb_ge (b := b) (a := ((mo m (-1) rs (i + 1) (dx L y)).1 + vl r y, (mo m (-1) rs (i + 1) (dx L y)).2))
      dsimp only at hc
      rw [List.foldl_cons]
      refine ⟨by omega, fun x hx => ?_, ?_⟩
      · rcases List.mem_cons.1 hx with rfl | hx
        · omega
        · exact i2 x hx
      · rcases i3 with i3 | ⟨x, hx, i3⟩
        · have : (comb b ((mo m (-1) rs (i + 1) (dx L y)).1 + vl r y, (mo m (-1) rs (i + 1) (dx L y)).2)).1 = b.1 ∨ (comb b ((mo m (-1) rs (i + 1) (dx L y)).1 + vl r y, (mo m (-1) rs (i + 1) (dx L y)).2)).1 = (mo m (-1) rs (i + 1) (dx L y)).1 + vl r y := by
            unfold comb
            split
            · exact .inr rfl
            · split
              · exact .inl rfl
              · exact .inl rfl
          rcases this with e | e
          · exact .inl (by omega)
          · exact .inr ⟨y, by simp, by omega⟩
        · exact .inr ⟨x, by simp [hx], i3⟩
  obtain ⟨_, m2, m3⟩ := main (cand m L true) (-1, 0)
  refine ⟨m2, ?_⟩
  rcases m3 with e | e
  · have h1 := m2 (-1) (by simp [cand])
    have h2 := hg (-1)
    dsimp only at e
    omega
  · exact e
theorem find_flat {α β : Type} {p : β → Bool} {g : α → List β} : ∀ (xs : List α), (xs.flatMap g).find? p = xs.findSome? fun x => (g x).find? p
  | [] => rfl
  | x :: xs => by
    rw [List.flatMap_cons, List.find?_append, find_flat xs, List.findSome?_cons]
    cases (g x).find? p <;> rfl
theorem bst_find {m : Nat} : ∀ (rows : List (List Int)) (i L : Nat), Ok m rows → (ds m (-1) rows.length i L).find? (fun l => decide (wv rows l = (mo m (-1) rows i L).1)) = some (bst m rows i L) := by
  intro rows
  induction rows with
  | nil => intro i L _; rfl
  | cons r rs ih =>
    intro i L h
    have hi : decide ((i : Int) ≠ -1) = true := by simp <;> omega
    have hrs : Ok m rs := fun x hx => h x (by simp [hx])
    obtain ⟨s1, x0, hx0, s2⟩ := mo_step (i := i) (L := L) h
    have part : ∀ x ∈ cand m L true, ((ds m (-1) rs.length (i + 1) (dx L x)).map (x :: ·)).find? (fun l => decide (wv (r :: rs) l = (mo m (-1) (r :: rs) i L).1)) =
        if (mo m (-1) rs (i + 1) (dx L x)).1 + vl r x = (mo m (-1) (r :: rs) i L).1 then some (x :: bst m rs (i + 1) (dx L x)) else none := by
      intro x hx
      rw [List.find?_map]
      have hle := s1 x hx
      by_cases he : (mo m (-1) rs (i + 1) (dx L x)).1 + vl r x = (mo m (-1) (r :: rs) i L).1
      · rw [if_pos he, ← he]
        have e : ((fun l => decide (wv (r :: rs) l = (mo m (-1) rs (i + 1) (dx L x)).1 + vl r x)) ∘ (x :: ·)) = fun l => decide (wv rs l = (mo m (-1) rs (i + 1) (dx L x)).1) := by
          funext l
          show decide (vl r x + wv rs l = _) = _
          exact decide_eq_decide.2 ⟨fun h => by omega, fun h => by omega⟩
        rw [e, ih (i + 1) (dx L x) hrs]
        rfl
      · rw [if_neg he]
        rw [List.find?_eq_none.2]
        · rfl
        · intro t ht
          have emo := mo_ds (-1) rs (i + 1) (dx L x) hrs
          obtain ⟨q1, _⟩ := mxc_max ((ds m (-1) rs.length (i + 1) (dx L x)).map (wv rs)) (fun w hw => by obtain ⟨t, _, rfl⟩ := List.mem_map.1 hw; exact wv_nn rs t hrs)
          have := q1 (wv rs t) (List.mem_map.2 ⟨t, ht, rfl⟩)
          rw [← emo] at this
          show ¬ decide (vl r x + wv rs t = _) = true
          simp
          omega
    have main : ∀ ys : List Int, (∀ y ∈ ys, y ∈ cand m L true) → (∃ y ∈ ys, (mo m (-1) rs (i + 1) (dx L y)).1 + vl r y = (mo m (-1) (r :: rs) i L).1) →
        (ys.findSome? fun x => ((ds m (-1) rs.length (i + 1) (dx L x)).map (x :: ·)).find? (fun l => decide (wv (r :: rs) l = (mo m (-1) (r :: rs) i L).1))) =
        (match ys.find? (fun x => decide ((mo m (-1) rs (i + 1) (dx L x)).1 + vl r x = (mo m (-1) (r :: rs) i L).1)) with | some x => some (x :: bst m rs (i + 1) (dx L x)) | none => some []) := by
      intro ys
      induction ys with
      | nil => intro _ h; obtain ⟨y, hy, _⟩ := h; cases hy
      | cons y ys ihy =>
        intro h1 h2
        rw [List.findSome?_cons, part y (h1 y (by simp)), List.find?_cons]
        by_cases he : (mo m (-1) rs (i + 1) (dx L y)).1 + vl r y = (mo m (-1) (r :: rs) i L).1
        · rw [if_pos he, decide_eq_true he]
        · rw [if_neg he, decide_eq_false he]
          refine ihy (fun z hz => h1 z (by simp [hz])) ?_
          obtain ⟨z, hz, h3⟩ := h2
          rcases List.mem_cons.1 hz with rfl | hz
          · exact absurd h3 he
          · exact ⟨z, hz, h3⟩
    simp only [List.length_cons, ds, hi]
    rw [find_flat, main _ (fun y hy => hy) ⟨x0, hx0, s2⟩]
    rw [bst]
    cases hf : (cand m L true).find? (fun x => decide ((mo m (-1) rs (i + 1) (dx L x)).1 + vl r x = (mo m (-1) (r :: rs) i L).1)) <;> rfl
end
section
def badW (x : Int) : Bool := !decide (0 ≤ x ∧ x ≤ 99)
def rowE (m : Int) (l : List Int) : Int := if (l.length : Int) ≠ m then 5 else if l.any badW = true then 1 else 0
def rowsE (m : Int) : List (List Int) → Int
  | [] => 0
  | r :: rs => if rowE m r ≠ 0 then rowE m r else rowsE m rs
def ckS (s : List (List Int)) : Int := if s.length = 0 then 4 else if s.length > 5 then 3 else if (s[0]?.getD []).length > 5 then 3 else rowsE (s[0]?.getD []).length s
theorem f70_eq {F : Nat} {a x b : Int} : f70 F a x b = some (decide (a ≤ x ∧ x ≤ b)) := by
  unfold f70
  by_cases h : a ≤ x <;> simp [h]
theorem f102_eq {F : Nat} {x : Int} : f102 F x = some (badW x) := by
  unfold f102 badW; rw [f70_eq, Option.bind_some]
theorem f107_p1_eq {F : Nat} {l : List Int} (hl : l.length ≤ 5000) : ∀ (k i : Nat), i ≤ l.length → l.length < k + i → ((l.drop i).any badW = true ∧ ∃ j : Nat, f107_p1 F l k i = some (.c0 j)) ∨ ((l.drop i).any badW = false ∧ f107_p1 F l k i = some .c1) := by
  intro k
  induction k with
  | zero => intro i _ h; omega
  | succ k ih =>
    intro i h1 h2
    unfold f107_p1
    by_cases hi : i < l.length
    · rw [if_pos (by simp; omega), at_get hi, Option.bind_some, f102_eq, Option.bind_some, drop_cons hi, List.any_cons]
      cases hb : badW l[i]
      · rw [if_neg (by simp), w64_succ (by omega), Bool.false_or]
        exact ih (i + 1) (by omega) (by omega)
      · rw [if_pos rfl]
        exact .inl ⟨by simp, i, rfl⟩
    · rw [if_neg (by simp; omega), List.drop_eq_nil_of_le (by omega)]
      exact .inr ⟨rfl, rfl⟩
theorem f101_eq {F : Nat} {l : List Int} (hl : l.length < F) (hF : F ≤ 5000 ∨ l.length ≤ 5000) : f101 F l = some (l.any badW) := by
  unfold f101 f107
  rcases f107_p1_eq (F := F) (l := l) (by omega) F 0 (by omega) (by omega) with ⟨h1, j, h2⟩ | ⟨h1, h2⟩
  · rw [List.drop_zero] at h1
    rw [show f107_p1 F l F 0 = _ from h2, h1, Option.bind_some, Option.bind_some]; simp
  · rw [List.drop_zero] at h1
    rw [show f107_p1 F l F 0 = _ from h2, h1, Option.bind_some, Option.bind_some]; simp
theorem f76_eq {F m : Nat} (hF : 100 ≤ F) (hm : m ≤ 50) {l : List Int} : f76 F l m = some (rowE m l) := by
  unfold f76 rowE
  by_cases h : (l.length : Int) = m
  · rw [if_neg (by simpa using h), if_neg (by simpa using h), f101_eq (by omega) (by omega), Option.bind_some]
    split <;> rfl
  · rw [if_pos (by simpa using h), if_pos h]
theorem f24_p4_eq {F : Nat} {s : List (List Int)} (hF : 100 ≤ F) (hs : s.length ≤ 5) (h0 : 0 < s.length) (hm : (s[0]?.getD []).length ≤ 5) : ∀ (k i : Nat), i ≤ s.length → s.length < k + i →
    f24_p4 F s k i = some (if rowsE (s[0]?.getD []).length (s.drop i) ≠ 0 then .c0 (rowsE (s[0]?.getD []).length (s.drop i)) else .c1) := by
  have e0 : at? s 0 = some (s[0]?.getD []) := by rw [List.getElem?_eq_getElem h0]; exact at_get h0
  intro k
  induction k with
  | zero => intro i _ h; omega
  | succ k ih =>
    intro i h1 h2
    unfold f24_p4
    by_cases hi : i < s.length
    · rw [if_pos (by simp; omega), at_get hi, Option.bind_some, e0, Option.bind_some, f76_eq hF (by omega), Option.bind_some, drop_cons hi, rowsE]
      by_cases hr : rowE (s[0]?.getD []).length s[i] ≠ 0
      · rw [if_pos (by simpa using hr), if_pos hr, if_pos hr]
      · rw [if_neg (by simpa using hr), if_neg hr, w64_succ (by omega)]
        exact ih (i + 1) (by omega) (by omega)
    · rw [if_neg (by simp; omega), List.drop_eq_nil_of_le (by omega)]
      rfl
theorem f24_eq {F : Nat} (hF : 100 ≤ F) (s : List (List Int)) : f24 F s = some (ckS s) := by
  unfold f24 ckS
  by_cases h1 : s.length = 0
  · rw [if_pos (by simp [h1]), if_pos h1]
  · rw [if_neg (by simp; intro h; simp [h] at h1), if_neg h1]
    by_cases h2 : s.length > 5
    · rw [if_pos (by simp; omega), if_pos h2]
    · have e0 : at? s 0 = some (s[0]?.getD []) := by rw [List.getElem?_eq_getElem (Nat.pos_of_ne_zero h1)]; exact at_get (Nat.pos_of_ne_zero h1)
      rw [if_neg (by simp; omega), if_neg h2, e0, Option.bind_some]
      by_cases h3 : (s[0]?.getD []).length > 5
      · rw [if_pos (by simp; omega), if_pos h3]
      · rw [if_neg (by simp; omega), if_neg h3]
        have e := f24_p4_eq hF (s := s) (by omega) (Nat.pos_of_ne_zero h1) (by omega) F 0 (Nat.zero_le _) (by omega)
        rw [show f24_p4 F s F 0 = _ from e, Option.bind_some, List.drop_zero]
        by_cases hr : rowsE (s[0]?.getD []).length s = 0
        · rw [if_neg (by simpa using hr), hr]
        · rw [if_pos hr]
/-- A valid sale. -/
structure Vs (m : Nat) (s : List (List Int)) : Prop where
  ok : Ok m s
  n : 0 < s.length ∧ s.length ≤ 5
  m5 : m ≤ 5
theorem rowsE_ok {m : Nat} : ∀ (s : List (List Int)), rowsE m s = 0 ↔ Ok m s := by
  intro s
  induction s with
  | nil => exact ⟨fun _ r hr => (by cases hr), fun _ => rfl⟩
  | cons r rs ih =>
    have hr : rowE m r = 0 ↔ r.length = m ∧ ∀ x ∈ r, 0 ≤ x ∧ x ≤ 99 := by
      unfold rowE
      by_cases h1 : (r.length : Int) = m
      · rw [if_neg (by simpa using h1)]
        by_cases h2 : r.any badW = true
        · rw [if_pos h2]
          refine ⟨fun h => (by cases h), fun h => ?_⟩
          obtain ⟨x, hx, hb⟩ := List.any_eq_true.1 h2
          have := h.2 x hx
          simp [badW] at hb
          omega
        · rw [if_neg h2]
          refine ⟨fun _ => ⟨by omega, fun x hx => ?_⟩, fun _ => rfl⟩
          have : badW x = false := by
            cases hb : badW x
            · rfl
            · exact absurd (List.any_eq_true.2 ⟨x, hx, hb⟩) h2
          simp [badW] at this
          exact this
      · rw [if_pos h1]
        exact ⟨fun h => (by cases h), fun h => absurd (by omega) h1⟩
    rw [rowsE]
    by_cases h : rowE m r = 0
    · rw [if_neg (by simpa using h), ih]
      refine ⟨fun k x hx => ?_, fun k x hx => k x (by simp [hx])⟩
      rcases List.mem_cons.1 hx with rfl | hx
      · exact hr.1 h
      · exact k x hx
    · rw [if_pos h]
      exact ⟨fun k => absurd k h, fun k => absurd (hr.2 (k r (by simp))) h⟩
theorem ckS_ok {s : List (List Int)} (h : ckS s = 0) : Vs (s[0]?.getD []).length s := by
  unfold ckS at h
  split at h
  · cases h
  · split at h
    · cases h
    · split at h
      · cases h
      · exact ⟨(rowsE_ok s).1 h, by omega, by omega⟩
theorem Vs.head {m : Nat} {s : List (List Int)} (h : Vs m s) : (s[0]?.getD []).length = m := by
  rw [List.getElem?_eq_getElem h.n.1]
  exact (h.ok _ (List.getElem_mem h.n.1)).1
theorem Vs.ck {m : Nat} {s : List (List Int)} (h : Vs m s) : ckS s = 0 := by
  have := h.n
  have := h.m5
  unfold ckS
  rw [h.head, if_neg (by omega), if_neg (by omega), if_neg (by omega)]
  exact (rowsE_ok s).2 h.ok
theorem Vs.at0 {m : Nat} {s : List (List Int)} (h : Vs m s) : ∃ r, at? s 0 = some r ∧ r.length = m := by
  have h0 := h.n.1
  exact ⟨s[0], at_get h0, (h.ok _ (List.getElem_mem h0)).1⟩
theorem f65_eq {F : Nat} (hF : 100 ≤ F) (s : List (List Int)) : f65 F s = some (if ckS s ≠ 0 then .c0 (ckS s) else .c1 0 [] s ((s[0]?.getD []).length : Nat)) := by
  unfold f65
  rw [f24_eq hF, Option.bind_some]
  by_cases h : ckS s = 0
  · have hv := ckS_ok h
    have e0 : at? s 0 = some (s[0]?.getD []) := by rw [List.getElem?_eq_getElem hv.n.1]; exact at_get hv.n.1
    rw [if_neg (by simp [h]), if_neg (by simpa using h), e0, Option.bind_some]
  · rw [if_pos (by simpa using h), if_pos h]
/-- The first lot with which the rest is worth enough. -/
theorem f66_p5_eq {F m i L : Nat} {s : List (List Int)} (hF : 100 ≤ F) (hv : Vs m s) (hL : L < 32) (hi : i < s.length) : ∀ (k j : Nat) (M : Mm) (out : List Int) (x : Int), m < k + j → j ≤ m → Good m s M → out.length ≤ 100 →
    (lotsF m L true j).find? (fun x => decide ((mo m (-1) (s.drop (i + 1)) (i + 1) (dx L x)).1 + vl s[i] x = (mo m (-1) (s.drop i) i L).1)) = some x →
    ∃ M', f66_p5_2 F i s m k L j M out = some (((dx L x : Nat) : Int), M', out ++ [x]) ∧ Good m s M' ∧ dx L x < 32 := by
  have hm := hv.m5
  have hn := hv.n
  have hr := hv.ok _ (List.getElem_mem hi)
  intro k
  induction k with
  | zero => intro j M out x h _ _ _ _; omega
  | succ k ih =>
    intro j M out x h1 h2 h3 h4 h5
    by_cases hj : j < m
    · obtain ⟨a1, a2, a3, a4⟩ := look_L hL (show j < 5 by omega)
      have e1 : w64 ((j : Int) + 1) = ((j + 1 : Nat) : Int) := w64_succ (by omega)
      rw [lotsF_step hj] at h5
      unfold f66_p5_2
      rw [if_pos (by simp; omega), f71_eq hL (by omega), Option.bind_some, e1]
      dsimp only
      by_cases ht : L.testBit j = true
      · have edx : dx L (j : Int) = dl L j := by unfold dx; rw [if_neg (by omega), Int.toNat_natCast]
        obtain ⟨M1, b1, b2⟩ := f68_eq (but := -1) hF hm hn.2 hv.ok F (i + 1) (dl L j) M (by omega) (by omega) a3 h3
        obtain ⟨M2, c1, c2⟩ := f68_eq (but := -1) hF hm hn.2 hv.ok F i L M1 (by omega) (by omega) hL b2
        have bd := mo_bd (but := -1) hm (s.drop (i + 1)) (i + 1) (dl L j) (fun r hr => hv.ok r (List.mem_of_mem_drop hr))
        have hlen : (s.drop (i + 1)).length ≤ 5 := by simp; omega
        have hvl := vl_bd hr (j : Int)
        rw [ht, if_pos rfl, w64_succ (by omega), b1, Option.bind_some]
        dsimp only
        rw [f72_eq hv.ok hi ⟨by omega, by omega⟩, Option.bind_some, c1, Option.bind_some]
        dsimp only
        rw [w64_in (by omega)]
        rw [ht, Bool.true_and, if_pos rfl, List.find?_cons, edx] at h5
        by_cases he : (mo m (-1) (s.drop (i + 1)) (i + 1) (dl L j)).1 + vl s[i] j = (mo m (-1) (s.drop i) i L).1
        · rw [decide_eq_true he] at h5
          have h5 : (j : Int) = x := by simpa using h5
          subst h5
          rw [if_pos (by simpa using he), req_pos (by simp; omega), edx]
          exact ⟨M2, rfl, c2, a3⟩
        · rw [decide_eq_false he] at h5
          rw [if_neg (by simpa using he)]
          exact ih (j + 1) M2 out x (by omega) (by omega) c2 h4 h5
      · have ht : L.testBit j = false := by simpa using ht
        rw [ht]
        rw [ht, Bool.and_false, if_neg (by simp)] at h5
        simp only [Bool.false_eq_true, if_false]
        exact ih (j + 1) M out x (by omega) (by omega) h3 h4 h5
    · rw [lotsF_end (by omega)] at h5
      cases h5
theorem f66_p5_all {F m i L : Nat} {s : List (List Int)} (hF : 100 ≤ F) (hv : Vs m s) (hL : L < 32) (hi : i < s.length) {M : Mm} {out : List Int} {x : Int} (h3 : Good m s M) (h4 : out.length ≤ 100)
    (h5 : (cand m L true).find? (fun x => decide ((mo m (-1) (s.drop (i + 1)) (i + 1) (dx L x)).1 + vl s[i] x = (mo m (-1) (s.drop i) i L).1)) = some x) :
    ∃ M', f66_p5_2 F i s m F L (-1) M out = some (((dx L x : Nat) : Int), M', out ++ [x]) ∧ Good m s M' ∧ dx L x < 32 := by
  have hm := hv.m5
  have hn := hv.n
  have hr := hv.ok _ (List.getElem_mem hi)
  obtain ⟨F', rfl⟩ : ∃ F', F = F' + 1 := ⟨F - 1, by omega⟩
  obtain ⟨M1, b1, b2⟩ := f68_eq (but := -1) hF hm hn.2 hv.ok (F' + 1) (i + 1) L M (by omega) (by omega) hL h3
  obtain ⟨M2, c1, c2⟩ := f68_eq (but := -1) hF hm hn.2 hv.ok (F' + 1) i L M1 (by omega) (by omega) hL b2
  have bd := mo_bd (but := -1) hm (s.drop (i + 1)) (i + 1) L (fun r hr => hv.ok r (List.mem_of_mem_drop hr))
  have hlen : (s.drop (i + 1)).length ≤ 5 := by simp; omega
  have hvl := vl_bd hr (-1)
  rw [lotsF_zero, List.find?_cons] at h5
  unfold f66_p5_2
  rw [if_pos (by simp; omega), f71_neg, Option.bind_some]
  dsimp only
  rw [if_pos rfl, w64_succ (by omega), b1, Option.bind_some]
  dsimp only
  rw [f72_eq hv.ok hi ⟨by omega, by omega⟩, Option.bind_some, c1, Option.bind_some]
  dsimp only
  rw [w64_in (by omega)]
  rw [show dx L (-1) = L from rfl] at h5
  by_cases he : (mo m (-1) (s.drop (i + 1)) (i + 1) L).1 + vl s[i] (-1) = (mo m (-1) (s.drop i) i L).1
  · rw [decide_eq_true he] at h5
    have h5 : (-1 : Int) = x := by simpa using h5
    subst h5
    rw [if_pos (by simpa using he), req_pos (by simp; omega)]
    exact ⟨M2, rfl, c2, hL⟩
  · rw [decide_eq_false he] at h5
    rw [if_neg (by simpa using he), show w64 ((-1 : Int) + 1) = ((0 : Nat) : Int) by decide]
    exact f66_p5_eq hF hv hL hi F' 0 M2 out x (by omega) (by omega) c2 h4 h5
theorem cand_find {m : Nat} {r : List Int} {rs : List (List Int)} {i L : Nat} (h : Ok m (r :: rs)) : ∃ x, (cand m L true).find? (fun x => decide ((mo m (-1) rs (i + 1) (dx L x)).1 + vl r x = (mo m (-1) (r :: rs) i L).1)) = some x ∧ bst m (r :: rs) i L = x :: bst m rs (i + 1) (dx L x) := by
  obtain ⟨_, x, hx, he⟩ := mo_step (i := i) (L := L) h
  cases hf : (cand m L true).find? (fun x => decide ((mo m (-1) rs (i + 1) (dx L x)).1 + vl r x = (mo m (-1) (r :: rs) i L).1)) with
  | some y => exact ⟨y, rfl, by rw [bst, hf]⟩
  | none =>
    have := List.find?_eq_none.1 hf x hx
    simp [he] at this
theorem f66_p1_eq {F m : Nat} {s : List (List Int)} (hF : 100 ≤ F) (hv : Vs m s) : ∀ (k i L : Nat) (M : Mm) (out : List Int), i ≤ s.length → s.length < k + i → L < 32 → Good m s M → out.length = i →
    ∃ M', f66_p1 F s m k L i M out = some (M', out ++ bst m (s.drop i) i L) ∧ Good m s M' := by
  have hn := hv.n
  intro k
  induction k with
  | zero => intro i L M out _ h; omega
  | succ k ih =>
    intro i L M out h1 h2 h3 h4 h5
    unfold f66_p1
    by_cases hi : i < s.length
    · have hd : s.drop i = s[i] :: s.drop (i + 1) := drop_cons hi
      have hok : Ok m (s[i] :: s.drop (i + 1)) := by rw [← hd]; exact fun r hr => hv.ok r (List.mem_of_mem_drop hr)
      obtain ⟨x, x1, x2⟩ := cand_find (i := i) (L := L) hok
      rw [← hd] at x1 x2
      obtain ⟨M1, e1, e2, e3⟩ := f66_p5_all hF hv h3 hi (out := out) h4 (by omega) x1
      obtain ⟨M2, g1, g2⟩ := ih (i + 1) (dx L x) M1 (out ++ [x]) (by omega) (by omega) e3 e2 (by simp; omega)
      rw [if_pos (by simp; omega), e1, Option.bind_some]
      dsimp only
      rw [w64_succ (by omega), g1, x2]
      exact ⟨M2, by simp, g2⟩
    · rw [if_neg (by simp; omega), List.drop_eq_nil_of_le (by omega)]
      exact ⟨M, by simp [bst], h4⟩
/-- The best division of a valid sale. -/
def bestD (m : Nat) (s : List (List Int)) : List Int := bst m s 0 (all_ m)
theorem f66_eq {F m : Nat} {s : List (List Int)} (hF : 100 ≤ F) (hv : Vs m s) {M : Mm} (hM : Good m s M) : ∃ M', f66 F M s m = some (bestD m s, M') ∧ Good m s M' := by
  obtain ⟨a1, a2⟩ := f69_eq (F := F) (M := M) (s := s) hv.m5
  obtain ⟨M', e1, e2⟩ := f66_p1_eq hF hv F 0 (all_ m) M [] (by omega) (by have := hv.n; omega) a2 hM rfl
  unfold f66
  rw [a1, Option.bind_some, show f66_p1 F s m F (all_ m : Nat) 0 M [] = _ from e1, Option.bind_some, List.nil_append, List.drop_zero]
  dsimp only
  rw [take0]
  exact ⟨M', rfl, e2⟩
end
section
theorem f23_p2_eq {F : Nat} {a b : List Int} (hab : a.length = b.length) (ha : a.length ≤ 5000) : ∀ (k i : Nat), i ≤ a.length → a.length < k + i → f23_p2 F a b k i = some (if a.drop i = b.drop i then .c1 else .c0) := by
  intro k
  induction k with
  | zero => intro i _ h; omega
  | succ k ih =>
    intro i h1 h2
    unfold f23_p2
    by_cases hi : i < a.length
    · rw [if_pos (by simp; omega), at_of (List.getElem?_eq_getElem hi), at_of (List.getElem?_eq_getElem (by omega : i < b.length)), Option.bind_some, Option.bind_some]
      have e : (List.drop i a = List.drop i b) = (a[i] = b[i] ∧ List.drop (i + 1) a = List.drop (i + 1) b) := by rw [drop_cons hi, drop_cons (by omega : i < b.length), List.cons.injEq]
      simp only [e]
      by_cases he : a[i] = b[i]
      · rw [if_neg (by simp [he]), w64_succ (by omega), ih (i + 1) (by omega) (by omega)]
        simp only [he, true_and]
      · rw [if_pos (by simp [he]), if_neg (fun h => he h.1)]
    · rw [if_neg (by simp; omega), List.drop_eq_nil_of_le (by omega), List.drop_eq_nil_of_le (by omega)]
      rfl
theorem f23_eq {F : Nat} {a b : List Int} (ha : a.length < F) (h5 : a.length ≤ 5000) : f23 F a b = some (decide (a = b)) := by
  unfold f23
  by_cases hab : a.length = b.length
  · have h := f23_p2_eq (F := F) hab (by omega) F 0 (by omega) (by omega)
    rw [List.drop_zero, List.drop_zero] at h
    rw [if_neg (by simp [hab]), show f23_p2 F a b F 0 = _ from h, Option.bind_some]
    by_cases he : a = b
    · rw [if_pos he, decide_eq_true he]
    · rw [if_neg he, decide_eq_false he]
  · rw [if_pos (by simp; omega), decide_eq_false (fun h => hab (by rw [h]))]
/-- The worth of a division to all bidders but one. -/
def wB (but : Int) : Nat → List (List Int) → List Int → Int
  | i, r :: rs, x :: xs => (if (i : Int) = but then 0 else vl r x) + wB but (i + 1) rs xs
  | _, _, _ => 0
theorem wB_wv : ∀ (rows : List (List Int)) (l : List Int) (i : Nat), wB (-1) i rows l = wv rows l
  | r :: rs, x :: xs, i => by rw [wB, wv, wB_wv rs xs (i + 1), if_neg (by omega)]
  | [], _, _ => by rw [wB, wv] <;> simp
  | _ :: _, [], _ => by rw [wB, wv] <;> simp
theorem wB_bd {m : Nat} {but : Int} : ∀ (rows : List (List Int)) (l : List Int) (i : Nat), Ok m rows → 0 ≤ wB but i rows l ∧ wB but i rows l ≤ 99 * rows.length
  | r :: rs, x :: xs, i, h => by
    have := vl_bd (h r (by simp)) x
    have := wB_bd (but := but) rs xs (i + 1) (fun y hy => h y (by simp [hy]))
    rw [wB, List.length_cons]
    split <;> omega
  | [], _, _, _ => by rw [wB] <;> simp
  | _ :: _, [], _, _ => by rw [wB] <;> simp; omega
/-- Lots that a list has not. -/
def Avail (m L : Nat) (l : List Int) : Prop := L < 32 ∧ ∀ j : Nat, j < m → L.testBit j = !decide ((j : Int) ∈ l)
theorem Avail.all {m : Nat} (hm : m ≤ 5) : Avail m (all_ m) [] := ⟨(f69_eq (F := 0) (M := []) (s := []) hm).2, fun j hj => by rw [all_bit]; simp [hj]⟩
theorem mem_lotsF {m L : Nat} {x : Int} : ∀ j : Nat, x ∈ lotsF m L true j → ∃ l : Nat, x = l ∧ l < m ∧ L.testBit l = true := by
  intro j h
  unfold lotsF at h
  simp only [if_true, List.mem_map, List.mem_filter] at h
  obtain ⟨l, ⟨h1, h2⟩, rfl⟩ := h
  exact ⟨l, rfl, by simpa using List.mem_of_mem_drop h1, h2⟩
theorem mem_cand {m L : Nat} {x : Int} (h : x ∈ cand m L true) : x = -1 ∨ ∃ l : Nat, x = l ∧ l < m ∧ L.testBit l = true := by
  rw [lotsF_zero] at h
  rcases List.mem_cons.1 h with h | h
  · exact .inl h
  · exact .inr (mem_lotsF 0 h)
theorem Avail.next {m L : Nat} {l : List Int} (hm : m ≤ 5) (h : Avail m L l) {x : Int} (hx : x ∈ cand m L true) : Avail m (dx L x) (l ++ [x]) := by
  rcases mem_cand hx with rfl | ⟨y, rfl, h1, h2⟩
  · refine ⟨h.1, fun j hj => ?_⟩
    rw [show dx L (-1) = L from rfl, h.2 j hj]
    congr 1
    refine decide_eq_decide.2 ⟨fun h => List.mem_append_left _ h, fun h => ?_⟩
    rcases List.mem_append.1 h with h | h
    · exact h
    · simp at h
  · obtain ⟨_, _, a3, a4⟩ := look_L h.1 (show y < 5 by omega)
    have edx : dx L (y : Int) = dl L y := by unfold dx; rw [if_neg (by omega), Int.toNat_natCast]
    rw [edx]
    refine ⟨a3, fun j hj => ?_⟩
    rw [a4 j (by omega), h.2 j hj]
    by_cases e : j = y
    · subst e; simp
    · have e1 : (j != y) = true := by simpa using e
      rw [e1, Bool.and_true]
      congr 1
      refine decide_eq_decide.2 ⟨fun h => List.mem_append_left _ h, fun h => ?_⟩
      rcases List.mem_append.1 h with h | h
      · exact h
      · simp at h; omega
theorem ds_step {m k i L : Nat} {l : List Int} : (ds m (-1) (k + 1) i L).map (l ++ ·) = (cand m L true).flatMap fun x => (ds m (-1) k (i + 1) (dx L x)).map ((l ++ [x]) ++ ·) := by
  have hi : decide ((i : Int) ≠ -1) = true := by simp <;> omega
  simp only [ds, hi]
  rw [List.map_flatMap]
  congr 1
  funext x
  rw [List.map_map]
  congr 1
  funext t
  simp

/- The greatest worth. -/
theorem ds_len {m : Nat} (hm : m ≤ 5) {but : Int} : ∀ (k i L : Nat), (ds m but k i L).length ≤ 6 ^ k := by
  intro k
  induction k with
  | zero => intro i L; simp [ds]
  | succ k ih =>
    intro i L
    rw [ds]
    have hc := cand_len m L (decide ((i : Int) ≠ but))
    have : ∀ ys : List Int, (ys.flatMap fun x => (ds m but k (i + 1) (dx L x)).map (x :: ·)).length ≤ ys.length * 6 ^ k := by
      intro ys
      induction ys with
      | nil => simp
      | cons y ys ihy =>
        rw [List.flatMap_cons, List.length_append, List.length_map, List.length_cons, Nat.add_mul, Nat.one_mul]
        have := ih (i + 1) (dx L y)
        omega
    refine Nat.le_trans (this _) ?_
    rw [Nat.pow_succ, Nat.mul_comm]
    exact Nat.mul_le_mul_left _ (by omega)
end
section
theorem works10 : f16 10000 = some true := by decide +kernel
theorem ds_range {m : Nat} {but : Int} : ∀ (k i L : Nat) (l : List Int), l ∈ ds m but k i L → l.length = k ∧ ∀ x ∈ l, -1 ≤ x ∧ x < m
  | 0, _, _, l, h => by simp [ds] at h; subst h; exact ⟨rfl, by simp⟩
  | k + 1, i, L, l, h => by
    simp only [ds] at h
    obtain ⟨x, hx, h⟩ := List.mem_flatMap.1 h
    obtain ⟨t, ht, rfl⟩ := List.mem_map.1 h
    obtain ⟨h1, h2⟩ := ds_range k (i + 1) _ t ht
    refine ⟨by simp [h1], fun y hy => ?_⟩
    rcases List.mem_cons.1 hy with rfl | hy
    · unfold cand at hx
      rcases List.mem_cons.1 hx with rfl | hx
      · omega
      · split at hx
        · obtain ⟨j, hj, rfl⟩ := List.mem_map.1 hx
          have := List.mem_range.1 (List.mem_filter.1 hj).1
          omega
        · cases hx
    · exact h2 y hy
theorem best_mem {m : Nat} {s : List (List Int)} (hv : Vs m s) : bestD m s ∈ ds m (-1) s.length 0 (all_ m) ∧ wv s (bestD m s) = (mo m (-1) s 0 (all_ m)).1 := by
  have h := bst_find s 0 (all_ m) hv.ok
  have h2 : decide (wv s (bst m s 0 (all_ m)) = (mo m (-1) s 0 (all_ m)).1) = true := List.find?_some (p := fun l => decide (wv s l = (mo m (-1) s 0 (all_ m)).1)) h
  exact ⟨List.mem_of_find?_eq_some h, of_decide_eq_true h2⟩
end
section
theorem lotsF_mono {m L L' : Nat} (h : ∀ j : Nat, j < m → L'.testBit j = true → L.testBit j = true) {x : Int} : x ∈ cand m L' true → x ∈ cand m L true := by
  intro hx
  rcases mem_cand hx with rfl | ⟨l, rfl, h1, h2⟩
  · simp [cand]
  · unfold cand
    simp only [if_true, List.mem_cons, List.mem_map, List.mem_filter, List.mem_range]
    exact .inr ⟨l, ⟨h1, h l h1 h2⟩, rfl⟩
theorem cand_free {m L : Nat} {x : Int} {b : Bool} (h : x ∈ cand m L b) : x ∈ cand m L true := by
  cases b with
  | true => exact h
  | false => simp [cand] at h; subst h; simp [cand]
theorem dx_lt {m L : Nat} (hm : m ≤ 5) (hL : L < 32) {x : Int} (h : x ∈ cand m L true) : dx L x < 32 := by
  unfold dx
  rcases mem_cand h with rfl | ⟨l, rfl, h1, h2⟩
  · rw [if_pos (by omega)]; exact hL
  · rw [if_neg (by omega), Int.toNat_natCast]; exact (look_L hL (by omega)).2.2.1
theorem dx_sub {m L : Nat} (hm : m ≤ 5) (hL : L < 32) {x : Int} (h : x ∈ cand m L true) {j : Nat} (hj : j < 5) (hb : (dx L x).testBit j = true) : L.testBit j = true := by
  unfold dx at hb
  rcases mem_cand h with rfl | ⟨l, rfl, h1, h2⟩
  · rw [if_pos (by omega)] at hb; exact hb
  · rw [if_neg (by omega), Int.toNat_natCast, (look_L hL (by omega)).2.2.2 j hj] at hb
    cases h3 : L.testBit j
    · rw [h3] at hb; cases hb
    · rfl
theorem dx_mono {m L L' : Nat} (hm : m ≤ 5) (hL : L < 32) (hL' : L' < 32) (h : ∀ j : Nat, j < m → L'.testBit j = true → L.testBit j = true) {x : Int} (hx : x ∈ cand m L' true) : ∀ j : Nat, j < m → (dx L' x).testBit j = true → (dx L x).testBit j = true := by
  intro j hj hb
  unfold dx at hb ⊢
  rcases mem_cand hx with rfl | ⟨l, rfl, h1, h2⟩
  · rw [if_pos (by omega)] at hb ⊢; exact h j hj hb
  · rw [if_neg (by omega), Int.toNat_natCast] at hb ⊢
    rw [(look_L hL' (by omega)).2.2.2 j (by omega)] at hb
    rw [(look_L hL (by omega)).2.2.2 j (by omega)]
    simp only [Bool.and_eq_true] at hb ⊢
    exact ⟨h j hj hb.1, hb.2⟩
theorem ds_mono {m : Nat} {but : Int} (hm : m ≤ 5) : ∀ (k i L L' : Nat) (t : List Int), L < 32 → L' < 32 → (∀ j : Nat, j < m → L'.testBit j = true → L.testBit j = true) → t ∈ ds m but k i L' → t ∈ ds m but k i L
  | 0, _, _, _, t, _, _, _, h => h
  | k + 1, i, L, L', t, h1, h2, h3, h => by
    rw [ds] at h ⊢
    obtain ⟨x, hx, ht⟩ := List.mem_flatMap.1 h
    obtain ⟨u, hu, rfl⟩ := List.mem_map.1 ht
    have hx' := cand_free hx
    have hxL := lotsF_mono h3 hx'
    have hin : x ∈ cand m L (decide ((i : Int) ≠ but)) := by
      by_cases hb : (i : Int) ≠ but
      · rw [decide_eq_true hb]; exact hxL
      · rw [decide_eq_false hb] at hx ⊢; exact hx
    refine List.mem_flatMap.2 ⟨x, hin, List.mem_map.2 ⟨u, ?_, rfl⟩⟩
    exact ds_mono hm k (i + 1) _ _ u (dx_lt hm h1 hxL) (dx_lt hm h2 hx') (dx_mono hm h1 h2 h3 hx') hu
/-- A division without a bidder's lot. -/
theorem ds_but {m : Nat} {but : Int} (hm : m ≤ 5) : ∀ (k i L : Nat) (t : List Int), L < 32 → t ∈ ds m (-1) k i L → ∃ t' ∈ ds m but k i L, ∀ rows : List (List Int), rows.length = k → wv rows t' = wB but i rows t
  | 0, i, L, t, _, h => by
    simp [ds] at h
    subst h
    exact ⟨[], by simp [ds], fun rows h => by rw [List.eq_nil_of_length_eq_zero h]; rfl⟩
  | k + 1, i, L, t, h1, h => by
    rw [ds] at h
    obtain ⟨x, hx, ht⟩ := List.mem_flatMap.1 h
    obtain ⟨u, hu, rfl⟩ := List.mem_map.1 ht
    have hx' := cand_free hx
    obtain ⟨u', a1, a2⟩ := ds_but hm k (i + 1) (dx L x) u (dx_lt hm h1 hx') hu
    by_cases hb : (i : Int) = but
    · refine ⟨-1 :: u', ?_, fun rows hr => ?_⟩
      · rw [ds]
        refine List.mem_flatMap.2 ⟨-1, by simp [cand], List.mem_map.2 ⟨u', ?_, rfl⟩⟩
        exact ds_mono hm k (i + 1) _ _ u' h1 (dx_lt hm h1 hx') (fun j hj hb => dx_sub hm h1 hx' (by omega) hb) a1
      · match rows, hr with
        | r :: rs, hr =>
          rw [wv, wB, if_pos hb, a2 rs (by simpa using hr), show vl r (-1) = 0 from rfl]
    · refine ⟨x :: u', ?_, fun rows hr => ?_⟩
      · rw [ds, decide_eq_true hb]
        exact List.mem_flatMap.2 ⟨x, hx', List.mem_map.2 ⟨u', a1, rfl⟩⟩
      · match rows, hr with
        | r :: rs, hr => rw [wv, wB, if_neg hb, a2 rs (by simpa using hr)]
theorem ds_back {m : Nat} {but : Int} : ∀ (k i L : Nat) (t : List Int), t ∈ ds m but k i L → t ∈ ds m (-1) k i L ∧ ∀ rows : List (List Int), rows.length = k → wB but i rows t = wv rows t
  | 0, i, L, t, h => by
    simp [ds] at h
    subst h
    exact ⟨by simp [ds], fun rows h => by rw [List.eq_nil_of_length_eq_zero h]; rfl⟩
  | k + 1, i, L, t, h => by
    rw [ds] at h
    obtain ⟨x, hx, ht⟩ := List.mem_flatMap.1 h
    obtain ⟨u, hu, rfl⟩ := List.mem_map.1 ht
    have hx' := cand_free hx
    obtain ⟨a1, a2⟩ := ds_back k (i + 1) (dx L x) u hu
    refine ⟨?_, fun rows hr => ?_⟩
    · rw [ds, decide_eq_true (by omega : (i : Int) ≠ -1)]
      exact List.mem_flatMap.2 ⟨x, hx', List.mem_map.2 ⟨u, a1, rfl⟩⟩
    · match rows, hr with
      | r :: rs, hr =>
        rw [wv, wB, a2 rs (by simpa using hr)]
        by_cases hb : (i : Int) = but
        · rw [decide_eq_false (fun h => h hb)] at hx
          simp [cand] at hx
          subst hx
          rw [if_pos hb]; rfl
        · rw [if_neg hb]

/- The greatest worth without a bidder. -/
def W (m : Nat) (s : List (List Int)) (but : Int) : Int := (mo m but s 0 (all_ m)).1
theorem W_top {m : Nat} {s : List (List Int)} (hv : Vs m s) (but : Int) : (∀ t ∈ ds m (-1) s.length 0 (all_ m), wB but 0 s t ≤ W m s but) ∧ (∃ t ∈ ds m (-1) s.length 0 (all_ m), wB but 0 s t = W m s but) := by
  have hL : all_ m < 32 := (f69_eq (F := 0) (M := []) (s := []) hv.m5).2
  have e := mo_ds but s 0 (all_ m) hv.ok
  obtain ⟨q1, q2, _⟩ := mxc_max ((ds m but s.length 0 (all_ m)).map (wv s)) (fun w hw => by obtain ⟨t, _, rfl⟩ := List.mem_map.1 hw; exact wv_nn s t hv.ok)
  rw [← e] at q1 q2
  constructor
  · intro t ht
    obtain ⟨t', h1, h2⟩ := ds_but (but := but) hv.m5 _ _ _ t hL ht
    rw [← h2 s rfl]
    exact q1 _ (List.mem_map.2 ⟨t', h1, rfl⟩)
  · obtain ⟨t, ht, h⟩ := List.mem_map.1 (q2 (by simp [ds_ne]))
    obtain ⟨a1, a2⟩ := ds_back _ _ _ t ht
    exact ⟨t, a1, by rw [a2 s rfl]; exact h⟩
theorem W_bd {m : Nat} {s : List (List Int)} (hv : Vs m s) (but : Int) : 0 ≤ W m s but ∧ W m s but ≤ 500 := by
  obtain ⟨_, t, _, h⟩ := W_top hv but
  have := wB_bd (but := but) s t 0 hv.ok
  have := hv.n
  omega

/- One bidder's part. -/
theorem wB_split {b : Nat} : ∀ (rows : List (List Int)) (l : List Int) (i : Nat), l.length = rows.length → i ≤ b → b < i + rows.length → wB b i rows l + vl (rows[b - i]?.getD []) (l[b - i]?.getD (-1)) = wv rows l
  | [], _, _, _, h1, h2 => by simp at h2; omega
  | _ :: _, [], _, h, _, _ => by simp at h
  | r :: rs, x :: xs, i, h, h1, h2 => by
    have hl : xs.length = rs.length := by simpa using h
    rw [wB, wv]
    by_cases hb : i = b
    · subst hb
      have e : ∀ (rs : List (List Int)) (xs : List Int) (j : Nat), i < j → wB i j rs xs = wv rs xs := by
        intro rs
        induction rs with
        | nil => intro xs j _; cases xs <;> rfl
        | cons r rs ih =>
          intro xs j hj
          cases xs with
          | nil => rfl
          | cons x xs => rw [wB, wv, if_neg (by omega), ih xs (j + 1) (by omega)]
      rw [if_pos rfl, e rs xs (i + 1) (by omega), Nat.sub_self, List.getElem?_cons_zero, List.getElem?_cons_zero, Option.getD_some, Option.getD_some]
      omega
    · have := wB_split (b := b) rs xs (i + 1) hl (by omega) (by simp at h2; omega)
      have e : b - i = (b - (i + 1)) + 1 := by omega
      rw [if_neg (by omega), e, List.getElem?_cons_succ, List.getElem?_cons_succ]
      omega
theorem Vs.set {m b : Nat} {s : List (List Int)} {l : List Int} (hv : Vs m s) (hl : l.length = m ∧ ∀ x ∈ l, 0 ≤ x ∧ x ≤ 99) : Vs m (s.set b l) := by
  refine ⟨fun r hr => ?_, by rw [List.length_set]; exact hv.n, hv.m5⟩
  rcases List.mem_or_eq_of_mem_set hr with h | rfl
  · exact hv.ok r h
  · exact hl

/- The worth of the best division. -/
theorem best_W {m : Nat} {s : List (List Int)} (hv : Vs m s) : wv s (bestD m s) = W m s (-1) := (best_mem hv).2
theorem best_len {m : Nat} {s : List (List Int)} (hv : Vs m s) : (bestD m s).length = s.length ∧ ∀ x ∈ bestD m s, -1 ≤ x ∧ x < m := ds_range _ _ _ _ (best_mem hv).1
/-- What a bidder has of the best division. -/
def lot (m : Nat) (s : List (List Int)) (b : Nat) : Int := (bestD m s)[b]?.getD (-1)
def pay (m : Nat) (s : List (List Int)) (b : Nat) : Int := W m s b - (W m s (-1) - vl (s[b]?.getD []) (lot m s b))
theorem at_best {m b : Nat} {s : List (List Int)} (hv : Vs m s) (hb : b < s.length) : at? (bestD m s) (b : Nat) = some (lot m s b) ∧ -1 ≤ lot m s b ∧ lot m s b < m := by
  obtain ⟨h1, h2⟩ := best_len hv
  have e : lot m s b = (bestD m s)[b]'(by omega) := by unfold lot; rw [List.getElem?_eq_getElem (by omega), Option.getD_some]
  refine ⟨by rw [at_get (by omega), e], ?_⟩
  rw [e]
  exact h2 _ (List.getElem_mem _)
theorem best_wB {m b : Nat} {s : List (List Int)} (hv : Vs m s) (hb : b < s.length) : wB b 0 s (bestD m s) = W m s (-1) - vl (s[b]?.getD []) (lot m s b) := by
  have := wB_split (b := b) s (bestD m s) 0 (best_len hv).1 (by omega) (by omega)
  rw [Nat.sub_zero, best_W hv] at this
  unfold lot
  omega
theorem row_bd {m b : Nat} {s : List (List Int)} (hv : Vs m s) (x : Int) : 0 ≤ vl (s[b]?.getD []) x ∧ vl (s[b]?.getD []) x ≤ 99 := by
  by_cases hb : b < s.length
  · rw [List.getElem?_eq_getElem hb, Option.getD_some]
    exact vl_bd (hv.ok _ (List.getElem_mem hb)) x
  · rw [List.getElem?_eq_none (by omega), Option.getD_none]
    unfold vl
    split <;> simp
theorem pay_bd {m b : Nat} {s : List (List Int)} (hv : Vs m s) (hb : b < s.length) : 0 ≤ pay m s b ∧ pay m s b ≤ vl (s[b]?.getD []) (lot m s b) := by
  unfold pay
  obtain ⟨a1, t, a2, a3⟩ := W_top hv b
  have h1 := a1 _ (best_mem hv).1
  rw [best_wB hv hb] at h1
  have h2 := (W_top hv (-1)).1 t a2
  have h3 := wB_split (b := b) s t 0 (ds_range _ _ _ _ a2).1 (by omega) (by omega)
  have h4 := row_bd (b := b) hv (t[b - 0]?.getD (-1))
  rw [wB_wv] at h2
  rw [Nat.sub_zero] at h3 h4
  omega
theorem f78_eq {F m b : Nat} {s : List (List Int)} {M : Mm} (hF : 100 ≤ F) (hv : Vs m s) (hM : Good m s M) (hb : b < s.length) {x : Int} (hx : -1 ≤ x ∧ x < m) : ∃ M', f78 F b x M s m = some (W m s b - (W m s (-1) - vl (s[b]?.getD []) x), M') ∧ Good m s M' := by
  have hn := hv.n
  obtain ⟨a1, a2⟩ := f69_eq (F := F) (M := M) (s := s) hv.m5
  obtain ⟨M1, e1, g1⟩ := f68_eq (but := -1) hF hv.m5 hn.2 hv.ok F 0 (all_ m) M (by omega) (by omega) a2 hM
  obtain ⟨M2, e2, g2⟩ := f68_eq (but := b) hF hv.m5 hn.2 hv.ok F 0 (all_ m) M1 (by omega) (by omega) a2 g1
  have b1 := W_bd hv (-1)
  have b2 := W_bd hv b
  have b3 := row_bd (b := b) hv x
  rw [List.drop_zero] at e1 e2
  refine ⟨M2, ?_, g2⟩
  unfold f78
  rw [a1, Option.bind_some, show f68 F F 0 (-1) (all_ m : Nat) M s m = _ from e1, Option.bind_some]
  dsimp only
  rw [f72_eq hv.ok hb hx, Option.bind_some, (f69_eq (F := F) (M := M1) (s := s) hv.m5).1, Option.bind_some, show f68 F F 0 b (all_ m : Nat) M1 s m = _ from e2, Option.bind_some]
  dsimp only
  rw [List.getElem?_eq_getElem hb, Option.getD_some] at b3 ⊢
  have c1 : w64 ((mo m (-1) s 0 (all_ m)).1 - vl s[b] x) = W m s (-1) - vl s[b] x := w64_in (n := W m s (-1) - vl s[b] x) (by omega)
  rw [c1]
  have c2 : w64 ((mo m b s 0 (all_ m)).1 - (W m s (-1) - vl s[b] x)) = W m s b - (W m s (-1) - vl s[b] x) := w64_in (n := W m s b - (W m s (-1) - vl s[b] x)) (by omega)
  rw [c2]
theorem f80_eq {F m b : Nat} {s : List (List Int)} {M : Mm} (hF : 100 ≤ F) (hv : Vs m s) (hM : Good m s M) (hb : b < s.length) {x : Int} (hx : -1 ≤ x ∧ x < m) : ∃ M', f80 F b x M s m = some (vl (s[b]?.getD []) x - (W m s b - (W m s (-1) - vl (s[b]?.getD []) x)), M') ∧ Good m s M' := by
  obtain ⟨M', e, g⟩ := f78_eq hF hv hM hb hx
  have b1 := W_bd hv (-1)
  have b2 := W_bd hv b
  have b3 := row_bd (b := b) hv x
  refine ⟨M', ?_, g⟩
  unfold f80
  rw [f72_eq hv.ok hb hx, Option.bind_some, e, Option.bind_some]
  dsimp only
  rw [List.getElem?_eq_getElem hb, Option.getD_some] at b3 ⊢
  rw [w64_in (by omega)]
def paysL (m : Nat) (s : List (List Int)) : List Int := (List.range s.length).map fun b => pay m s b
def gainsL (m : Nat) (s : List (List Int)) : List Int := (List.range s.length).map fun b => vl (s[b]?.getD []) (lot m s b) - pay m s b
theorem range_snoc {α : Type} (f : Nat → α) (n : Nat) : (List.range n).map f ++ [f n] = (List.range (n + 1)).map f := by simp [List.range_succ]
theorem f77_p2_eq {F m : Nat} {s : List (List Int)} (hF : 100 ≤ F) (hv : Vs m s) : ∀ (k i : Nat) (M : Mm), i ≤ s.length → s.length < k + i → Good m s M → f77_p2 F (bestD m s) s m k i M ((List.range i).map fun b => pay m s b) = some (paysL m s) := by
  have hn := hv.n
  have hb := (best_len hv).1
  intro k
  induction k with
  | zero => intro i M _ h; omega
  | succ k ih =>
    intro i M h1 h2 h3
    unfold f77_p2
    by_cases hi : i < s.length
    · obtain ⟨p1, p2⟩ := at_best hv hi
      obtain ⟨M', e, g⟩ := f78_eq hF hv h3 hi p2
      rw [if_pos (by simp; omega), p1, Option.bind_some, e, Option.bind_some]
      dsimp only
      rw [req_pos (by simp; omega), w64_succ (by omega)]
      exact (congrArg (f77_p2 F (bestD m s) s m k _ M') (range_snoc (fun b => pay m s b) i)).trans (ih (i + 1) M' (by omega) (by omega) g)
    · rw [if_neg (by simp; omega)]
      obtain rfl : i = s.length := by omega
      rfl
theorem f77_1_p2_eq {F m : Nat} {s : List (List Int)} (hF : 100 ≤ F) (hv : Vs m s) : ∀ (k i : Nat) (M : Mm), i ≤ s.length → s.length < k + i → Good m s M → f77_1_p2 F (bestD m s) s m k i M ((List.range i).map fun b => vl (s[b]?.getD []) (lot m s b) - pay m s b) = some (gainsL m s) := by
  have hn := hv.n
  have hb := (best_len hv).1
  intro k
  induction k with
  | zero => intro i M _ h; omega
  | succ k ih =>
    intro i M h1 h2 h3
    unfold f77_1_p2
    by_cases hi : i < s.length
    · obtain ⟨p1, p2⟩ := at_best hv hi
      obtain ⟨M', e, g⟩ := f80_eq hF hv h3 hi p2
      rw [if_pos (by simp; omega), p1, Option.bind_some, e, Option.bind_some]
      dsimp only
      rw [req_pos (by simp; omega), w64_succ (by omega)]
      exact (congrArg (f77_1_p2 F (bestD m s) s m k _ M') (range_snoc (fun b => vl (s[b]?.getD []) (lot m s b) - pay m s b) i)).trans (ih (i + 1) M' (by omega) (by omega) g)
    · rw [if_neg (by simp; omega)]
      obtain rfl : i = s.length := by omega
      rfl
theorem f26_eq {F : Nat} (hF : 100 ≤ F) (s : List (List Int)) : f26 F s = some (if ckS s ≠ 0 then ([], ckS s) else (paysL (s[0]?.getD []).length s, 0)) := by
  unfold f26 f77
  rw [f65_eq hF, Option.bind_some]
  by_cases h : ckS s = 0
  · have hv := ckS_ok h
    obtain ⟨M', e1, e2⟩ := f66_eq hF hv (Good.nil _ s)
    rw [if_neg (by simpa using h), if_neg (by simpa using h)]
    dsimp only
    rw [if_neg (by decide), e1, Option.bind_some]
    dsimp only
    have e := f77_p2_eq hF hv F 0 M' (by omega) (by have := hv.n; omega) e2
    rw [show f77_p2 F (bestD _ s) s _ F 0 M' [] = _ from e, Option.bind_some, take0, Option.bind_some]
  · rw [if_pos h, if_pos h]
    dsimp only
    rw [if_pos (by simpa using h)]
    rfl
theorem f28_eq {F : Nat} (hF : 100 ≤ F) (s : List (List Int)) : f28 F s = some (if ckS s ≠ 0 then ([], ckS s) else (gainsL (s[0]?.getD []).length s, 0)) := by
  unfold f28 f77_1
  rw [f65_eq hF, Option.bind_some]
  by_cases h : ckS s = 0
  · have hv := ckS_ok h
    obtain ⟨M', e1, e2⟩ := f66_eq hF hv (Good.nil _ s)
    rw [if_neg (by simpa using h), if_neg (by simpa using h)]
    dsimp only
    rw [if_neg (by decide), e1, Option.bind_some]
    dsimp only
    have e := f77_1_p2_eq hF hv F 0 M' (by omega) (by have := hv.n; omega) e2
    rw [show f77_1_p2 F (bestD _ s) s _ F 0 M' [] = _ from e, Option.bind_some, take0, Option.bind_some]
  · rw [if_pos h, if_pos h]
    dsimp only
    rw [if_pos (by simpa using h)]
    rfl
end
section
theorem f72_1_is : f72_1 = f72 := rfl
theorem f72_2_is : f72_2 = f72 := rfl
theorem f69_2_is : f69_2 = f69 := rfl
theorem f68_1_p3_is {F : Nat} {rec : Int → Int → Int → Mm → (List (List Int)) → Int → Option (Int × Int × Mm)} {x5 : List (List Int)} {x6 x1 x2 x3 : Int} : ∀ (k : Nat) (a : Int) (M : Mm) (b c : Int), f68_1_p3 F rec x5 x6 x1 x2 x3 k a M b c = f68_p3 F rec x5 x6 x1 x2 x3 k a M b c := by
  intro k
  induction k with
  | zero => intro a M b c; rfl
  | succ k ih =>
    intro a M b c
    unfold f68_1_p3 f68_p3
    simp only [ih]
    rfl
theorem f68_1_is {F : Nat} : ∀ k : Nat, f68_1 F k = f68 F k := by
  intro k
  induction k with
  | zero => rfl
  | succ k ih =>
    funext a b c M s m
    unfold f68_1 f68
    rw [ih]
    unfold f68_1_b f68_b
    simp only [f68_1_p3_is]
theorem f78_1_is {F : Nat} : f78_1 F = f78 F := by
  funext a b M s m
  unfold f78_1 f78
  simp only [f68_1_is, f69_2_is, f72_1_is]
theorem f66_2_p5_is {F : Nat} {x : Int} {s : List (List Int)} {m : Int} : ∀ (k : Nat) (a b : Int) (M : Mm) (c : List Int), f66_2_p5_2 F x s m k a b M c = f66_p5_2 F x s m k a b M c := by
  intro k
  induction k with
  | zero => intro a b M c; rfl
  | succ k ih =>
    intro a b M c
    unfold f66_2_p5_2 f66_p5_2
    simp only [ih, f68_1_is, f72_1_is]
theorem f66_2_p1_is {F : Nat} {s : List (List Int)} {m : Int} : ∀ (k : Nat) (a b : Int) (M : Mm) (c : List Int), f66_2_p1 F s m k a b M c = f66_p1 F s m k a b M c := by
  intro k
  induction k with
  | zero => intro a b M c; rfl
  | succ k ih =>
    intro a b M c
    unfold f66_2_p1 f66_p1
    simp only [ih, f66_2_p5_is]
theorem f66_2_is {F : Nat} : f66_2 F = f66 F := by
  funext M s m
  unfold f66_2 f66
  simp only [f66_2_p1_is, f69_2_is]
theorem f65_1_eq {F : Nat} (hF : 100 ≤ F) (s : List (List Int)) : f65_1 F s = some (if ckS s ≠ 0 then .c0 (ckS s) else .c1 0 [] s ((s[0]?.getD []).length : Nat)) := by
  unfold f65_1
  rw [f24_eq hF, Option.bind_some]
  by_cases h : ckS s = 0
  · obtain ⟨r, h1, h2⟩ := (ckS_ok h).at0
    rw [if_neg (by simpa using h), if_neg (by simpa using h), h1, Option.bind_some, h2]
  · rw [if_pos (by simpa using h), if_pos h]
theorem f65_2_eq {F : Nat} (hF : 100 ≤ F) (s : List (List Int)) : f65_2 F s = some (if ckS s ≠ 0 then .c0 (ckS s) else .c1 0 [] s ((s[0]?.getD []).length : Nat)) := by
  unfold f65_2
  rw [f24_eq hF, Option.bind_some]
  by_cases h : ckS s = 0
  · obtain ⟨r, h1, h2⟩ := (ckS_ok h).at0
    rw [if_neg (by simpa using h), if_neg (by simpa using h), h1, Option.bind_some, h2]
  · rw [if_pos (by simpa using h), if_pos h]
theorem rowE_ok {m : Nat} {l : List Int} (h : rowE m l = 0) : l.length = m ∧ ∀ x ∈ l, 0 ≤ x ∧ x ≤ 99 := by
  unfold rowE at h
  by_cases h1 : (l.length : Int) = m
  · rw [if_neg (by simpa using h1)] at h
    refine ⟨by omega, fun x hx => ?_⟩
    by_cases h2 : l.any badW = true
    · rw [if_pos h2] at h; cases h
    · by_cases h3 : 0 ≤ x ∧ x ≤ 99
      · exact h3
      · exact absurd (List.any_eq_true.2 ⟨x, hx, by unfold badW; rw [decide_eq_false h3]; rfl⟩) h2
  · rw [if_pos h1] at h; cases h
theorem rowE_of {m : Nat} {l : List Int} (h : l.length = m ∧ ∀ x ∈ l, 0 ≤ x ∧ x ≤ 99) : rowE m l = 0 := by
  unfold rowE
  rw [if_neg (by simp [h.1]), if_neg]
  intro h2
  obtain ⟨x, hx, hb⟩ := List.any_eq_true.1 h2
  unfold badW at hb
  rw [decide_eq_true (h.2 x hx)] at hb
  cases hb
/-- Lot, price and gain after a lie, or the error. -/
def toldA (s : List (List Int)) (b : Int) (l : List Int) : Int × Int × Int × Int :=
  if ckS s ≠ 0 then (0, 0, 0, ckS s) else if ¬ (0 ≤ b ∧ b ≤ (s.length : Int) - 1) then (0, 0, 0, 2) else if rowE (s[0]?.getD []).length l ≠ 0 then (0, 0, 0, rowE (s[0]?.getD []).length l) else
  (lot (s[0]?.getD []).length (s.set b.toNat l) b.toNat, pay (s[0]?.getD []).length (s.set b.toNat l) b.toNat, vl (s[b.toNat]?.getD []) (lot (s[0]?.getD []).length (s.set b.toNat l) b.toNat) - pay (s[0]?.getD []).length (s.set b.toNat l) b.toNat, 0)
theorem told_ok {F m b : Nat} {s : List (List Int)} {l : List Int} (hF : 100 ≤ F) (hv : Vs m s) (hb : b < s.length) (hl : l.length = m ∧ ∀ x ∈ l, 0 ≤ x ∧ x ≤ 99) : f30 F s b l = some (lot m (s.set b l) b, pay m (s.set b l) b, vl (s[b]?.getD []) (lot m (s.set b l) b) - pay m (s.set b l) b, 0) := by
  have hn := hv.n
  have hc := hv.ck
  have hh := hv.head
  have hv' := hv.set (b := b) hl
  have hb' : b < (s.set b l).length := by rw [List.length_set]; exact hb
  unfold f30 f30_p0 f30_p1
  rw [f65_1_eq hF, Option.bind_some, if_neg (by simpa using hc), hh]
  dsimp only
  have ew : w64 (((s.length : Nat) : Int) - 1) = (s.length : Int) - 1 := w64_in (by omega)
  rw [if_pos (by decide), f70_eq, ew, Option.bind_some, decide_eq_true (by omega : 0 ≤ (b : Int) ∧ (b : Int) ≤ (s.length : Int) - 1), if_pos rfl, Option.bind_some, if_pos (by decide), f76_eq hF (by have := hv.m5; omega), Option.bind_some, Option.bind_some, rowE_of hl, if_neg (by decide)]
  have e52 : f52 F s = some s := by
    unfold f52
    rw [req_pos (by intro h; rw [h] at hn; exact absurd hn.1 (by decide)), req_pos (by simp; omega), List.nil_append]
  have eset : List.drop 0 (List.take (0 + s.length) (s.set (0 + b) l)) = s.set b l := by
    rw [Nat.zero_add, Nat.zero_add, List.drop_zero, List.take_of_length_le (by simp)]
  rw [e52, Option.bind_some, req_pos (by omega), req_pos (by rw [Int.toNat_natCast]; omega), req_pos (by simp), Int.toNat_natCast, eset, f65_2_eq hF, Option.bind_some, if_neg (by simpa using hv'.ck), hv'.head]
  dsimp only
  obtain ⟨M1, e1, g1⟩ := f66_eq hF hv' (Good.nil _ (s.set b l))
  obtain ⟨p1, p2⟩ := at_best hv' hb'
  obtain ⟨M2, e2, g2⟩ := f78_eq hF hv' g1 hb' p2
  rw [f66_2_is, e1, Option.bind_some]
  dsimp only
  rw [p1, Option.bind_some, f78_1_is, e2, Option.bind_some]
  dsimp only
  rw [f72_2_is, f72_eq hv.ok hb p2, Option.bind_some]
  have q1 := pay_bd hv' hb'
  have q2 := row_bd (b := b) hv (lot m (s.set b l) b)
  have q3 := row_bd (b := b) hv' (lot m (s.set b l) b)
  rw [List.getElem?_eq_getElem hb, Option.getD_some] at q2 ⊢
  unfold pay at q1 ⊢
  rw [w64_in (by omega)]
theorem f30_eq {F : Nat} (hF : 100 ≤ F) (s : List (List Int)) (b : Int) (l : List Int) : f30 F s b l = some (toldA s b l) := by
  unfold toldA
  by_cases h : ckS s = 0
  · have hv := ckS_ok h
    have hn := hv.n
    rw [if_neg (by simpa using h)]
    have ew : w64 (((s.length : Nat) : Int) - 1) = (s.length : Int) - 1 := w64_in (by omega)
    by_cases hb : 0 ≤ b ∧ b ≤ (s.length : Int) - 1
    · rw [if_neg (fun h => h hb)]
      obtain ⟨j, rfl⟩ : ∃ j : Nat, b = j := ⟨b.toNat, by omega⟩
      by_cases hr : rowE (s[0]?.getD []).length l = 0
      · rw [if_neg (by simpa using hr), told_ok hF hv (by omega) (rowE_ok hr), Int.toNat_natCast]
      · rw [if_pos hr]
        unfold f30 f30_p0 f30_p1
        rw [f65_1_eq hF, Option.bind_some, if_neg (by simpa using h)]
        dsimp only
        rw [if_pos (by decide), f70_eq, ew, Option.bind_some, decide_eq_true hb, if_pos rfl, Option.bind_some, if_pos (by decide), f76_eq hF (by have := hv.m5; omega), Option.bind_some, Option.bind_some, if_pos (by simpa using hr)]
    · rw [if_pos hb]
      unfold f30 f30_p0 f30_p1
      rw [f65_1_eq hF, Option.bind_some, if_neg (by simpa using h)]
      dsimp only
      rw [if_pos (by decide), f70_eq, ew, Option.bind_some, decide_eq_false hb, if_neg (by decide), Option.bind_some, if_neg (by decide), Option.bind_some, if_pos (by decide)]
  · unfold f30
    rw [f65_1_eq hF, Option.bind_some, if_pos h, if_pos h]
    dsimp only
    rw [if_neg (by simpa using h)]
end
section
theorem f73_eq {F : Nat} {x a b : Int} : f73 F x a b = some (decide (a ≤ x ∧ x ≤ b)) := by
  unfold f73
  by_cases h : a ≤ x <;> simp [h]
theorem f25_p8_eq {F i : Nat} {s : List (List Int)} (hi : i < s.length) (hl : s[i].length ≤ 5000) : ∀ (k j : Nat), j ≤ s[i].length → s[i].length < k + j → f25_p8 F s i k j = some (if (s[i].drop j).any badW = true then .c0 else .c1) := by
  intro k
  induction k with
  | zero => intro j _ h; omega
  | succ k ih =>
    intro j h1 h2
    unfold f25_p8
    rw [at_get hi, Option.bind_some]
    by_cases hj : j < s[i].length
    · rw [if_pos (by simp; omega), at_get hj, Option.bind_some, f73_eq, Option.bind_some, drop_cons hj, List.any_cons]
      cases hb : badW s[i][j]
      · have hb2 : 0 ≤ s[i][j] ∧ s[i][j] ≤ 99 := by simpa [badW] using hb
        rw [decide_eq_true hb2, if_pos rfl, w64_succ (by omega), Bool.false_or]
        exact ih (j + 1) (by omega) (by omega)
      · have hb2 : ¬ (0 ≤ s[i][j] ∧ s[i][j] ≤ 99) := fun h => by simp [badW, h] at hb
        rw [decide_eq_false hb2, if_neg (by decide), Bool.true_or, if_pos rfl]
    · rw [if_neg (by simp; omega), List.drop_eq_nil_of_le (by omega)]
      rfl
theorem f25_p3_eq {F : Nat} {s : List (List Int)} (hF : 100 ≤ F) (hs : s.length ≤ 5) (h0 : 0 < s.length) (hm : (s[0]?.getD []).length ≤ 5) : ∀ (k i : Nat), i ≤ s.length → s.length < k + i →
    f25_p3 F s k i = some (if rowsE (s[0]?.getD []).length (s.drop i) ≠ 0 then .c0 (rowsE (s[0]?.getD []).length (s.drop i)) else .c1) := by
  have e0 : at? s 0 = some (s[0]?.getD []) := by rw [List.getElem?_eq_getElem h0]; exact at_get h0
  intro k
  induction k with
  | zero => intro i _ h; omega
  | succ k ih =>
    intro i h1 h2
    unfold f25_p3
    by_cases hi : i < s.length
    · rw [if_pos (by simp; omega), at_get hi, Option.bind_some, e0, Option.bind_some, drop_cons hi, rowsE]
      by_cases hlen : (s[i].length : Int) = (s[0]?.getD []).length
      · have e8 := f25_p8_eq (F := F) hi (by omega) F 0 (by omega) (by omega)
        rw [List.drop_zero] at e8
        rw [if_neg (by simpa using hlen), show f25_p8 F s i F 0 = _ from e8, Option.bind_some]
        by_cases hb : s[i].any badW = true
        · have er : rowE (s[0]?.getD []).length s[i] = 1 := by unfold rowE; rw [if_neg (by simpa using hlen), if_pos hb]
          rw [if_pos hb, er]; rfl
        · have er : rowE (s[0]?.getD []).length s[i] = 0 := by unfold rowE; rw [if_neg (by simpa using hlen), if_neg hb]
          have e2 : (if (0 : Int) ≠ 0 then (0 : Int) else rowsE (s[0]?.getD []).length (s.drop (i + 1))) = rowsE (s[0]?.getD []).length (s.drop (i + 1)) := if_neg (fun h => h rfl)
          rw [if_neg hb, er, e2, w64_succ (by omega)]
          exact ih (i + 1) (by omega) (by omega)
      · have er : rowE (s[0]?.getD []).length s[i] = 5 := by unfold rowE; rw [if_pos hlen]
        rw [if_pos (by simpa using hlen), er]; rfl
    · rw [if_neg (by simp; omega), List.drop_eq_nil_of_le (by omega)]
      rfl
theorem f25_eq {F : Nat} (hF : 100 ≤ F) (s : List (List Int)) : f25 F s = some (ckS s) := by
  unfold f25 ckS
  by_cases h1 : s.length = 0
  · rw [if_pos (by simp [h1]), if_pos h1]
  · rw [if_neg (by simp; intro h; simp [h] at h1), if_neg h1]
    by_cases h2 : s.length > 5
    · rw [if_pos (by simp; omega), if_pos h2]
    · have e0 : at? s 0 = some (s[0]?.getD []) := by rw [List.getElem?_eq_getElem (Nat.pos_of_ne_zero h1)]; exact at_get (Nat.pos_of_ne_zero h1)
      rw [if_neg (by simp; omega), if_neg h2, e0, Option.bind_some]
      by_cases h3 : (s[0]?.getD []).length > 5
      · rw [if_pos (by simp; omega), if_pos h3]
      · rw [if_neg (by simp; omega), if_neg h3]
        have e := f25_p3_eq hF (s := s) (by omega) (Nat.pos_of_ne_zero h1) (by omega) F 0 (Nat.zero_le _) (by omega)
        rw [show f25_p3 F s F 0 = _ from e, Option.bind_some, List.drop_zero]
        by_cases hr : rowsE (s[0]?.getD []).length s = 0
        · rw [if_neg (by simpa using hr), hr]
        · rw [if_pos hr]
theorem f74_p1_eq {F : Nat} {l : List Int} {x : Int} (hl : l.length ≤ 5000) : ∀ (k i : Nat), i ≤ l.length → l.length < k + i → f74_p1 F l x k i = some (if x ∈ l.drop i then .c0 else .c1) := by
  intro k
  induction k with
  | zero => intro i _ h; omega
  | succ k ih =>
    intro i h1 h2
    unfold f74_p1
    by_cases hi : i < l.length
    · rw [if_pos (by simp; omega), at_get hi, Option.bind_some, drop_cons hi]
      by_cases he : l[i] = x
      · rw [if_pos (by simpa using he), if_pos (by rw [he]; exact List.mem_cons_self ..)]
      · rw [if_neg (by simpa using he), w64_succ (by omega), ih (i + 1) (by omega) (by omega)]
        have : (x ∈ l[i] :: l.drop (i + 1)) = (x ∈ l.drop (i + 1)) := by
          rw [List.mem_cons]; exact propext ⟨fun h => h.resolve_left fun e => he e.symm, .inr⟩
        simp only [this]
    · rw [if_neg (by simp; omega), List.drop_eq_nil_of_le (by omega)]
      simp
theorem f74_eq {F : Nat} {l : List Int} {x : Int} (hl : l.length ≤ 50) (hF : 100 ≤ F) : f74 F l x = some (decide (x ∈ l)) := by
  have e := f74_p1_eq (F := F) (l := l) (x := x) (by omega) F 0 (by omega) (by omega)
  rw [List.drop_zero] at e
  unfold f74
  rw [show f74_p1 F l x F 0 = _ from e, Option.bind_some]
  by_cases h : x ∈ l
  · rw [if_pos h, decide_eq_true h]
  · rw [if_neg h, decide_eq_false h]
theorem f75_p1_eq {F m : Nat} {s : List (List Int)} {l : List Int} (hv : Vs m s) (hl : l.length = s.length) (hx : ∀ x ∈ l, -1 ≤ x ∧ x < m) : ∀ (k i : Nat) (acc : Int), i ≤ l.length → l.length < k + i → 0 ≤ acc → acc ≤ 100 * i →
    f75_p1 F s l k acc i = some (acc + wv (s.drop i) (l.drop i)) := by
  have hn := hv.n
  intro k
  induction k with
  | zero => intro i acc _ h; omega
  | succ k ih =>
    intro i acc h1 h2 h4 h5
    unfold f75_p1
    by_cases hi : i < l.length
    · have his : i < s.length := by omega
      have hxi := hx _ (List.getElem_mem hi)
      have hrow := hv.ok _ (List.getElem_mem his)
      have hvl := vl_bd hrow l[i]
      rw [if_pos (by simp; omega), at_get hi, Option.bind_some, drop_cons hi, drop_cons his, wv, w64_succ (by omega)]
      unfold f75_p4
      by_cases hneg : l[i] ≥ 0
      · obtain ⟨j, hj⟩ : ∃ j : Nat, l[i] = j := ⟨l[i].toNat, by omega⟩
        have hj2 : j < s[i].length := by omega
        have ev : vl s[i] l[i] = s[i][j] := by rw [hj]; unfold vl; rw [if_neg (by omega), Int.toNat_natCast, List.getElem?_eq_getElem hj2]; rfl
        rw [if_pos (by simpa using hneg), at_get his, Option.bind_some, at_get hi, Option.bind_some, hj, at_get hj2, Option.bind_some, Option.bind_some, w64_in (by omega), ih (i + 1) _ (by omega) (by omega) (by omega) (by omega), ← hj, ev, Int.add_assoc]
      · have ev : vl s[i] l[i] = 0 := by unfold vl; rw [if_pos (by omega)]
        rw [if_neg (by simpa using hneg), Option.bind_some, ev, ih (i + 1) acc (by omega) (by omega) h4 (by omega), Int.zero_add]
    · rw [if_neg (by simp; omega), show List.drop i s = [] from List.drop_eq_nil_of_le (by omega)]
      rw [wv] <;> simp
theorem f75_eq {F m : Nat} {s : List (List Int)} {l : List Int} (hF : 100 ≤ F) (hv : Vs m s) (hl : l.length = s.length) (hx : ∀ x ∈ l, -1 ≤ x ∧ x < m) : f75 F s l = some (wv s l) := by
  have hn := hv.n
  have e := f75_p1_eq (F := F) hv hl hx F 0 0 (by omega) (by omega) (by omega) (by omega)
  rw [List.drop_zero, List.drop_zero, Int.zero_add] at e
  unfold f75
  rw [show f75_p1 F s l F 0 0 = _ from e, Option.bind_some]

/- All divisions, as a list. -/
theorem f100_p2_eq {F m L r : Nat} {l : List Int} {B : Int} (hF : 100 ≤ F) (hm : m ≤ 5) (hl : l.length ≤ 20) (ha : Avail m L l) {rec : Int → Int → Int → List Int → Option (List (List Int))} {G : Int → List (List Int)} (hG : ∀ x, (G x).length ≤ 10000)
    (hrec : ∀ x, x ∈ cand m L true → rec B m (-1) (l ++ [x]) = some (G x)) : ∀ (k j : Nat) (acc : List (List Int)), m < k + j → j ≤ m → acc.length ≤ 10000 * (j + 1) → f100_p2 F rec B m (-1) l k j acc = some (acc ++ (lotsF m L true j).flatMap G) := by
  intro k
  induction k with
  | zero => intro j acc h _ _; omega
  | succ k ih =>
    intro j acc h1 h2 h3
    unfold f100_p2
    by_cases hj : j < m
    · rw [if_pos (by simp; omega), if_neg (by simp), if_pos (by simp <;> omega), f74_eq (by omega) hF, Option.bind_some, lotsF_step hj, ha.2 j hj, w64_succ (by omega)]
      unfold f100_p5
      by_cases hc : (j : Int) ∈ l
      · rw [decide_eq_true hc, if_pos rfl, Option.bind_some]
        simp only [Bool.not_true, Bool.and_false, Bool.false_eq_true, if_false]
        exact ih (j + 1) acc (by omega) (by omega) (by omega)
      · have hmem : (j : Int) ∈ cand m L true := by
          rw [lotsF_zero]
          refine List.mem_cons_of_mem _ ?_
          unfold lotsF
          simp only [if_true, List.mem_map, List.mem_filter]
          refine ⟨j, ⟨by simpa using hj, ?_⟩, rfl⟩
          rw [ha.2 j hj, decide_eq_false hc]; rfl
        have hg := hG (j : Int)
        rw [decide_eq_false hc, if_neg (by decide), req_pos (by simp; omega), req_pos (by simp; omega), List.nil_append, take0, hrec _ hmem, Option.bind_some, req_pos (by omega), Option.bind_some]
        simp only [Bool.not_false, Bool.and_true, if_true, List.flatMap_cons]
        rw [ih (j + 1) _ (by omega) (by omega) (by simp; omega), List.append_assoc]
    · rw [if_neg (by simp; omega), lotsF_end (by omega)]
      simp
theorem len_bd {m : Nat} (hm : m ≤ 5) {r i L : Nat} (hr : r ≤ 5) : (ds m (-1) r i L).length ≤ 7776 := Nat.le_trans (ds_len hm (but := -1) r i L) (by
  have := pow5 (k := r) hr
  have h6 : ((6 ^ r : Nat) : Int) ≤ 7776 := by rw [Int.natCast_pow]; exact this
  omega)
theorem f100_eq {F m B : Nat} (hF : 100 ≤ F) (hm : m ≤ 5) (hB : B ≤ 5) : ∀ (r k : Nat) (l : List Int) (L : Nat), l.length + r = B → r < k → Avail m L l → f100 F k B m (-1) l = some ((ds m (-1) r l.length L).map (l ++ ·)) := by
  intro r
  induction r with
  | zero =>
    intro k l L h1 h2 h3
    obtain ⟨k, rfl⟩ : ∃ q, k = q + 1 := ⟨k - 1, by omega⟩
    show f100_b F (f100 F k) B m (-1) l = _
    unfold f100_b
    rw [if_pos (by simp; omega)]
    simp [ds]
  | succ r ih =>
    intro k l L h1 h2 h3
    obtain ⟨k, rfl⟩ : ∃ q, k = q + 1 := ⟨k - 1, by omega⟩
    obtain ⟨F', hF'⟩ : ∃ F', F = F' + 1 := ⟨F - 1, by omega⟩
    show f100_b F (f100 F k) B m (-1) l = _
    unfold f100_b
    rw [if_neg (by simp; omega), ds_step]
    have hrec : ∀ x, x ∈ cand m L true → f100 F k B m (-1) (l ++ [x]) = some ((ds m (-1) r (l.length + 1) (dx L x)).map ((l ++ [x]) ++ ·)) := by
      intro x hx
      have := ih k (l ++ [x]) (dx L x) (by simp; omega) (by omega) (h3.next hm hx)
      rw [this]
      simp
    have hG : ∀ x : Int, ((ds m (-1) r (l.length + 1) (dx L x)).map ((l ++ [x]) ++ ·)).length ≤ 10000 := fun x => by
      rw [List.length_map]
      have := len_bd (i := l.length + 1) (L := dx L x) hm (show r ≤ 5 by omega)
      omega
    have e := f100_p2_eq (B := (B : Int)) (r := r) hF hm (by omega : l.length ≤ 20) h3 hG hrec F' 0
    have h0 : (-1 : Int) ∈ cand m L true := by simp [cand]
    have hg0 := hG (-1)
    subst hF'
    unfold f100_p2
    rw [if_pos (by simp; omega), if_pos (by decide), req_pos (by simp; omega), req_pos (by simp; omega), List.nil_append, take0, hrec _ h0, Option.bind_some, req_pos (by simp at hg0 ⊢; omega), List.nil_append, show w64 ((-1 : Int) + 1) = ((0 : Nat) : Int) by decide, e _ (by omega) (by omega) (by omega), Option.bind_some, take0, lotsF_zero, List.flatMap_cons]
/-- One more division looked at. -/
def sq (s : List (List Int)) (b : List Int × (Int × Int)) (t : List Int) : List Int × (Int × Int) := (if wv s t > b.2.1 then t else b.1, comb b.2 (wv s t, 1))
theorem sq_fold (s : List (List Int)) {m : Nat} (ho : Ok m s) : ∀ (ts : List (List Int)) (b : List Int × (Int × Int)), -1 ≤ b.2.1 → (ts.foldl (sq s) b).2 = comb b.2 (mxc (ts.map (wv s))) ∧
    (ts.foldl (sq s) b).1 = if (comb b.2 (mxc (ts.map (wv s)))).1 > b.2.1 then (ts.find? fun t => decide (wv s t = (comb b.2 (mxc (ts.map (wv s)))).1)).getD b.1 else b.1 := by
  intro ts
  induction ts with
  | nil =>
    intro b hb
    have e : mxc (([] : List (List Int)).map (wv s)) = (-1, 0) := rfl
    rw [e, comb_none hb, if_neg (by omega)]
    exact ⟨rfl, rfl⟩
  | cons t ts ih =>
    intro b hb
    have hw := wv_nn s t ho
    have hts : ∀ w ∈ ts.map (wv s), 0 ≤ w := fun w hw => by obtain ⟨u, _, rfl⟩ := List.mem_map.1 hw; exact wv_nn s u ho
    have hc := comb_ge (b := b.2) (a := (wv s t, 1))
    dsimp only at hc
    obtain ⟨i1, i2⟩ := ih (sq s b t) (by unfold sq; dsimp only; omega)
    have e : comb (sq s b t).2 (mxc (ts.map (wv s))) = comb b.2 (mxc ((t :: ts).map (wv s))) := by
      rw [List.map_cons, mxc_cons hw hts, ← comb_assoc]; rfl
    rw [List.foldl_cons, i1, i2, e]
    refine ⟨rfl, ?_⟩
    have hge := comb_ge (b := (sq s b t).2) (a := mxc (ts.map (wv s)))
    rw [e] at hge
    have hWe : (comb (sq s b t).2 (mxc (ts.map (wv s)))).1 = (comb b.2 (mxc ((t :: ts).map (wv s)))).1 := by rw [e]
    clear e i1 i2
    generalize (comb b.2 (mxc ((t :: ts).map (wv s)))).1 = W at *
    have e2 : (sq s b t).2.1 = if wv s t > b.2.1 then wv s t else b.2.1 := by
      unfold sq comb
      dsimp only
      by_cases h : wv s t > b.2.1
      · rw [if_pos h, if_pos h]
      · rw [if_neg h, if_neg h]; split <;> rfl
    have e1 : (sq s b t).1 = if wv s t > b.2.1 then t else b.1 := rfl
    rw [e1, e2, List.find?_cons]
    rw [e2] at hge
    by_cases h : wv s t > b.2.1
    · simp only [if_pos h] at hge ⊢
      rw [if_pos (by omega : W > b.2.1)]
      by_cases h2 : W > wv s t
      · rw [if_pos h2, decide_eq_false (by omega)]
        cases hf : ts.find? fun t => decide (wv s t = W) with
        | some u => rfl
        | none =>
          exfalso
          obtain ⟨x1, x2, _⟩ := mxc_max (ts.map (wv s)) hts
          have hne : ts.map (wv s) ≠ [] := fun e0 => by
            rw [e0] at hWe
            have : comb (sq s b t).2 (mxc []) = (sq s b t).2 := comb_none (by rw [e2, if_pos h]; omega)
            rw [this, e2, if_pos h] at hWe
            omega
          obtain ⟨u, hu, hu2⟩ := List.mem_map.1 (x2 hne)
          have h3 : (mxc (ts.map (wv s))).1 = W := by
            have : (comb (sq s b t).2 (mxc (ts.map (wv s)))).1 = (sq s b t).2.1 ∨ (comb (sq s b t).2 (mxc (ts.map (wv s)))).1 = (mxc (ts.map (wv s))).1 := by
              unfold comb
              split
              · exact .inr rfl
              · split <;> exact .inl rfl
            rw [hWe, e2, if_pos h] at this
            omega
          have := List.find?_eq_none.1 hf u hu
          simp at this
          omega
      · rw [if_neg h2, decide_eq_true (by omega)]
        rfl
    · simp only [if_neg h] at hge ⊢
      by_cases h2 : W > b.2.1
      · rw [if_pos h2, if_pos h2, decide_eq_false (by omega)]
      · rw [if_neg h2, if_neg h2]
theorem f67_p2_eq {F m : Nat} {s : List (List Int)} (hF : 100 ≤ F) (hv : Vs m s) {ts : List (List Int)} (hts : ∀ t ∈ ts, t.length = s.length ∧ ∀ x ∈ t, -1 ≤ x ∧ x < m) (hl : ts.length ≤ 10000) : ∀ (k i : Nat) (b : List Int × (Int × Int)), i ≤ ts.length → ts.length < k + i → -1 ≤ b.2.1 → 0 ≤ b.2.2 ∧ b.2.2 ≤ i →
    f67_p2 F s ts k b.1 b.2.2 b.2.1 i = some (((ts.drop i).foldl (sq s) b).1, ((ts.drop i).foldl (sq s) b).2.2, ((ts.drop i).foldl (sq s) b).2.1) := by
  intro k
  induction k with
  | zero => intro i b _ h; omega
  | succ k ih =>
    intro i b h1 h2 h3 h4
    unfold f67_p2
    by_cases hi : i < ts.length
    · obtain ⟨t1, t2⟩ := hts _ (List.getElem_mem hi)
      have hw := wv_nn s ts[i] hv.ok
      rw [if_pos (by simp; omega), at_get hi, Option.bind_some, f75_eq hF hv t1 t2, Option.bind_some, drop_cons hi, List.foldl_cons]
      unfold f67_p5_1
      by_cases hgt : wv s ts[i] > b.2.1
      · rw [if_pos (by simpa using hgt), at_get hi, Option.bind_some, Option.bind_some]
        unfold f67_p6_1
        dsimp only
        rw [if_pos (by simp), show w64 ((0 : Int) + 1) = 1 by decide, Option.bind_some, w64_succ (by omega)]
        have e : sq s b ts[i] = (ts[i], (wv s ts[i], 1)) := by unfold sq comb; rw [if_pos hgt, if_pos hgt]
        rw [e]
        exact ih (i + 1) (ts[i], (wv s ts[i], 1)) (by omega) (by omega) (by dsimp only; omega) (by dsimp only; omega)
      · rw [if_neg (by simpa using hgt), Option.bind_some]
        unfold f67_p6_1
        dsimp only
        by_cases heq : wv s ts[i] = b.2.1
        · have e : sq s b ts[i] = (b.1, (b.2.1, b.2.2 + 1)) := by unfold sq comb; rw [if_neg hgt, if_neg hgt, if_pos heq]
          rw [if_pos (by simpa using heq), w64_in (n := b.2.2 + 1) (by omega), Option.bind_some, w64_succ (by omega), e]
          exact ih (i + 1) (b.1, (b.2.1, b.2.2 + 1)) (by omega) (by omega) h3 (by dsimp only; omega)
        · have e : sq s b ts[i] = b := by unfold sq comb; rw [if_neg hgt, if_neg hgt, if_neg heq]
          rw [if_neg (by simpa using heq), Option.bind_some, w64_succ (by omega), e]
          exact ih (i + 1) b (by omega) (by omega) h3 (by omega)
    · rw [if_neg (by simp; omega), List.drop_eq_nil_of_le (by omega)]
      rfl
theorem f67_eq {F m : Nat} {s : List (List Int)} (hF : 10000 ≤ F) (hv : Vs m s) : f67 F s (-1) = some (bestD m s, (mo m (-1) s 0 (all_ m)).2, (mo m (-1) s 0 (all_ m)).1) := by
  obtain ⟨r, h1, h2⟩ := hv.at0
  have hn := hv.n
  have e1 := f100_eq (F := F) (B := s.length) (by omega) hv.m5 hn.2 s.length F [] (all_ m) (by simp) (by omega) (Avail.all hv.m5)
  have hmap : (ds m (-1) s.length ([] : List Int).length (all_ m)).map (([] : List Int) ++ ·) = ds m (-1) s.length 0 (all_ m) := by simp
  rw [hmap] at e1
  have hl := len_bd (i := 0) (L := all_ m) hv.m5 hn.2
  have e2 := f67_p2_eq (F := F) (ts := ds m (-1) s.length 0 (all_ m)) (by omega) hv (fun t ht => ds_range _ _ _ t ht) (by omega) F 0 ([], (-1, 0)) (by omega) (by omega) (by decide) (by decide)
  rw [List.drop_zero] at e2
  obtain ⟨g1, g2⟩ := sq_fold s hv.ok (ds m (-1) s.length 0 (all_ m)) ([], (-1, 0)) (by decide)
  have hmo := mo_ds (-1) s 0 (all_ m) hv.ok
  have hbd := mo_bd (but := -1) hv.m5 s 0 (all_ m) hv.ok
  have ec : comb (-1, 0) (mxc ((ds m (-1) s.length 0 (all_ m)).map (wv s))) = mo m (-1) s 0 (all_ m) := by
    rw [← hmo]
    have := comb_first (w := (mo m (-1) s 0 (all_ m)).1) (c := (mo m (-1) s 0 (all_ m)).2) hbd.1
    exact this
  dsimp only at g1 g2
  rw [ec] at g1 g2
  rw [if_pos (by omega), bst_find s 0 (all_ m) hv.ok] at g2
  rw [g1, g2] at e2
  unfold f67
  rw [if_neg (by simp; intro h; rw [h] at hn; exact absurd hn.1 (by decide)), h1, Option.bind_some, h2, e1, Option.bind_some, show f67_p2 F s _ F [] 0 (-1) 0 = _ from e2, Option.bind_some]
  rfl
end
section
theorem mo_past {m : Nat} {but : Int} : ∀ (rows : List (List Int)) (i j L : Nat), but < i → mo m but rows i L = mo m (-1) rows j L
  | [], _, _, _, _ => rfl
  | r :: rs, i, j, L, h => by
    rw [mo, mo, decide_eq_true (by omega : (i : Int) ≠ but), decide_eq_true (by omega : (j : Int) ≠ -1)]
    congr 1
    funext b x
    rw [mo_past rs (i + 1) (j + 1) (dx L x) (by omega)]
theorem mo_less {m b : Nat} (hm : m ≤ 5) : ∀ (rows : List (List Int)) (i j L : Nat), Ok m rows → i ≤ b → mo m b rows i L = mo m (-1) (rows.eraseIdx (b - i)) j L
  | [], _, _, _, _, _ => rfl
  | r :: rs, i, j, L, ho, h => by
    have ho' : Ok m rs := fun y hy => ho y (by simp [hy])
    by_cases hb : i = b
    · subst hb
      have hbd := mo_bd (but := -1) hm rs j L ho'
      rw [Nat.sub_self, List.eraseIdx_cons_zero, mo, decide_eq_false (fun h => h rfl)]
      have e : cand m L false = [-1] := by simp [cand]
      rw [e, List.foldl_cons, List.foldl_nil, show dx L (-1) = L from rfl, mo_past rs (i + 1) j L (by omega), show vl r (-1) = 0 from rfl, Int.add_zero]
      exact comb_first hbd.1
    · have e : b - i = (b - (i + 1)) + 1 := by omega
      rw [e, List.eraseIdx_cons_succ, mo, mo, decide_eq_true (by omega : (i : Int) ≠ b), decide_eq_true (by omega : (j : Int) ≠ -1)]
      congr 1
      funext c x
      rw [mo_less hm rs (i + 1) (j + 1) (dx L x) ho' (by omega)]
theorem W_less {m b : Nat} {s : List (List Int)} (hv : Vs m s) : W m s b = W m (s.eraseIdx b) (-1) := by
  unfold W
  rw [mo_less hv.m5 s 0 0 (all_ m) hv.ok (by omega), Nat.sub_zero]
theorem others_eq {b : Nat} {s : List (List Int)} : ([] : List (List Int)) ++ List.drop 0 (List.take b s) ++ List.drop (b + 1) (List.take s.length s) = s.eraseIdx b := by
  rw [List.nil_append, List.drop_zero, List.take_length, List.eraseIdx_eq_take_drop_succ]
theorem f67_less {F m b : Nat} {s : List (List Int)} (hF : 10000 ≤ F) (hv : Vs m s) (hb : b < s.length) : ∃ d t, f67 F (s.eraseIdx b) (-1) = some (d, t, W m s b) := by
  rw [W_less hv]
  have hn := hv.n
  have hl : (s.eraseIdx b).length = s.length - 1 := List.length_eraseIdx_of_lt hb
  by_cases h1 : s.length = 1
  · have e : s.eraseIdx b = [] := List.eq_nil_of_length_eq_zero (by omega)
    rw [e]
    refine ⟨[], 1, ?_⟩
    unfold f67
    rw [if_pos (by decide)]
    rfl
  · have hv' : Vs m (s.eraseIdx b) := ⟨fun r hr => hv.ok r (List.mem_of_mem_eraseIdx hr), by omega, hv.m5⟩
    exact ⟨_, _, f67_eq hF hv'⟩
theorem f79_eq {F m b : Nat} {s : List (List Int)} (hF : 10000 ≤ F) (hv : Vs m s) (hb : b < s.length) : f79 F s b = some (pay m s b) := by
  have hn := hv.n
  obtain ⟨d, t, e⟩ := f67_less hF hv hb
  obtain ⟨p1, p2⟩ := at_best hv hb
  have q1 := pay_bd hv hb
  have q2 := row_bd (b := b) hv (lot m s b)
  have w1 := W_bd hv (-1)
  have w2 := W_bd hv b
  have e0 : f79_p0 F s b (bestD m s) (W m s (-1)) (W m s b) (lot m s b) = some (W m s (-1) - vl (s[b]?.getD []) (lot m s b)) := by
    unfold f79_p0
    by_cases hx : lot m s b ≥ 0
    · obtain ⟨j, hj⟩ : ∃ j : Nat, lot m s b = j := ⟨(lot m s b).toNat, by omega⟩
      have hlen := (hv.ok _ (List.getElem_mem hb)).1
      rw [hj] at p1 p2 q2 ⊢
      rw [List.getElem?_eq_getElem hb, Option.getD_some] at q2 ⊢
      have ev : vl s[b] (j : Int) = s[b][j]'(by omega) := by
        unfold vl
        rw [if_neg (by omega), Int.toNat_natCast, List.getElem?_eq_getElem (by omega), Option.getD_some]
      rw [if_pos (by simp), at_get hb, Option.bind_some, p1, Option.bind_some, at_get (by omega), Option.bind_some, ← ev, w64_in (by omega)]
    · rw [if_neg (by simpa using hx)]
      unfold vl
      rw [if_pos (by omega), Int.sub_zero]
  unfold f79
  have e1 : w64 ((b : Int) + 1) = ((b + 1 : Nat) : Int) := w64_succ (by omega)
  rw [e1, Int.toNat_natCast, Int.toNat_natCast, others_eq, req_pos (by omega), req_pos (by simp; omega), req_pos (by omega), req_pos (by simp; omega), take0, f67_eq hF hv, Option.bind_some]
  dsimp only
  rw [e, Option.bind_some]
  dsimp only
  rw [p1, Option.bind_some, show f79_p0 F s b (bestD m s) (mo m (-1) s 0 (all_ m)).1 (W m s b) (lot m s b) = _ from e0, Option.bind_some]
  have ew : w64 (W m s b - (W m s (-1) - vl (s[b]?.getD []) (lot m s b))) = pay m s b := w64_in (n := pay m s b) (by omega)
  rw [ew]
theorem f81_eq {F m b : Nat} {s : List (List Int)} {x p : Int} (hv : Vs m s) (hb : b < s.length) (hx : -1 ≤ x ∧ x < m) (hp : -1000 ≤ p ∧ p ≤ 1000) : f81 F s b x p = some (vl (s[b]?.getD []) x - p) := by
  have q2 := row_bd (b := b) hv x
  unfold f81
  by_cases h : x < 0
  · rw [if_pos (by simpa using h), w64_in (by omega)]
    unfold vl
    rw [if_pos h]
  · obtain ⟨j, rfl⟩ : ∃ j : Nat, x = j := ⟨x.toNat, by omega⟩
    have hlen := (hv.ok _ (List.getElem_mem hb)).1
    rw [List.getElem?_eq_getElem hb, Option.getD_some] at q2 ⊢
    have ev : vl s[b] (j : Int) = s[b][j]'(by omega) := by
      unfold vl
      rw [if_neg (by omega), Int.toNat_natCast, List.getElem?_eq_getElem (by omega), Option.getD_some]
    rw [if_neg (by simp), at_get hb, Option.bind_some, at_get (by omega), Option.bind_some, ← ev, w64_in (by omega)]
theorem f27_p2_eq {F m : Nat} {s : List (List Int)} (hF : 10000 ≤ F) (hv : Vs m s) : ∀ (k i : Nat), i ≤ s.length → s.length < k + i → f27_p2 F s k i ((List.range i).map fun b => pay m s b) = some (paysL m s) := by
  have hn := hv.n
  intro k
  induction k with
  | zero => intro i _ h; omega
  | succ k ih =>
    intro i h1 h2
    unfold f27_p2
    by_cases hi : i < s.length
    · rw [if_pos (by simp; omega), f79_eq hF hv hi, Option.bind_some, req_pos (by simp; omega), w64_succ (by omega)]
      exact (congrArg (f27_p2 F s k _) (range_snoc (fun b => pay m s b) i)).trans (ih (i + 1) (by omega) (by omega))
    · rw [if_neg (by simp; omega)]
      obtain rfl : i = s.length := by omega
      rfl
theorem f29_p2_eq {F m : Nat} {s : List (List Int)} (hF : 10000 ≤ F) (hv : Vs m s) : ∀ (k i : Nat), i ≤ s.length → s.length < k + i → f29_p2 F s (bestD m s) k i ((List.range i).map fun b => vl (s[b]?.getD []) (lot m s b) - pay m s b) = some (gainsL m s) := by
  have hn := hv.n
  intro k
  induction k with
  | zero => intro i _ h; omega
  | succ k ih =>
    intro i h1 h2
    unfold f29_p2
    by_cases hi : i < s.length
    · obtain ⟨p1, p2⟩ := at_best hv hi
      have q1 := pay_bd hv hi
      have q2 := row_bd (b := i) hv (lot m s i)
      rw [if_pos (by simp; omega), p1, Option.bind_some, f79_eq hF hv hi, Option.bind_some, f81_eq hv hi p2 (by omega), Option.bind_some, req_pos (by simp; omega), w64_succ (by omega)]
      exact (congrArg (f29_p2 F s _ k _) (range_snoc (fun b => vl (s[b]?.getD []) (lot m s b) - pay m s b) i)).trans (ih (i + 1) (by omega) (by omega))
    · rw [if_neg (by simp; omega)]
      obtain rfl : i = s.length := by omega
      rfl
theorem f27_eq {F : Nat} (hF : 10000 ≤ F) (s : List (List Int)) : f27 F s = some (if ckS s ≠ 0 then ([], ckS s) else (paysL (s[0]?.getD []).length s, 0)) := by
  unfold f27
  rw [f25_eq (by omega), Option.bind_some]
  by_cases h : ckS s = 0
  · have hv := ckS_ok h
    have e := f27_p2_eq hF hv F 0 (by omega) (by have := hv.n; omega)
    rw [if_neg (by simp [h]), if_neg (by simpa using h), show f27_p2 F s F 0 [] = _ from e, Option.bind_some, take0]
  · rw [if_pos (by simpa using h), if_pos h]
theorem f29_eq {F : Nat} (hF : 10000 ≤ F) (s : List (List Int)) : f29 F s = some (if ckS s ≠ 0 then ([], ckS s) else (gainsL (s[0]?.getD []).length s, 0)) := by
  unfold f29
  rw [f25_eq (by omega), Option.bind_some]
  by_cases h : ckS s = 0
  · have hv := ckS_ok h
    have e := f29_p2_eq hF hv F 0 (by omega) (by have := hv.n; omega)
    rw [if_neg (by simp [h]), if_neg (by simpa using h), f67_eq hF hv, Option.bind_some]
    dsimp only
    rw [show f29_p2 F s (bestD _ s) F 0 [] = _ from e, Option.bind_some, take0]
  · rw [if_pos (by simpa using h), if_pos h]

/- The error of a row. -/
theorem f82_p2_eq {F : Nat} {l : List Int} (hl : l.length ≤ 5000) : ∀ (k i : Nat), i ≤ l.length → l.length < k + i → f82_p2 F l k i = some (if (l.drop i).any badW = true then .c0 else .c1) := by
  intro k
  induction k with
  | zero => intro i _ h; omega
  | succ k ih =>
    intro i h1 h2
    unfold f82_p2
    by_cases hi : i < l.length
    · rw [if_pos (by simp; omega), at_get hi, Option.bind_some, f73_eq, Option.bind_some, drop_cons hi, List.any_cons]
      by_cases hb : (0 ≤ l[i] ∧ l[i] ≤ 99)
      · rw [if_pos (by simpa using hb), w64_succ (by omega), ih (i + 1) (by omega) (by omega)]
        rw [show badW l[i] = false by unfold badW; rw [decide_eq_true hb]; rfl, Bool.false_or]
      · rw [if_neg (by simpa using hb), show badW l[i] = true by unfold badW; rw [decide_eq_false hb]; rfl, Bool.true_or, if_pos rfl]
    · rw [if_neg (by simp; omega), List.drop_eq_nil_of_le (by omega)]
      rfl
theorem f82_eq {F m : Nat} {s : List (List Int)} {l : List Int} (hF : 100 ≤ F) (hv : Vs m s) : f82 F s l = some (rowE m l) := by
  obtain ⟨r, q1, q2⟩ := hv.at0
  have hm := hv.m5
  unfold f82 rowE
  rw [q1, Option.bind_some, q2]
  by_cases h : (l.length : Int) = m
  · rw [if_neg (by simpa using h), if_neg (by simpa using h), show f82_p2 F l F 0 = _ from f82_p2_eq (by omega) F 0 (by omega) (by omega), Option.bind_some, List.drop_zero]
    by_cases hb : l.any badW = true
    · rw [if_pos hb, if_pos hb]
    · rw [if_neg hb, if_neg hb]
  · rw [if_pos (by simpa using h), if_pos h]
theorem f31_eq {F : Nat} (hF : 10000 ≤ F) (s : List (List Int)) (b : Int) (l : List Int) : f31 F s b l = some (toldA s b l) := by
  unfold toldA f31
  rw [f25_eq (by omega), Option.bind_some]
  by_cases h : ckS s = 0
  · have hv := ckS_ok h
    have hn := hv.n
    generalize hmm : (s[0]?.getD []).length = m at *
    have ew : w64 (((s.length : Nat) : Int) - 1) = (s.length : Int) - 1 := w64_in (by omega)
    rw [if_pos (by simp [h]), if_neg (by simpa using h), f73_eq, ew, Option.bind_some, h]
    unfold f31_p0 f31_p1
    by_cases hb : 0 ≤ b ∧ b ≤ (s.length : Int) - 1
    · obtain ⟨j, rfl⟩ : ∃ j : Nat, b = j := ⟨b.toNat, by omega⟩
      rw [decide_eq_true hb, if_pos rfl, Option.bind_some, if_pos (by decide), f82_eq (by omega) hv, Option.bind_some, Option.bind_some]
      have hnn : ¬ ¬ (0 ≤ (j : Int) ∧ (j : Int) ≤ (s.length : Int) - 1) := fun h => h hb
      by_cases hr : rowE m l = 0
      · have hl := rowE_ok hr
        have hv' := hv.set (b := j) hl
        have hj : j < s.length := by omega
        have hj' : j < (s.set j l).length := by rw [List.length_set]; exact hj
        have eset : List.drop 0 (List.take (0 + s.length) (s.set (0 + j) l)) = s.set j l := by
          rw [Nat.zero_add, Nat.zero_add, List.drop_zero, List.take_of_length_le (by simp)]
        obtain ⟨p1, p2⟩ := at_best hv' hj'
        have q1 := pay_bd hv' hj'
        have q3 := row_bd (b := j) hv' (lot m (s.set j l) j)
        rw [if_neg (by simpa using hr), if_neg hnn, if_neg (by simpa using hr), List.nil_append, req_pos (by simp; omega), req_pos (by omega), req_pos (by rw [Int.toNat_natCast]; omega), req_pos (by simp), Int.toNat_natCast, eset, f67_eq hF hv', Option.bind_some]
        dsimp only
        rw [f79_eq hF hv' hj', Option.bind_some, p1, Option.bind_some, f81_eq hv hj p2 (by omega), Option.bind_some]
      · rw [if_pos (by simpa using hr), if_neg hnn, if_pos hr]
    · rw [decide_eq_false hb, if_neg (by decide), Option.bind_some, if_neg (by decide), Option.bind_some, if_pos (by decide), if_pos hb]
  · rw [if_neg (by simpa using h), if_pos h]
end

end Go.Gh.Sale
