/- Packet: shelves by numbers: sizes in order, and stocks. -/
import Derived.Test.YtkjlgbnbpeijbaaPackW
namespace Go.Gh.Pack
set_option linter.unusedVariables false
set_option linter.unusedSimpArgs false

/-- A number is put into numbers in descending order. -/
def ins (x : Int) : List Int → List Int
  | [] => [x]
  | y :: r => if x < y then y :: ins x r else x :: y :: r
theorem ins_len (x : Int) : ∀ r : List Int, (ins x r).length = r.length + 1
  | [] => rfl
  | y :: r => by
    have := ins_len x r
    simp only [ins]
    split <;> simp only [List.length_cons] <;> omega
theorem ins_mem (x z : Int) : ∀ r : List Int, z ∈ ins x r ↔ z = x ∨ z ∈ r
  | [] => by simp [ins]
  | y :: r => by
    have := ins_mem x z r
    simp only [ins]
    split
    · simp only [List.mem_cons, this]
      constructor
      · rintro (h | h | h)
        · exact .inr (.inl h)
        · exact .inl h
        · exact .inr (.inr h)
      · rintro (h | h | h)
        · exact .inr (.inl h)
        · exact .inl h
        · exact .inr (.inr h)
    · simp only [List.mem_cons]
theorem ins_desc {x : Int} : ∀ {r : List Int}, r.Pairwise (· > ·) → x ∉ r → (ins x r).Pairwise (· > ·)
  | [], _, _ => by simp [ins]
  | y :: r, h, hx => by
    rw [List.pairwise_cons] at h
    have hxy : x ≠ y := fun e => hx (by simp [e])
    have hxr : x ∉ r := fun e => hx (by simp [e])
    simp only [ins]
    split
    · rename_i hlt
      rw [List.pairwise_cons]
      refine ⟨fun z hz => ?_, ins_desc h.2 hxr⟩
      rcases (ins_mem x z r).1 hz with rfl | hz
      · exact hlt
      · exact h.1 z hz
    · rename_i hlt
      rw [List.pairwise_cons, List.pairwise_cons]
      refine ⟨fun z hz => ?_, h⟩
      rcases List.mem_cons.1 hz with rfl | hz
      · show x > z; omega
      · have := h.1 z hz
        show x > z
        have : y > z := this
        omega

theorem f99_eq {F : Nat} {x y : Int} : f99 F x y = some (decide (x < y)) := by
  unfold f99 f111
  rw [Option.bind_some, if_neg (by simp)]

theorem f93_p5_eq {F n : Nat} (hn : n ≤ 12) {x4 x18 : Int} : ∀ (r q : List Int) (x : Int) (k : Nat), r.length + 1 + q.length = n → r.length < k →
    f93_p5_1 F 0 n 0 x4 x18 k r.length (r.reverse ++ x :: q) = some ((ins x r).reverse ++ q)
  | [], q, x, k, h1, h2 => by
    obtain ⟨k, rfl⟩ : ∃ m, k = m + 1 := ⟨k - 1, by simp at h2; omega⟩
    unfold f93_p5_1
    rw [if_neg (by simp)]
    rfl
  | y :: r, q, x, k, h1, h2 => by
    simp only [List.length_cons] at h1 h2
    obtain ⟨k, rfl⟩ : ∃ m, k = m + 1 := ⟨k - 1, by omega⟩
    have e1 : ((y :: r).reverse ++ x :: q)[0 + (r.length + 1)]? = some x := by
      rw [Nat.zero_add, List.getElem?_append_right (by simp), List.length_reverse, List.length_cons, Nat.sub_self]; rfl
    have e2 : ((y :: r).reverse ++ x :: q)[0 + r.length]? = some y := by
      rw [Nat.zero_add, List.reverse_cons, List.append_assoc, List.getElem?_append_right (by simp), List.length_reverse, Nat.sub_self]; rfl
    have w1 : w64 (((r.length + 1 : Nat) : Int) - 1) = ((r.length : Nat) : Int) := by rw [w64_in (by omega)]; omega
    have hlen : ((y :: r).reverse ++ x :: q).length = n := by simp; omega
    unfold f93_p5_1
    rw [List.length_cons, if_pos (decide_eq_true (by omega)), req_pos (by omega), Int.toNat_natCast, e1, Option.bind_some, w1, req_pos (by omega), Int.toNat_natCast, e2, Option.bind_some, f99_eq, Option.bind_some]
    by_cases h : x < y
    · rw [if_pos (by simpa using h), req_pos (by rw [hlen]; omega), req_pos (by rw [List.length_set, hlen]; omega)]
      have e3 : (((y :: r).reverse ++ x :: q).set (0 + (r.length + 1)) y).set (0 + r.length) x = r.reverse ++ x :: (y :: q) := by
        rw [Nat.zero_add, Nat.zero_add, List.set_append_right _ _ (by simp), List.length_reverse, List.length_cons, Nat.sub_self, List.set_cons_zero, List.reverse_cons, List.append_assoc, List.set_append_right _ _ (by simp), List.length_reverse, Nat.sub_self]
        rfl
      rw [e3, f93_p5_eq hn r (y :: q) x k (by simp; omega) (by omega), ins, if_pos h]
      simp
    · rw [if_neg (by simpa using h), ins, if_neg h]
      simp

def srt : List Int → List Int → List Int
  | r, [] => r
  | r, x :: q => srt (ins x r) q

theorem f93_p1_eq {F n : Nat} (hF : 20 ≤ F) (hn : n ≤ 12) : ∀ (q r : List Int) (k : Nat), r.length + q.length = n → q.length < k →
    f93_p1 F 0 n 0 n k r.length (r.reverse ++ q) = some (srt r q).reverse
  | [], r, k, h1, h2 => by
    obtain ⟨k, rfl⟩ : ∃ m, k = m + 1 := ⟨k - 1, by simp at h2; omega⟩
    simp only [List.length_nil, Nat.add_zero] at h1
    unfold f93_p1
    rw [if_neg (by simp [h1]), List.append_nil]
    rfl
  | x :: q, r, k, h1, h2 => by
    simp only [List.length_cons] at h1 h2
    obtain ⟨k, rfl⟩ : ∃ m, k = m + 1 := ⟨k - 1, by omega⟩
    unfold f93_p1
    rw [if_pos (by simp; omega), f93_p5_eq hn r q x F (by omega) (by omega), Option.bind_some, w64_succ (by omega)]
    have := f93_p1_eq hF hn q (ins x r) k (by rw [ins_len]; omega) (by omega)
    rw [ins_len] at this
    exact this

theorem f84_look : ((List.range 13).all fun n => (f84 1100 (IntKind.wrap .u64 ((n : Nat) : Int))).isSome) = true := by decide +kernel

theorem f49_eq {l : List Int} (hl : l.length ≤ 12) : f49 1100 l = some (srt [] l).reverse := by
  have h84 := f84_look
  simp only [List.all_eq_true, List.mem_range] at h84
  have h84 := h84 l.length (by omega)
  obtain ⟨v, hv⟩ := Option.isSome_iff_exists.1 h84
  unfold f49
  rw [hv, Option.bind_some]
  have hk : ∀ m F, 20 ≤ F → f83 F (m + 1) 0 l.length 0 l.length v l = some (srt [] l).reverse := by
    intro m F hF
    obtain ⟨G, rfl⟩ : ∃ G, F = G + 1 := ⟨F - 1, by omega⟩
    show f83_b (G + 1) (f83 (G + 1) m) 0 l.length 0 l.length v l = _
    unfold f83_b f83_p1_7
    rw [if_pos (by rw [w64_in (by omega)]; simp; omega)]
    unfold f93
    cases l with
    | nil =>
      have e : f93_p1 (G + 1) 0 0 0 ((0 : Nat) : Int) (G + 1) (w64 (0 + 1)) [] = some [] := by
        unfold f93_p1
        rw [if_neg (by rw [w64_in (by omega)]; simp)]
      show Option.bind (Option.bind (Option.bind (f93_p1 (G + 1) 0 0 0 ((0 : Nat) : Int) (G + 1) (w64 (0 + 1)) []) _) _) _ = _
      rw [e]; rfl
    | cons x q =>
      have e := f93_p1_eq (F := G + 1) (n := (x :: q).length) hF hl q [x] (G + 1) (by simp; omega) (by simp at hl; omega)
      have e' : f93_p1 (G + 1) 0 (x :: q).length 0 ((x :: q).length : Nat) (G + 1) (w64 (0 + 1)) (x :: q) = some (srt [x] q).reverse := by
        rw [show w64 (0 + 1) = ((([x] : List Int).length : Nat) : Int) from by rw [w64_in (by omega)]; rfl]
        exact e
      rw [e']
      rfl
  rw [hk 1099 1100 (by omega), Option.bind_some]

theorem srt_len : ∀ (q r : List Int), (srt r q).length = r.length + q.length
  | [], r => rfl
  | x :: q, r => by rw [srt, srt_len q, ins_len, List.length_cons]; omega
theorem srt_mem (z : Int) : ∀ (q r : List Int), z ∈ srt r q ↔ z ∈ r ∨ z ∈ q
  | [], r => by simp [srt]
  | x :: q, r => by
    rw [srt, srt_mem z q, ins_mem, List.mem_cons]
    constructor
    · rintro ((h | h) | h)
      · exact .inr (.inl h)
      · exact .inl h
      · exact .inr (.inr h)
    · rintro (h | h | h)
      · exact .inl (.inr h)
      · exact .inl (.inl h)
      · exact .inr h
theorem srt_desc : ∀ (q r : List Int), r.Pairwise (· > ·) → q.Nodup → (∀ x ∈ q, x ∉ r) → (srt r q).Pairwise (· > ·)
  | [], r, h, _, _ => h
  | x :: q, r, h, hq, hd => by
    rw [List.nodup_cons] at hq
    refine srt_desc q _ (ins_desc h (hd x (by simp))) hq.2 fun z hz hm => ?_
    rcases (ins_mem x z r).1 hm with rfl | hm
    · exact hq.1 hz
    · exact hd z (by simp [hz]) hm
theorem ckL_asc : ∀ (l : List Int) (p : Int), l.Pairwise (· < ·) → (∀ x ∈ l, 1 ≤ x ∧ x ≤ 30 ∧ p < x) → ckL p l = 0
  | [], _, _, _ => rfl
  | x :: r, p, h, hx => by
    rw [List.pairwise_cons] at h
    have h1 := hx x (by simp)
    rw [ckL, if_pos ⟨h1.1, h1.2.1⟩, if_neg (by omega)]
    exact ckL_asc r x h.2 fun y hy => by
      have := hx y (by simp [hy])
      have := h.1 y hy
      omega

theorem f82_p1_eq {F : Nat} {l : List Int} {x : Int} (hl : l.length ≤ 2000) : ∀ (k i : Nat), i ≤ l.length → l.length < k + i → ∃ z, f82_p1 F l x k i = some z ∧ (x ∈ l.drop i → ∃ j : Int, 0 ≤ j ∧ z = .c0 j) ∧ (x ∉ l.drop i → z = .c1) := by
  intro k
  induction k with
  | zero => intro i _ h; omega
  | succ k ih =>
    intro i h1 h2
    unfold f82_p1
    by_cases hi : i < l.length
    · rw [if_pos (by simp; omega), at_get hi, Option.bind_some, drop_cons hi]
      by_cases h : x = l[i]
      · rw [if_pos (by simp [h])]
        exact ⟨_, rfl, fun _ => ⟨_, by omega, rfl⟩, fun hh => absurd (by rw [h]; exact List.mem_cons_self ..) hh⟩
      · rw [if_neg (by simpa using h), w64_succ (by omega)]
        obtain ⟨z, e1, e2, e3⟩ := ih (i + 1) (by omega) (by omega)
        refine ⟨z, e1, fun hm => e2 ?_, fun hm => e3 fun hh => hm (List.mem_cons_of_mem _ hh)⟩
        rcases List.mem_cons.1 hm with hm | hm
        · exact absurd hm h
        · exact hm
    · rw [if_neg (by simp; omega), List.drop_eq_nil_of_le (by omega)]
      exact ⟨_, rfl, fun h => (by cases h), fun _ => rfl⟩
theorem f48_eq {F : Nat} {l : List Int} {x : Int} (hl : l.length ≤ 1000) (hF : 1100 ≤ F) : f48 F l x = some (decide (x ∈ l)) := by
  obtain ⟨z, e1, e2, e3⟩ := f82_p1_eq (F := F) (l := l) (x := x) (by omega) F 0 (by omega) (by omega)
  rw [List.drop_zero] at e2 e3
  unfold f48 f82
  rw [show f82_p1 F l x F 0 = some z from e1, Option.bind_some]
  by_cases h : x ∈ l
  · obtain ⟨j, hj, rfl⟩ := e2 h
    rw [decide_eq_true h]
    show some (decide (j ≥ 0)) = _
    rw [decide_eq_true (by omega)]
  · rw [e3 h, decide_eq_false h]
    rfl

theorem f44_p1_eq {F : Nat} (hF : 1100 ≤ F) {sz st c : Int} {z t : List Int} (hz : z.length = 4) (hzr : ∀ x ∈ z, 0 ≤ x ∧ x ≤ 255) (hs : 1 ≤ sz ∧ sz ≤ 30) (hc : 0 ≤ c ∧ c ≤ 255) :
    ∀ (k i : Nat) (acc : List Int), (i : Int) ≤ 1 + c % 4 → 1 + c % 4 < k + i → acc.length ≤ i → (0 < i → 0 < acc.length) → acc.Nodup → (∀ x ∈ acc, 1 ≤ x ∧ x ≤ sz) →
    ∃ l, f44_p1 F sz st c z t k i acc = some l ∧ l.length ≤ 4 ∧ 0 < l.length ∧ l.Nodup ∧ (∀ x ∈ l, 1 ≤ x ∧ x ≤ sz) := by
  have ew : w64 (1 + Int.tmod (w64 c) 4) = 1 + c % 4 := by rw [w64_in (n := c) (by omega), Int.tmod_eq_emod_of_nonneg (by omega), w64_in (by omega)]
  intro k
  induction k with
  | zero => intro i acc _ h; omega
  | succ k ih =>
    intro i acc h1 h2 h3 h4 h5 h6
    unfold f44_p1
    rw [ew]
    by_cases hi : (i : Int) < 1 + c % 4
    · have hi4 : i < z.length := by omega
      have hx := hzr _ (List.getElem_mem hi4)
      have e : w64 (1 + Int.tmod (w64 z[i]) sz) = 1 + z[i] % sz := by
        have := Int.emod_nonneg z[i] (b := sz) (by omega)
        have := Int.emod_lt_of_pos z[i] (b := sz) (by omega)
        rw [w64_in (n := z[i]) (by omega), Int.tmod_eq_emod_of_nonneg (by omega), w64_in (by omega)]
      rw [if_pos (by simpa using hi), req_pos (by omega), Int.toNat_natCast, Nat.mul_one, Nat.zero_add, List.getElem?_eq_getElem hi4, Option.bind_some, req_pos (by omega), take0, e, f48_eq (by omega) hF, Option.bind_some, w64_succ (by omega)]
      have m1 := Int.emod_nonneg z[i] (b := sz) (by omega)
      have m2 := Int.emod_lt_of_pos z[i] (b := sz) (by omega)
      unfold f44_p4_1
      by_cases hm : 1 + z[i] % sz ∈ acc
      · rw [if_pos (by simpa using hm), Option.bind_some]
        exact ih (i + 1) acc (by omega) (by omega) (by omega) (fun _ => List.length_pos_of_mem hm) h5 h6
      · rw [if_neg (by simpa using hm), e, req_pos (by simp; omega), Option.bind_some]
        refine ih (i + 1) _ (by omega) (by omega) (by simp; omega) (fun _ => by simp) ?_ ?_
        · rw [List.nodup_append]
          refine ⟨h5, by simp, fun a ha b hb => ?_⟩
          rw [List.mem_singleton] at hb
          intro hab
          subst hab; subst hb
          exact hm ha
        · intro x hx
          rcases List.mem_append.1 hx with hx | hx
          · exact h6 x hx
          · rw [List.mem_singleton] at hx
            omega
    · rw [if_neg (by simpa using hi)]
      exact ⟨acc, rfl, by omega, h4 (by omega), h5, h6⟩

theorem f44_p6_eq {F : Nat} {st c : Int} {z t l u : List Int} (ht : t.length = 4) (htr : ∀ x ∈ t, 0 ≤ x ∧ x ≤ 255) (hs : 0 ≤ st ∧ st ≤ 40) (hl : l.length ≤ 4) :
    ∀ (k i : Nat) (acc : List Int), i ≤ l.length → l.length < k + i → acc.length = i → (∀ x ∈ acc, 0 ≤ x ∧ x ≤ st) →
    ∃ b, f44_p6 F st l u z t c k i acc = some b ∧ b.length = l.length ∧ (∀ x ∈ b, 0 ≤ x ∧ x ≤ st) := by
  intro k
  induction k with
  | zero => intro i acc _ h; omega
  | succ k ih =>
    intro i acc h1 h2 h3 h4
    unfold f44_p6
    by_cases hi : i < l.length
    · have hi4 : i < t.length := by omega
      have hx := htr _ (List.getElem_mem hi4)
      have m1 := Int.emod_nonneg t[i] (b := st + 1) (by omega)
      have m2 := Int.emod_lt_of_pos t[i] (b := st + 1) (by omega)
      have e : Int.tmod (w64 t[i]) (w64 (st + 1)) = t[i] % (st + 1) := by
        rw [w64_in (n := t[i]) (by omega), w64_in (n := st + 1) (by omega), Int.tmod_eq_emod_of_nonneg (by omega)]
      rw [if_pos (by simp; omega), req_pos (by omega), Int.toNat_natCast, Nat.mul_one, Nat.zero_add, List.getElem?_eq_getElem hi4, Option.bind_some, req_pos (by rw [w64_in (by omega)]; omega), req_pos (by simp; omega), e, w64_succ (by omega)]
      refine ih (i + 1) _ (by omega) (by omega) (by simp; omega) fun x hx => ?_
      rcases List.mem_append.1 hx with hx | hx
      · exact h4 x hx
      · rw [List.mem_singleton] at hx
        omega
    · rw [if_neg (by simp; omega)]
      exact ⟨acc, rfl, by omega, h4⟩

theorem made_eq {sz st c : Int} {z t : List Int} (hz : z.length = 4) (hzr : ∀ x ∈ z, 0 ≤ x ∧ x ≤ 255) (ht : t.length = 4) (htr : ∀ x ∈ t, 0 ≤ x ∧ x ≤ 255) (hs : 1 ≤ sz ∧ sz ≤ 30) (hst : 0 ≤ st ∧ st ≤ 40) (hc : 0 ≤ c ∧ c ≤ 255) :
    ∃ a b, f44 1100 z t c sz st = some (a, b) ∧ stk a b = 0 ∧ a.length ≤ 4 ∧ (∀ x ∈ a, 1 ≤ x ∧ x ≤ sz) ∧ (∀ x ∈ b, 0 ≤ x ∧ x ≤ st) := by
  obtain ⟨l, e1, e2, e3, e4, e5⟩ := f44_p1_eq (F := 1100) (by omega) (st := st) (t := t) hz hzr hs hc 1100 0 [] (by omega) (by omega) (by simp) (by omega) (by simp) (by simp)
  have hm : ∀ x ∈ (srt [] l).reverse, x ∈ l := fun x hx => by
    have := (srt_mem x l []).1 (List.mem_reverse.1 hx)
    rcases this with h | h
    · cases h
    · exact h
  have hlen : (srt [] l).reverse.length = l.length := by rw [List.length_reverse, srt_len]; simp
  obtain ⟨b, g1, g2, g3⟩ := f44_p6_eq (F := 1100) (c := c) (z := z) (u := (srt [] l).reverse) ht htr hst e2 1100 0 [] (by omega) (by omega) rfl (by simp)
  refine ⟨(srt [] l).reverse, b, ?_, ?_, by omega, fun x hx => e5 x (hm x hx), g3⟩
  · unfold f44
    rw [show f44_p1 1100 sz st c z t 1100 0 [] = some l from e1, Option.bind_some, f49_eq (by omega), Option.bind_some, show f44_p6 1100 st l (srt [] l).reverse z t c 1100 0 [] = some b from g1, Option.bind_some, req_pos (by omega), take0, ← hlen, take0]
  · have hasc : (srt [] l).reverse.Pairwise (· < ·) := by
      rw [List.pairwise_reverse]
      exact srt_desc l [] List.Pairwise.nil e4 (by simp)
    have hck : ck (srt [] l).reverse = 0 := by
      unfold ck
      rw [if_neg (by omega), if_neg (by omega)]
      exact ckL_asc _ 0 hasc fun x hx => by have := e5 x (hm x hx); omega
    unfold stk
    rw [if_pos hck, if_pos (by omega), if_pos (stOk_iff.2 fun x hx => by have := g3 x hx; omega)]

end Go.Gh.Pack
