/- The plain law of PacketLess. -/
import Derived.Test.YtkjlgbnbpeijbaaPackB12
namespace Go.Gh.Pack
set_option linter.unusedVariables false
set_option linter.unusedSimpArgs false

theorem f47_2m_eq {F : Nat} {l : List Int} (hl : l.length ≤ 5000) : f47_2m F l = some l := by
  unfold f47_2m
  cases l with
  | nil => rfl
  | cons x r =>
    simp only [nilm, f47_2, Option.isNone_some, Option.getD_some]
    rw [if_neg (by decide), req_pos (by simp at hl ⊢; omega)]
    simp
theorem f55_refl {F : Nat} {R : List Bool} (hR : R.length ≤ 5000) (hF : R.length < F) : f55 F R R = some true := by
  have key : ∀ (k i : Nat), i ≤ R.length → R.length < k + i → f55_p2 F R R k i = some .c1 := by
    intro k
    induction k with
    | zero => intro i _ h; omega
    | succ k ih =>
      intro i h1 h2
      unfold f55_p2
      by_cases hi : i < R.length
      · rw [if_pos (by simp; omega), at_get hi, Option.bind_some, Option.bind_some, if_pos (by simp), w64_succ (by omega)]
        exact ih (i + 1) (by omega) (by omega)
      · rw [if_neg (by simp; omega)]
  unfold f55
  rw [if_neg (by simp), show f55_p2 F R R F 0 = some .c1 from key F 0 (by omega) (by omega)]
  rfl

/-- The sizes that are needed. -/
def fews (z : Nat → Bool) (a : List Int) (n : Nat) : List Int := ((List.range n).filter fun k => !z k).map fun k => nt a k
theorem fews_succ (z : Nat → Bool) (a : List Int) (n : Nat) : fews z a (n + 1) = fews z a n ++ if z n then [] else [nt a n] := by
  unfold fews
  rw [List.range_succ, List.filter_append, List.map_append]
  cases h : z n <;> simp [h]
theorem fews_len (z : Nat → Bool) (a : List Int) (n : Nat) : (fews z a n).length ≤ n := by
  unfold fews
  rw [List.length_map]
  exact Nat.le_trans (List.length_filter_le _ _) (by simp)
theorem fews_mem {z : Nat → Bool} {a : List Int} {n : Nat} {x : Int} : x ∈ fews z a n ↔ ∃ k, k < n ∧ z k = false ∧ nt a k = x := by
  unfold fews
  rw [List.mem_map]
  constructor
  · rintro ⟨k, h1, h2⟩
    obtain ⟨h3, h4⟩ := List.mem_filter.1 h1
    exact ⟨k, List.mem_range.1 h3, by simpa using h4, h2⟩
  · rintro ⟨k, h1, h2, h3⟩
    exact ⟨k, List.mem_filter.2 ⟨List.mem_range.2 h1, by simp [h2]⟩, h3⟩
theorem Md.sum {a : List Int} {m n : Nat} (h : Md a m) (k : Md a n) : Md a (m + n) := by
  induction k with
  | zero => exact h
  | add hs _ ih => rw [← Nat.add_assoc]; exact .add hs ih
theorem Md.sub {a c : List Int} (h : ∀ s ∈ a, Md c s.toNat) {n : Nat} (k : Md a n) : Md c n := by
  induction k with
  | zero => exact .zero
  | add hs _ ih => exact ih.sum (h _ hs)
theorem Md.one {a : List Int} {s : Int} (h : s ∈ a) : Md a s.toNat := by
  have := Md.add h .zero
  rwa [Nat.zero_add] at this
theorem fews_md {a : List Int} {z : Nat → Bool} (hz : ∀ k, z k = true ↔ Md (a.take k) (nt a k).toNat) (n : Nat) : Md (fews z a a.length) n ↔ Md a n := by
  constructor
  · refine fun h => h.mono fun x hx => ?_
    obtain ⟨k, k1, _, k3⟩ := fews_mem.1 hx
    rw [nt_get k1] at k3
    rw [← k3]; exact List.getElem_mem k1
  · have hall : ∀ k, k < a.length → Md (fews z a a.length) (nt a k).toNat := by
      intro k
      induction k using Nat.strongRecOn with
      | ind k ih =>
        intro hk
        cases h : z k with
        | false => exact Md.one (fews_mem.2 ⟨k, hk, h, rfl⟩)
        | true =>
          refine ((hz k).1 h).sub fun s hs => ?_
          obtain ⟨j, hj, e⟩ := List.mem_iff_getElem.1 hs
          rw [List.length_take] at hj
          rw [List.getElem_take] at e
          have := ih j (by omega) (by omega)
          rwa [nt_get (by omega), e] at this
    refine fun h => h.sub fun s hs => ?_
    obtain ⟨j, hj, e⟩ := List.mem_iff_getElem.1 hs
    have := hall j hj
    rwa [nt_get hj, e] at this

theorem f12_p2_eq {a x6 : List Int} (hck : ck a = 0) {z : Nat → Bool} (hz : ∀ k, z k = true ↔ Md (a.take k) (nt a k).toNat) : ∀ (k i : Nat), i ≤ a.length → a.length < k + i → f12_p2 2100 a x6 k i (need z i) (fews z a i) = some (need z a.length, fews z a a.length) := by
  obtain ⟨c1, c2, c3⟩ := ck_zero hck
  have ha := ck_all hck
  have hpw := (ckL_pair a 0 c3).1
  intro k
  induction k with
  | zero => intro i _ h; omega
  | succ k ih =>
    intro i h1 h2
    have hnl := need_len z i
    have hfl := fews_len z a i
    unfold f12_p2
    by_cases hi : i < a.length
    · have hs := ha _ (List.getElem_mem hi)
      have hnx := ih (i + 1) (by omega) (by omega)
      rw [need_succ, fews_succ] at hnx
      have hzi := hz i
      rw [nt_get hi] at hzi hnx
      obtain ⟨s, es⟩ : ∃ s : Nat, a[i] = s := ⟨a[i].toNat, by omega⟩
      rw [es] at hzi hnx
      rw [Int.toNat_natCast] at hzi
      have hrest : ∀ x ∈ a.take i ++ a.drop (i + 1), 1 ≤ x ∧ x ≤ 30 := fun x hx => by
        rcases List.mem_append.1 hx with h | h
        · exact ha x (List.mem_of_mem_take h)
        · exact ha x (List.mem_of_mem_drop h)
      have hrl : (a.take i ++ a.drop (i + 1)).length ≤ 5 := by rw [List.length_append, List.length_take, List.length_drop]; omega
      obtain ⟨R, e1, hRc⟩ := f54_1_eq (F := 2100) (N := s) hrest hrl (by omega) (by omega) (by omega)
      have e2 : List.drop 0 (List.take (Int.toNat (i : Int)) a) = a.take i := by rw [Int.toNat_natCast, List.drop_zero]
      have e3 : List.drop (Int.toNat ((i + 1 : Nat) : Int)) (List.take (List.length a) a) = a.drop (i + 1) := by rw [Int.toNat_natCast, List.take_length]
      obtain ⟨v, g1, g2⟩ := bget (R := R) (y := s) (by rw [hRc.len]; omega)
      rw [if_pos (by simp; omega), at_get hi, Option.bind_some, es, req_pos (by omega), e2, f47_2m_eq (by rw [List.length_take]; omega), Option.bind_some, w64_succ (by omega), e3, req_pos (by omega), req_pos (by rw [← List.length_append]; omega), take0, e1, Option.bind_some]
      dsimp only
      rw [rq (by omega), Nat.zero_add, Int.toNat_natCast, g1, Option.bind_some]
      have hvz : v = z i := by
        rw [Bool.eq_iff_iff, g2, hRc.is s (Nat.le_refl _), hzi]
        exact ⟨fun h => h.rest hpw (fun x hx => (ha x hx).1) hi (by omega), fun h => h.mono fun x hx => by simp [hx]⟩
      unfold f12_p5_2
      rw [hvz]
      cases h : z i with
      | true =>
        rw [h] at hnx
        rw [if_pos rfl, Option.bind_some]
        simpa using hnx
      | false =>
        rw [h] at hnx
        rw [if_neg (by decide), req_pos (by simp; omega), req_pos (by simp; omega), Option.bind_some]
        exact hnx
    · have : i = a.length := by omega
      subst this
      rw [if_neg (by simp)]

theorem fews_ck {a : List Int} (hck : ck a = 0) {z : Nat → Bool} (hz : ∀ k, z k = true ↔ Md (a.take k) (nt a k).toNat) : ck (fews z a a.length) = 0 ∧ 0 < (need z a.length).length := by
  obtain ⟨c1, c2, c3⟩ := ck_zero hck
  have ha := ck_all hck
  have hpw := (ckL_pair a 0 c3).1
  have hz0 : z 0 = false := by
    cases h : z 0 with
    | false => rfl
    | true =>
      have hm := (hz 0).1 h
      have h0 := ha _ (List.getElem_mem c1)
      rw [List.take_zero, nt_get c1] at hm
      generalize hn : (a[0]).toNat = n at hm
      cases hm with
      | zero => omega
      | add hs _ => cases hs
  have hl := fews_len z a a.length
  have hm0 : nt a 0 ∈ fews z a a.length := fews_mem.2 ⟨0, c1, hz0, rfl⟩
  have h1 := List.length_pos_of_mem hm0
  have hnl : (need z a.length).length = (fews z a a.length).length := by simp [need, fews]
  refine ⟨?_, by omega⟩
  unfold ck
  rw [if_neg (by omega), if_neg (by omega)]
  refine ckL_asc _ 0 ?_ fun x hx => ?_
  · unfold fews
    rw [List.pairwise_map]
    have hr : ((List.range a.length).filter fun k => !z k).Pairwise fun i j => i < j := List.pairwise_lt_range.filter _
    refine hr.imp_of_mem fun {i j} hi hj hij => ?_
    have hi := List.mem_range.1 (List.mem_filter.1 hi).1
    have hj := List.mem_range.1 (List.mem_filter.1 hj).1
    rw [nt_get hi, nt_get hj]
    exact List.pairwise_iff_getElem.1 hpw i j hi hj hij
  · obtain ⟨k, k1, _, k3⟩ := fews_mem.1 hx
    rw [nt_get k1] at k3
    have := ha _ (List.getElem_mem k1)
    omega

theorem f12_plain (z t : List Int) (c : Int) (hz : z.length = 4) (hzr : ∀ x ∈ z, 0 ≤ x ∧ x ≤ 255) (ht : t.length = 4) (htr : ∀ x ∈ t, 0 ≤ x ∧ x ≤ 255) (hc : 0 ≤ c ∧ c ≤ 255) : f12 2100 z t c = some true := by
  obtain ⟨a, b, e1, hst, e2, e3, e4⟩ := made_eq (sz := 30) (st := 1) hz hzr ht htr (by omega) (by omega) hc
  have hck := (stk_zero hst).1
  have ha := ck_all hck
  obtain ⟨y, hy⟩ := exFlags a
  obtain ⟨hckf, hnp⟩ := fews_ck hck hy
  have haf := ck_all hckf
  have hlf := fews_len y a a.length
  have hnl := need_len y a.length
  have n1 := f34_eq hck hy
  have p2 := f12_p2_eq (x6 := need y a.length) hck hy 2100 0 (by omega) (by omega)
  have p2 : f12_p2 2100 a (need y a.length) 2100 0 [] [] = some (need y a.length, fews y a a.length) := p2
  obtain ⟨R, r1, r2⟩ := f54_eq (F := 2100) (N := 900) ha (by omega) (by omega) (by omega) (by omega)
  obtain ⟨R', r3, r4⟩ := f54_2_eq (F := 2100) (N := 900) haf (by omega) (by omega) (by omega) (by omega)
  have hRR : R' = R := r4.eq r2 (fews_md hy)
  subst hRR
  have hRl := r2.len
  obtain ⟨l, e, g1, g3, g4, _⟩ := gaps_one hck
  obtain ⟨l', e', g1', _, g4', _⟩ := gaps_one hckf
  have hcom : Com (fews y a a.length) ↔ Com a := by
    constructor
    · rintro ⟨d, d1, d2⟩
      exact ⟨d, d1, fun x hx => ((fews_md hy _).2 (Md.one hx)).dvd d2⟩
    · rintro ⟨d, d1, d2⟩
      exact ⟨d, d1, fun x hx => ((fews_md hy _).1 (Md.one hx)).dvd d2⟩
  have hle : l' = l ∧ e' = e := by
    rcases g4 with ⟨rfl, rfl, q⟩ | ⟨rfl, q, hG⟩
    · rcases g4' with ⟨rfl, rfl, _⟩ | ⟨rfl, q', _⟩
      · exact ⟨rfl, rfl⟩
      · exact absurd (hcom.2 q) q'
    · rcases g4' with ⟨rfl, rfl, q'⟩ | ⟨rfl, _, hG'⟩
      · exact absurd (hcom.1 q') q
      · exact ⟨hG'.uniq hG (fews_md hy), rfl⟩
  obtain ⟨rfl, rfl⟩ := hle
  have hcode : e' = 0 ∨ e' = 15 := by
    rcases g4 with ⟨rfl, _⟩ | ⟨rfl, _⟩
    · exact Or.inr rfl
    · exact Or.inl rfl
  have ew := works
  have hf1 : f28 2100 a = some (l', e') := by unfold f28; rw [g1]; rfl
  have hf2 : f28 2100 (fews y a a.length) = some (l', e') := by unfold f28; rw [g1']; rfl
  unfold f12
  rw [e1, Option.bind_some]
  dsimp only
  rw [n1, Option.bind_some]
  dsimp only
  rw [if_neg (by decide), if_neg (by rw [beq_iff_eq]; omega), p2, Option.bind_some]
  dsimp only
  rw [take0, take0, f23_eq (by omega) (by omega), decide_eq_true rfl, Option.bind_some, if_pos rfl, show f54 2100 a 900 = some R' from r1, Option.bind_some, show f54_2 2100 (fews y a a.length) 900 = some (R'.length, R') by rw [hRl]; exact r3, Option.bind_some]
  dsimp only
  rw [take0, f55_refl (by omega) (by omega), Option.bind_some, req_pos (by omega), if_pos rfl, hf1, Option.bind_some]
  dsimp only
  rw [hf2, Option.bind_some]
  dsimp only
  rw [if_pos (by simp), f23_eq (by omega) (by omega), decide_eq_true rfl, Option.bind_some, if_pos rfl]
  rcases hcode with rfl | rfl
  · rw [if_pos (by decide), ew]; rfl
  · rw [if_neg (by decide), if_pos (by decide), ew]; rfl

end Go.Gh.Pack
