/- The plain law of PacketMore, joined. -/
import Derived.Test.YtkjlgbnbpeijbaaPackP7
namespace Go.Gh.Pack
set_option linter.unusedVariables false
set_option linter.unusedSimpArgs false

theorem f7_plain (z t : List Int) (c more : Int) (add : List Int) (m : Int) (hz : z.length = 4) (hzr : ∀ x ∈ z, 0 ≤ x ∧ x ≤ 255) (ht : t.length = 4) (htr : ∀ x ∈ t, 0 ≤ x ∧ x ≤ 255) (hc : 0 ≤ c ∧ c ≤ 255) (hmore : 0 ≤ more ∧ more ≤ 255)
    (hadd : add.length = 4) (haddr : ∀ x ∈ add, 0 ≤ x ∧ x ≤ 255) (hm : 0 ≤ m ∧ m ≤ 65535) : f7 1100 z t c more add m = some true := by
  obtain ⟨a, b, e1, hst, h4, hsz, hsb⟩ := made_eq (sz := 30) (st := 40) hz hzr ht htr (by omega) (by omega) hc
  have hab := Good.of hst
  have hl := hab.len
  have hck := (stk_zero hst).1
  obtain ⟨c1, _, _⟩ := ck_zero hck
  have hm0 := Int.emod_nonneg m (b := 1001) (by omega)
  have hm1 := Int.emod_lt_of_pos m (b := 1001) (by omega)
  obtain ⟨n, en⟩ : ∃ n : Nat, m % 1001 = n := ⟨(m % 1001).toNat, by omega⟩
  have emod : Int.tmod (w64 m) 1001 = (n : Int) := by rw [w64_in (by omega), Int.tmod_eq_emod_of_nonneg (by omega), en]
  have r0 := Int.emod_nonneg more (b := 30) (by omega)
  have r1 := Int.emod_lt_of_pos more (b := 30) (by omega)
  have emore : w64 (1 + Int.tmod (w64 more) 30) = 1 + more % 30 := by rw [w64_in (n := more) (by omega), Int.tmod_eq_emod_of_nonneg (by omega), w64_in (by omega)]
  -- the loops
  obtain ⟨le1, le2, le3⟩ := adds_le b add (by omega) hsb
  have eloop : f7_p3 1100 a b m add 1100 0 [] [] = some (adds b add, List.replicate a.length 40) := by
    have e := f7_p3_eq (F := 1100) (a := a) (m := m) (by omega) hadd haddr hsb 1100 0 [] [] (by omega) (by omega) (by simp) (by simp)
    rw [List.drop_zero, List.drop_zero, List.nil_append, List.nil_append, Nat.sub_zero, hl] at e
    exact e
  have eloop1 : f7_p3_1 1100 a b m add 1100 0 [] [] = some (adds b add, List.replicate a.length 40) := by rw [f7_p3_1_eq, eloop]
  have eloop2 : f7_p3_2 1100 a b m add 1100 0 [] [] = some (adds b add, List.replicate a.length 40) := by rw [f7_p3_2_eq, eloop]
  have eloop3 : f7_p3_3 1100 a b m add 1100 0 [] [] = some (adds b add, List.replicate a.length 40) := by rw [f7_p3_3_eq, eloop]
  have hstu : stk a (adds b add) = 0 := by
    unfold stk
    rw [if_pos hck, if_pos (by omega), if_pos (stOk_iff.2 le3)]
  have efill := fl_cmp (n := n) (by omega) hst hstu le1
  -- the smaller number
  have h0 := hsz _ (List.getElem_mem c1)
  obtain ⟨s0, es0⟩ : ∃ s : Nat, a[0] = s := ⟨a[0].toNat, by omega⟩
  have eat : at? a 0 = some (s0 : Int) := by rw [← es0]; exact at_get c1
  have e40 : w64 (w64 (40 * (s0 : Int)) + 1) = ((40 * s0 + 1 : Nat) : Int) := by rw [w64_in (n := 40 * (s0 : Int)) (by omega), w64_in (by omega)]; omega
  have ekm : Int.tmod (n : Int) ((40 * s0 + 1 : Nat) : Int) = ((n % (40 * s0 + 1) : Nat) : Int) := by
    rw [Int.tmod_eq_emod_of_nonneg (by omega), ← Int.natCast_emod]
  have hne : ((40 * s0 + 1 : Nat) : Int) ≠ 0 := by omega
  have hk1 := Nat.mod_lt n (show 0 < 40 * s0 + 1 by omega)
  have hk2 := Nat.mod_le n (40 * s0 + 1)
  have hasc : ∀ x ∈ a, (s0 : Int) ≤ x := by
    intro x hx
    have hp := ckL_pw a 0 (ck_zero hck).2.2
    cases a with
    | nil => simp at c1
    | cons y a' =>
      rw [List.pairwise_cons] at hp
      have hy : y = s0 := es0
      rcases List.mem_cons.1 hx with rfl | hx
      · omega
      · have := hp.1 x hx; omega
  obtain ⟨lk, ek, k1', k2', k3'⟩ := eq_k (a := a) (k := n % (40 * s0 + 1)) hck (by omega) (fun x hx => by have := hasc x hx; omega)
  have t1 := f23_eq (F := 1100) (a := lk) (b := lk) (by omega) (by omega)
  have ew := works
  have fall : ∀ p1 p2 : Int, p2 ≤ p1 → decide (p2 > p1) = false := fun p1 p2 h => decide_eq_false (by omega)
  unfold f7
  rw [e1, Option.bind_some]
  dsimp only
  rw [f47_4m_eq (by omega), Option.bind_some, take0, emore, f48_eq (by omega) (by omega), Option.bind_some]
  by_cases hin : 1 + more % 30 ∈ a
  · rw [decide_eq_true hin]
    have ep0 : f7_p0 1100 a b m more a true add = some .c0 := rfl
    rw [ep0, Option.bind_some]
    dsimp only
    rw [emod]
    rcases mk_cmp (n := n) (by omega) hck hck (List.Sublist.refl a) with ⟨l1, l2, p1, p2, m1, m2, m3, m4, m5, m6, m7⟩ | ⟨⟨q1, q2⟩, m1, m2⟩
    · rcases efill with ⟨l3, l4, p3, p4, n1, n2, n3, n4, n5, n6, n7⟩ | ⟨⟨q3, q4⟩, n1, n2⟩
      · simp only [m1, m2, m3, m4, m5, m6, fall _ _ m7, fall p1 p1 (Int.le_refl _), n1, n2, n3, n4, n5, n6, fall _ _ n7, eloop, take0, Option.bind_some, beq_self_eq_true, bne_self_eq_false, Bool.false_eq_true, if_true, if_false, eat, e40, ekm, req_pos hne, k1', k2', t1, decide_true, ew]
      · simp only [m1, m2, m3, m4, m5, m6, fall _ _ m7, fall p1 p1 (Int.le_refl _), n1, n2, eloop, take0, Option.bind_some, beq_self_eq_true, bne_self_eq_false, Bool.false_eq_true, if_true, if_false, eat, e40, ekm, req_pos hne, k1', k2', t1, decide_true, ew, show ((12 : Int) == 0) = false from rfl]
    · have m2' := m1.symm.trans m2
      rcases efill with ⟨l3, l4, p3, p4, n1, n2, n3, n4, n5, n6, n7⟩ | ⟨⟨q3, q4⟩, n1, n2⟩
      · simp only [m1, n1, n2, n3, n4, n5, n6, fall _ _ n7, eloop1, take0, Option.bind_some, beq_self_eq_true, bne_self_eq_false, Bool.false_eq_true, if_true, if_false, eat, e40, ekm, req_pos hne, k1', k2', t1, decide_true, ew, show ((12 : Int) == 0) = false from rfl]
      · simp only [m1, n1, n2, eloop1, take0, Option.bind_some, beq_self_eq_true, bne_self_eq_false, Bool.false_eq_true, if_true, if_false, eat, e40, ekm, req_pos hne, k1', k2', t1, decide_true, ew, show ((12 : Int) == 0) = false from rfl]
  · obtain ⟨v1, v2, v3, v4⟩ := wide_eq hck h4 (by omega) hin
    generalize hW : (srt [] (a ++ [1 + more % 30])).reverse = w at *
    rw [decide_eq_false hin]
    have ep0 : f7_p0 1100 a b m more a false add = some (.c1 w) := by
      unfold f7_p0
      rw [if_neg (by decide), emore, req_pos (by simp; omega), v1, Option.bind_some]
    have hlen : (a ++ [1 + more % 30]).length = w.length := by simp; omega
    have etk : List.drop 0 (List.take (0 + w.length) w) = w := take0 w
    rw [ep0, Option.bind_some]
    dsimp only
    rw [emod, hlen, etk]
    rcases mk_cmp (n := n) (by omega) hck v2 v3 with ⟨l1, l2, p1, p2, m1, m2, m3, m4, m5, m6, m7⟩ | ⟨⟨q1, q2⟩, m1, m2⟩
    · rcases efill with ⟨l3, l4, p3, p4, n1, n2, n3, n4, n5, n6, n7⟩ | ⟨⟨q3, q4⟩, n1, n2⟩
      · simp only [m1, m2, m3, m4, m5, m6, fall _ _ m7, n1, n2, n3, n4, n5, n6, fall _ _ n7, eloop2, take0, Option.bind_some, beq_self_eq_true, bne_self_eq_false, Bool.false_eq_true, if_true, if_false, eat, e40, ekm, req_pos hne, k1', k2', t1, decide_true, ew, req_pos (show 0 + w.length ≤ w.length by omega)]
      · simp only [m1, m2, m3, m4, m5, m6, fall _ _ m7, n1, n2, eloop2, take0, Option.bind_some, beq_self_eq_true, bne_self_eq_false, Bool.false_eq_true, if_true, if_false, eat, e40, ekm, req_pos hne, k1', k2', t1, decide_true, ew, show ((12 : Int) == 0) = false from rfl, req_pos (show 0 + w.length ≤ w.length by omega)]
    · rcases efill with ⟨l3, l4, p3, p4, n1, n2, n3, n4, n5, n6, n7⟩ | ⟨⟨q3, q4⟩, n1, n2⟩
      · simp only [m1, m2, n1, n2, n3, n4, n5, n6, fall _ _ n7, eloop3, take0, Option.bind_some, beq_self_eq_true, bne_self_eq_false, Bool.false_eq_true, if_true, if_false, eat, e40, ekm, req_pos hne, k1', k2', t1, decide_true, ew, show ((12 : Int) == 0) = false from rfl, req_pos (show 0 + w.length ≤ w.length by omega)]
      · simp only [m1, m2, n1, n2, eloop3, take0, Option.bind_some, beq_self_eq_true, bne_self_eq_false, Bool.false_eq_true, if_true, if_false, eat, e40, ekm, req_pos hne, k1', k2', t1, decide_true, ew, show ((12 : Int) == 0) = false from rfl, req_pos (show 0 + w.length ≤ w.length by omega)]

end Go.Gh.Pack
