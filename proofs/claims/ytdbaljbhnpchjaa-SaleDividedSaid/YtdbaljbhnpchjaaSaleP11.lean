/- SaleDivided: the plain law. -/
import Derived.Test.YtdbaljbhnpchjaaSaleB11
namespace Go.Gh.Sale
set_option linter.unusedVariables false
set_option linter.unusedSimpArgs false

theorem f11_p2_eq {F m : Nat} {s : List (List Int)} {best w : List Int} (hF : 100 ≤ F) (hv : Vs m s) (hm4 : m ≤ 4) (hn4 : s.length ≤ 4) (hw : w.length = 4) (hx : ∀ x ∈ w, 0 ≤ x ∧ x ≤ 255) : ∀ (k i : Nat) (tw : Bool) (pre : List Int) (L : Nat), i ≤ s.length → s.length < k + i → pre.length = i → (tw = false → Avail m L pre) →
    ∃ rest, f11_p2 F s best w k tw i pre = some (tw || !okD L rest, pre ++ rest) ∧ rest.length = s.length - i ∧ ∀ x ∈ rest, -1 ≤ x ∧ x < m := by
  obtain ⟨r0, q1, q2⟩ := hv.at0
  have hm := hv.m5
  intro k
  induction k with
  | zero => intro i tw pre L _ h; omega
  | succ k ih =>
    intro i tw pre L h1 h2 h3 h4
    unfold f11_p2
    by_cases hi : i < s.length
    · have hidx : 0 + ((Int.toNat (i : Int)) * 1) < w.length := by rw [Int.toNat_natCast]; omega
      have hb := hx _ (List.getElem_mem hidx)
      obtain ⟨t1, t2, t3⟩ := tmod_bd (n := m + 1) hb (by omega)
      have e1 : w64 ((m : Int) + 1) = ((m + 1 : Nat) : Int) := w64_succ (by omega)
      rw [if_pos (by simp; omega), req_pos (by omega), List.getElem?_eq_getElem hidx, Option.bind_some, q1, Option.bind_some, q2, e1, req_pos (by omega), t1]
      generalize hg : w[0 + ((Int.toNat (i : Int)) * 1)] = y at *
      obtain ⟨x, hxv⟩ : ∃ x : Int, Int.tmod y ((m + 1 : Nat) : Int) - 1 = x := ⟨_, rfl⟩
      have ew : w64 (Int.tmod y ((m + 1 : Nat) : Int) - 1) = x := by rw [w64_in (by omega)]; exact hxv
      have hxr : -1 ≤ x ∧ x < m := by omega
      rw [ew, w64_succ (by omega)]
      cases tw with
      | true =>
        obtain ⟨rest, g1, g2, g3⟩ := ih (i + 1) true (pre ++ [x]) L (by omega) (by omega) (by simp; omega) (fun h => by cases h)
        rw [if_pos rfl, req_pos (by simp; omega), g1]
        refine ⟨x :: rest, by simp, by simp; omega, fun z hz => ?_⟩
        rcases List.mem_cons.1 hz with rfl | hz
        · exact hxr
        · exact g3 z hz
      | false =>
        have ha := h4 rfl
        rw [if_neg (by decide)]
        by_cases hneg : x ≥ 0
        · obtain ⟨j, rfl⟩ : ∃ j : Nat, x = j := ⟨x.toNat, by omega⟩
          have hbit := ha.2 j (by omega)
          rw [if_pos (by simp), take0, f53_eq (by omega) hF, Option.bind_some, req_pos (by simp; omega)]
          by_cases hc : (j : Int) ∈ pre
          · obtain ⟨rest, g1, g2, g3⟩ := ih (i + 1) true (pre ++ [(j : Int)]) L (by omega) (by omega) (by simp; omega) (fun h => by cases h)
            rw [decide_eq_true hc, g1]
            rw [decide_eq_true hc] at hbit
            refine ⟨(j : Int) :: rest, ?_, by simp; omega, fun z hz => ?_⟩
            · simp [okD, hbit]
            · rcases List.mem_cons.1 hz with rfl | hz
              · exact hxr
              · exact g3 z hz
          · rw [decide_eq_false hc] at hbit
            have hmem : (j : Int) ∈ cand m L true := by
              unfold cand
              simp only [if_true, List.mem_cons, List.mem_map, List.mem_filter, List.mem_range]
              exact .inr ⟨j, ⟨by omega, by simpa using hbit⟩, rfl⟩
            obtain ⟨rest, g1, g2, g3⟩ := ih (i + 1) false (pre ++ [(j : Int)]) (dx L j) (by omega) (by omega) (by simp; omega) (fun _ => ha.next hm hmem)
            rw [decide_eq_false hc, g1]
            refine ⟨(j : Int) :: rest, ?_, by simp; omega, fun z hz => ?_⟩
            · simp [okD, hbit]
            · rcases List.mem_cons.1 hz with rfl | hz
              · exact hxr
              · exact g3 z hz
        · have hx1 : x = -1 := by omega
          have hmem : x ∈ cand m L true := by rw [hx1]; simp [cand]
          obtain ⟨rest, g1, g2, g3⟩ := ih (i + 1) false (pre ++ [x]) (dx L x) (by omega) (by omega) (by simp; omega) (fun _ => ha.next hm hmem)
          rw [if_neg (by simp; omega), req_pos (by simp; omega), g1]
          refine ⟨x :: rest, ?_, by simp; omega, fun z hz => ?_⟩
          · rw [okD, decide_eq_true (by omega)]; simp
          · rcases List.mem_cons.1 hz with rfl | hz
            · exact hxr
            · exact g3 z hz
    · rw [if_neg (by simp; omega)]
      exact ⟨[], by simp [okD], by simp; omega, by simp⟩

theorem f11_plain (b l : Int) (w by_ : List Int) (hb : 0 ≤ b ∧ b ≤ 255) (hl : 0 ≤ l ∧ l ≤ 255) (hw : w.length = 16) (hv : ∀ x : Int, x ∈ w → 0 ≤ x ∧ x ≤ 255) (hw2 : by_.length = 4) (hv2 : ∀ x : Int, x ∈ by_ → 0 ≤ x ∧ x ≤ 255) : f11 10000 b l w by_ = some true := by
  obtain ⟨s, m, s1, s2, s3, s4, _⟩ := made_eq (F := 10000) (most := 9) (nb := 4) (nl := 4) (by omega) (by omega) (by omega) (by omega) hb hl hw hv
  have hn := s2.n
  obtain ⟨bm1, bm2⟩ := best_mem s2
  obtain ⟨br1, br2⟩ := ds_range _ _ _ _ bm1
  obtain ⟨a1, a2⟩ := f69_eq (F := 10000) (M := []) (s := s) s2.m5
  obtain ⟨d, d1, d2, d3⟩ := f11_p2_eq (F := 10000) (best := bestD m s) (by omega) s2 (by omega) (by omega) hw2 hv2 10000 0 false [] (all_ m) (by omega) (by omega) rfl (fun _ => Avail.all s2.m5)
  rw [Bool.false_or, List.nil_append] at d1
  have d1 : f11_p2 10000 s (bestD m s) by_ 10000 false 0 [] = some (!okD (all_ m) d, d) := d1
  have hdl : d.length = s.length := by omega
  have e17 : f17 10000 s = some (bestD m s, 0) := by rw [f17_eq (by omega), if_neg (by simp [s2.ck]), s2.head]
  have e19 : f19 10000 s = some ((mo m (-1) s 0 (all_ m)).2, 0) := by rw [f19_eq (by omega), if_neg (by simp [s2.ck]), s2.head]
  have e23 : f23 10000 (bestD m s) (bestD m s) = some true := by rw [f23_eq (by omega) (by omega)]; simp
  have e21 := f21_eq (F := 10000) (by omega) s2 hdl d3
  have e49d := f49_eq (F := 10000) (but := -1) (by omega) s2 hdl d3
  have e49b := f49_eq (F := 10000) (but := -1) (by omega) s2 br1 br2
  rw [wB_wv] at e49d e49b
  rw [bm2] at e49b
  have s1 : f43 10000 b l w 4 4 9 = some s := s1
  unfold f11
  simp only [s1, Option.bind_some, split_eq (F := 10000) (by omega) s2, e17, e19, e23, bne_self_eq_false, Bool.false_eq_true, if_false, if_true, d1, take0, e21, e49d, e49b]
  cases ho : okD (all_ m) d with
  | false =>
    simp only [Bool.not_false, if_true, Bool.false_eq_true, if_false, beq_self_eq_true, works10, Option.bind_some]
  | true =>
    have hmem := mem_ds s2.m5 d 0 (all_ m) a2 d3 ho
    rw [hdl] at hmem
    have hle := (mo_top s2).1 d hmem
    simp only [Bool.not_true, if_true, Bool.false_eq_true, if_false, beq_self_eq_true, works10, Option.bind_some, decide_eq_true hle]

end Go.Gh.Sale
