/- The plain law of FanCrossed. -/
import Derived.Test.YtidfbhlhogkfmaaFanM
import Derived.Test.YtidfbhlhogkfmaaFanP10
import Derived.Test.YtidfbhlhogkfmaaFanQ
import Derived.Test.YtidfbhlhogkfmaaFanX
namespace Go.Gh.Fan
set_option linter.unusedVariables false
set_option linter.unusedSimpArgs false

theorem f74_p1_pos (F : Nat) (k : Int) : ∀ (s p : List Int) (f : Nat), s.length < f → p.length + s.length ≤ 1000 →
    f74_p1 F (p ++ s) k f p.length = some (match posF p.length s k with | [] => .c1 | i :: _ => .c0 i)
  | [], p, f + 1, _, _ => by simp [f74_p1, posF]
  | x :: s, p, f + 1, hf, hl => by
    simp only [List.length_cons] at hf hl
    have hlt : ((p.length : Int) < (((p ++ x :: s).length : Nat) : Int)) := by simp; omega
    have ih := f74_p1_pos F k s (p ++ [x]) f (by omega) (by simp; omega)
    simp only [List.append_assoc, List.singleton_append, List.length_append, List.length_singleton] at ih
    simp only [f74_p1, decide_eq_true hlt, if_true, at_mid, Option.bind_some, w64_nat (show p.length < 1000000 by omega), posF]
    by_cases e : x = k
    · rw [if_pos (by simp [e]), if_pos e]
    · rw [if_neg (by simpa using fun q : k = x => e q.symm), if_neg e, ih]
      simp only [Int.natCast_add, Int.natCast_one]

theorem f40_p2_pos (F : Nat) (k z : Int) : ∀ (s p : List Int) (f : Nat), s.length < f → p.length + s.length ≤ 1000 →
    f40_p2 F (p ++ s) k z f p.length = some (match posF p.length s k with | [] => (((p ++ s).length : Nat) : Int) | i :: _ => i)
  | [], p, f + 1, _, _ => by simp [f40_p2, posF]
  | x :: s, p, f + 1, hf, hl => by
    simp only [List.length_cons] at hf hl
    have hlt : ((p.length : Int) < (((p ++ x :: s).length : Nat) : Int)) := by simp; omega
    have ih := f40_p2_pos F k z s (p ++ [x]) f (by omega) (by simp; omega)
    simp only [List.append_assoc, List.singleton_append, List.length_append, List.length_singleton] at ih
    simp only [f40_p2, decide_eq_true hlt, if_true, at_mid, Option.bind_some, w64_nat (show p.length < 1000000 by omega), posF]
    by_cases e : x = k
    · rw [if_neg (by simp [e]), if_pos e]
    · rw [if_pos (by simpa using e), if_neg e, ih]
      simp only [Int.natCast_add, Int.natCast_one, List.length_append, List.length_cons]

/-- Both places of a kind, as the statements find them. -/
theorem f40_none {l : List Int} (hl : l.length ≤ 60) {k : Int} (h : posF 0 l k = []) : f40 100 l k = some (0, 0, false) := by
  have h1 := f74_p1_pos 100 k l [] 100 (by omega) (by simp; omega)
  simp only [List.nil_append, List.length_nil, Int.natCast_zero, h] at h1
  unfold f40 f74
  rw [h1]
  simp

theorem f40_two {l : List Int} (hl : l.length ≤ 60) {k : Int} {a d : Nat} (hd : 1 ≤ d) (h : posF 0 l k = [(a : Int), ((a + d : Nat) : Int)]) (hlt : a + d < l.length) : f40 100 l k = some ((a : Int), ((a + d : Nat) : Int), true) := by
  have h1 := f74_p1_pos 100 k l [] 100 (by omega) (by simp; omega)
  simp only [List.nil_append, List.length_nil, Int.natCast_zero, h] at h1
  have ht : (l.take (a + 1)).length = a + 1 := by rw [List.length_take]; omega
  have hs := posF_append k (l.take (a + 1)) (l.drop (a + 1)) 0
  rw [List.take_append_drop, h, ht, Int.zero_add] at hs
  have hright : posF ((a + 1 : Nat) : Int) (l.drop (a + 1)) k = [((a + d : Nat) : Int)] := by
    have hL : ∀ y, y ∈ posF 0 (l.take (a + 1)) k → y < (a : Int) + 1 := fun y hy => by
      have := posF_mem hy
      rw [ht] at this; omega
    have hR : ∀ y, y ∈ posF ((a + 1 : Nat) : Int) (l.drop (a + 1)) k → (a : Int) + 1 ≤ y := fun y hy => by
      have := posF_mem hy
      omega
    generalize posF 0 (l.take (a + 1)) k = A at hs hL
    generalize posF ((a + 1 : Nat) : Int) (l.drop (a + 1)) k = B at hs hR ⊢
    match A with
    | [] =>
      simp only [List.nil_append] at hs
      have := hR (a : Int) (by rw [← hs]; simp)
      omega
    | [y] =>
      simp only [List.cons_append, List.nil_append, List.cons.injEq] at hs
      exact hs.2.symm
    | y :: z :: r =>
      simp only [List.cons_append, List.cons.injEq] at hs
      have := hL z (by simp)
      omega
  have h2 := f40_p2_pos 100 k (a : Int) (l.drop (a + 1)) (l.take (a + 1)) 100 (by rw [List.length_drop]; omega) (by rw [ht, List.length_drop]; omega)
  rw [List.take_append_drop, ht, hright] at h2
  unfold f40 f74
  rw [h1]
  simp only [Option.bind_some]
  rw [if_neg (by simp), w64_nat (by omega), h2]
  simp only [Option.bind_some]
  have : ((a + d : Nat) : Int) < ((l.length : Nat) : Int) := by omega
  rw [decide_eq_true this]

/-- Full fans are right. -/
theorem f41_full {n : Int} {w : Bool} {x : List Int} (v : Val n w x) (h0 : posF 0 x 0 = []) : f41 100 x n w = some true := by
  have hr := v.rng
  have hlen := v.len
  have key : ∀ (m k f : Nat), m < f → 1 ≤ k → (k : Int) + m = n + 1 → f41_p2 100 x n w f k = some .c1 := by
    intro m
    induction m with
    | zero =>
      intro k f hf h1 hk
      obtain ⟨f, rfl⟩ : ∃ g, f = g + 1 := ⟨f - 1, by omega⟩
      have : ¬ (k : Int) ≤ n := by omega
      simp [f41_p2, this]
    | succ m ih =>
      intro k f hf h1 hk
      obtain ⟨f, rfl⟩ : ∃ g, f = g + 1 := ⟨f - 1, by omega⟩
      have hlt : (k : Int) ≤ n := by omega
      obtain ⟨a, e1, e2, _⟩ := v.both (k := k) ⟨h1, hlt⟩ (v.full.1 h0 k (by omega) hlt)
      have hd := dN_rng (w := w) h1
      simp only [f41_p2, decide_eq_true hlt, if_true]
      rw [f40_two (by omega) hd.1 e1 e2]
      simp only [Option.bind_some, if_true]
      rw [f37_eq (by omega), dist_nat, w64_nat (by omega), ih (k + 1) f (by omega) (by omega) (by omega)]
      simp only [Option.bind_some]
      rw [w64_in (n := ((a + dN w k : Nat) : Int) - (a : Int)) (by omega), show ((a + dN w k : Nat) : Int) - (a : Int) = ((dN w k : Nat) : Int) by omega]
      simp
  unfold f41
  rw [w64_in (n := 2 * n) (by omega)]
  have := key n.toNat 1 100 (by omega) (by omega) (by omega)
  simp only [Int.natCast_one] at this
  rw [this]
  simp [hlen]

theorem f8_p0_eq {n : Int} {w : Bool} {l : List Int} (v : Val n w l) (b : Bool) : ∃ y, f8_p0 100 b n w l = some y ∧ Val n w y := by
  unfold f8_p0
  cases b with
  | false => exact ⟨l, rfl, v⟩
  | true =>
    rw [f33_eq v (all_good v) fun x hx => ((all_mem v).1 hx).good.2]
    cases h : (comp w n.toNat l).foldl bet none with
    | none => exact ⟨l, by simp, v⟩
    | some x =>
      have hx : x ∈ comp w n.toNat l := by
        rcases bet_min.bet_mem _ _ _ h with h | h
        · exact h
        · cases h
      obtain ⟨vx, h0, _⟩ := (all_mem v).1 hx
      refine ⟨x, ?_, vx⟩
      simp only [if_true, Option.bind_some, beq_self_eq_true]
      rw [f41_full vx h0]
      simp [f8_p1]

theorem f8_p10_eq {n : Int} {w : Bool} {l : List Int} (v : Val n w l) {k a : Nat} (hk : 1 ≤ k ∧ (k : Int) ≤ n) (ha : posF 0 l k = [(a : Int), ((a + dN w k : Nat) : Int)]) (x16 : Bool) (x17 : Int) (x18 : List Int) :
    ∀ (m j f : Nat) (out : List Int), m < f → 1 ≤ j → (j : Int) + m = n + 1 → out.length + m ≤ 100 →
    f8_p10 100 x16 x17 x18 a ((a + dN w k : Nat) : Int) n w l f j out = some (out ++ crs w l k m j)
  | 0, j, f + 1, out, _, _, hj, _ => by
    have : ¬ (j : Int) ≤ n := by omega
    simp [f8_p10, this, crs]
  | m + 1, j, f + 1, out, hf, h1, hj, ho => by
    have hlt : (j : Int) ≤ n := by omega
    have hr := v.rng
    have hlen := v.len
    have hd := dN_pos (w := w) hk.1
    have hdj := dN_pos (w := w) h1
    simp only [f8_p10, decide_eq_true hlt, if_true, crs]
    rw [w64_nat (by omega)]
    have rest := fun out' (ho' : out'.length + m ≤ 100) => f8_p10_eq v hk ha x16 x17 x18 m (j + 1) f out' (by omega) (by omega) (by omega) ho'
    by_cases h0 : posF 0 l (j : Int) = []
    · have hc : ¬ crossB w l k j = true := by
        rw [cross_iff v hk ⟨h1, hlt⟩ ha]
        rintro ⟨c, e, _⟩
        rw [h0] at e; cases e
      rw [f40_none (by omega) h0]
      simp only [Option.bind_some, Bool.false_eq_true, if_false]
      rw [rest out (by omega)]
      simp [hc]
    · obtain ⟨c, e1, e2, _⟩ := v.both ⟨h1, hlt⟩ h0
      rw [f40_two (by omega) hdj.1 e1 e2]
      simp only [Option.bind_some, if_true]
      -- the places of two kinds differ
      have hne : j ≠ k → c ≠ a ∧ c ≠ a + dN w k ∧ c + dN w j ≠ a ∧ c + dN w j ≠ a + dN w k := fun hjk => by
        have hjk' : ¬ (j : Int) = (k : Int) := by omega
        exact ⟨fun e => hjk' (pos_apart (x := (c : Int)) (by rw [e1]; simp) (by rw [ha, e]; simp)),
          fun e => hjk' (pos_apart (x := (c : Int)) (by rw [e1]; simp) (by rw [ha, e]; simp)),
          fun e => hjk' (pos_apart (x := ((c + dN w j : Nat) : Int)) (by rw [e1]; simp) (by rw [ha, e]; simp)),
          fun e => hjk' (pos_apart (x := ((c + dN w j : Nat) : Int)) (by rw [e1]; simp) (by rw [ha, e]; simp))⟩
      have hself : j = k → c = a := fun e => by
        subst e
        rw [ha] at e1
        simp at e1; omega
      have hc : crossB w l k j = true ↔ ((a < c ∧ c < a + dN w k ∧ a + dN w k < c + dN w j) ∨ (c < a ∧ a < c + dN w j ∧ c + dN w j < a + dN w k)) := by
        rw [cross_iff v hk ⟨h1, hlt⟩ ha]
        by_cases hjk : j = k
        · have := hself hjk
          subst hjk
          constructor
          · rintro ⟨c', q1, q2⟩
            rw [e1] at q1
            have : c' = c := by simp at q1; omega
            omega
          · intro q; omega
        · have := hne hjk
          constructor
          · rintro ⟨c', q1, q2⟩
            rw [e1] at q1
            have : c' = c := by simp at q1; omega
            omega
          · intro q; exact ⟨c, e1, by omega⟩
      have add : crossB w l k j = true → (req (out.length + ([(j : Int)] : List Int).length ≤ 1099511627776) <| f8_p10 100 x16 x17 x18 a ((a + dN w k : Nat) : Int) n w l f ((j + 1 : Nat) : Int) (out ++ [(j : Int)])) = some (out ++ ((if crossB w l k j = true then [(j : Int)] else []) ++ crs w l k m (j + 1))) := fun g => by
        rw [req_pos (by simp; omega), rest _ (by simp; omega)]
        simp [g]
      have skip : ¬ crossB w l k j = true → f8_p10 100 x16 x17 x18 a ((a + dN w k : Nat) : Int) n w l f ((j + 1 : Nat) : Int) out = some (out ++ ((if crossB w l k j = true then [(j : Int)] else []) ++ crs w l k m (j + 1))) := fun g => by
        rw [rest out (by omega)]
        simp [g]
      simp only [f8_p13, f8_p13_1, f8_p13_2, decide_eq_true_eq]
      by_cases q1 : (a : Int) < (c : Int)
      · rw [if_pos q1]
        by_cases q2 : (c : Int) < ((a + dN w k : Nat) : Int)
        · rw [if_pos q2]
          by_cases q3 : ((a + dN w k : Nat) : Int) < ((c + dN w j : Nat) : Int)
          · rw [if_pos q3]; exact add (hc.2 (by omega))
          · rw [if_neg q3, if_neg (by omega)]; exact skip (fun q => by have := hc.1 q; omega)
        · rw [if_neg q2, if_neg (by omega)]; exact skip (fun q => by have := hc.1 q; omega)
      · rw [if_neg q1]
        by_cases q2 : (c : Int) < (a : Int)
        · rw [if_pos q2]
          by_cases q3 : (a : Int) < ((c + dN w j : Nat) : Int)
          · rw [if_pos q3]
            by_cases q4 : ((c + dN w j : Nat) : Int) < ((a + dN w k : Nat) : Int)
            · rw [if_pos q4, req_pos (by simp; omega)]
              simp only [Option.bind_some]
              have := add (hc.2 (by omega))
              rwa [req_pos (by simp; omega)] at this
            · rw [if_neg q4]
              simp only [Option.bind_some]
              exact skip (fun q => by have := hc.1 q; omega)
          · rw [if_neg q3]; exact skip (fun q => by have := hc.1 q; omega)
        · rw [if_neg q2]; exact skip (fun q => by have := hc.1 q; omega)

/- parity -/
theorem S_front (f : Nat → Nat) : ∀ m, S f (m + 1) = f 0 + S (fun i => f (i + 1)) m
  | 0 => by simp [S]
  | m + 1 => by
    have ih := S_front f m
    simp only [S] at ih ⊢
    omega
theorem S_even {f g : Nat → Nat} : ∀ {m : Nat}, (∀ i, i < m → f i % 2 = g i % 2) → S f m % 2 = S g m % 2
  | 0, _ => rfl
  | m + 1, h => by
    have h1 := S_even (m := m) fun i hi => h i (by omega)
    have h2 := h m (by omega)
    simp only [S]; omega
theorem crs_S (w : Bool) (l : List Int) (k : Nat) : ∀ m j, (crs w l k m j).length = S (fun i => if crossB w l k (j + i) = true then 1 else 0) m
  | 0, _ => rfl
  | m + 1, j => by
    rw [S_front, crs, List.length_append, crs_S w l k m (j + 1), S_congr (f := fun i => if crossB w l k (j + 1 + i) = true then 1 else 0) (g := fun i => if crossB w l k (j + (i + 1)) = true then 1 else 0) (fun i _ => by rw [show j + 1 + i = j + (i + 1) by omega])]
    by_cases h : crossB w l k j = true
    · simp [h]
    · simp [h]
theorem pos_off (k : Int) : ∀ (l : List Int) (i j : Int), (posF i l k).length = (posF j l k).length
  | [], _, _ => rfl
  | x :: l, i, j => by
    have := pos_off k l (i + 1) (j + 1)
    simp only [posF]; split <;> simp [this]

theorem parity {n : Int} {w : Bool} {l : List Int} (v : Val n w l) (hf : posF 0 l 0 = []) {k a : Nat} (hk : 1 ≤ k ∧ (k : Int) ≤ n) (ha : posF 0 l k = [(a : Int), ((a + dN w k : Nat) : Int)]) (hl : a + dN w k < l.length) :
    (crs w l k n.toNat 1).length % 2 = (dN w k - 1) % 2 := by
  obtain ⟨m, rfl⟩ := Int.eq_ofNat_of_zero_le (show 0 ≤ n by have := v.rng; omega)
  have hb : btwL w l k = (l.drop (a + 1)).take (dN w k - 1) := by
    unfold btwL; rw [ha]; simp
  have hbl : (btwL w l k).length = dN w k - 1 := by rw [hb, List.length_take, List.length_drop]; omega
  have hsplit : l = l.take (a + 1) ++ (btwL w l k ++ (l.drop (a + 1)).drop (dN w k - 1)) := by
    rw [hb, List.take_append_drop, List.take_append_drop]
  have hle : ∀ j : Int, (posF 0 (btwL w l k) j).length ≤ (posF 0 l j).length := fun j => by
    conv => rhs; rw [hsplit, posF_append, posF_append]
    rw [List.length_append, List.length_append, pos_off j (btwL w l k) 0 (0 + ((l.take (a + 1)).length : Int))]
    omega
  have hc := count_all (n := m + 1) (btwL w l k) 0 fun x hx => by
    have hx' : x ∈ l := by
      rw [hb] at hx
      exact List.mem_of_mem_drop (List.mem_of_mem_take hx)
    have := v.inr x hx'
    omega
  have h0 : (posF 0 (btwL w l k) 0).length = 0 := by
    have := hle 0
    rw [hf] at this
    simpa using this
  rw [S_front] at hc
  simp only [Int.natCast_zero] at hc
  rw [h0, hbl, Nat.zero_add] at hc
  rw [← hc, Int.toNat_natCast, crs_S]
  apply S_even
  intro i hi
  have h2 := hle ((i + 1 : Nat) : Int)
  have h3 : (posF 0 l ((i + 1 : Nat) : Int)).length ≤ 2 := by
    rcases v.two (k := ((i + 1 : Nat) : Int)) (by omega) (by omega) with e | ⟨z, e⟩ <;> rw [e] <;> simp
  rw [show 1 + i = i + 1 by omega]
  unfold crossB
  by_cases g : (posF 0 (btwL w l k) ((i + 1 : Nat) : Int)).length = 1
  · simp only [g, decide_true, if_true]
  · rw [if_neg (by simpa using g)]
    omega

theorem zero_mem {l : List Int} (h : ¬ (0 : Int) ∈ l) : posF 0 l 0 = [] := by
  apply List.eq_nil_iff_forall_not_mem.2
  intro x hx
  exact h (List.mem_iff_getElem?.2 ⟨_, (mem_pos.1 hx).2⟩)

theorem f8_p3_eq {n : Int} {w : Bool} {l : List Int} (v : Val n w l) : ∀ (m k f : Nat), m < f → 1 ≤ k → (k : Int) + m = n + 1 → f8_p3 100 (decide ((0 : Int) ∈ l)) n w l f k = some .c1
  | 0, k, f + 1, _, _, hk => by
    have : ¬ (k : Int) ≤ n := by omega
    simp [f8_p3, this]
  | m + 1, k, f + 1, hf, h1, hk => by
    have hr := v.rng
    have hlen := v.len
    have hlt : (k : Int) ≤ n := by omega
    have ih := f8_p3_eq v m (k + 1) f (by omega) (by omega) (by omega)
    have hcl := crs_len w l k n.toNat 1
    have hd := dN_pos (w := w) h1
    simp only [f8_p3, decide_eq_true hlt, if_true]
    rw [f27_eq (by omega), f25_eq (by omega), w64_nat (by omega), ih]
    have hk1 : 1 ≤ (k : Int) ∧ (k : Int) ≤ n := by omega
    by_cases h0 : posF 0 l (k : Int) = []
    · have c1 : crossS n w l k = ([], 12) := by unfold crossS; rw [if_pos (code_zero.2 v), if_pos hk1, if_pos h0]
      have c2 : betwS n w l k = ([], 12) := by unfold betwS; rw [if_pos (code_zero.2 v), if_pos hk1, if_pos h0]
      rw [f40_none (by omega) h0, c1, c2]
      have e0 : w64 0 = 0 := by decide
      simp [e0]
    · obtain ⟨a, e1, e2, _⟩ := v.both (k := k) ⟨h1, hlt⟩ h0
      have c1 : crossS n w l k = (crs w l k n.toNat 1, 0) := by unfold crossS; rw [if_pos (code_zero.2 v), if_pos hk1, if_neg h0, Int.toNat_natCast]
      have c2 : betwS n w l k = (btwL w l k, 0) := by unfold betwS; rw [if_pos (code_zero.2 v), if_pos hk1, if_neg h0, Int.toNat_natCast]
      rw [f40_two (by omega) hd.1 e1 e2, c1, c2]
      have hb : List.drop (a + 1) (List.take (a + dN w k) l) = btwL w l k := by
        unfold btwL
        rw [e1]
        simp only [List.headD_cons, Int.toNat_natCast]
        rw [List.drop_take, show a + dN w k - (a + 1) = dN w k - 1 by omega]
      have hbl : (btwL w l k).length ≤ 60 := by unfold btwL; rw [List.length_take]; omega
      have hwant := f8_p10_eq v ⟨h1, hlt⟩ e1 (decide ((0 : Int) ∈ l)) k (crs w l k n.toNat 1) n.toNat 1 100 [] (by omega) (by omega) (by omega) (by simp; omega)
      simp only [Int.natCast_one, List.nil_append] at hwant
      simp only [Option.bind_some, Int.toNat_natCast, bne_self_eq_false, Bool.false_eq_true, if_false, if_true]
      rw [w64_nat (by omega), req_pos (by omega), Int.toNat_natCast, hb, f22_refl (by omega) (by omega)]
      simp only [Option.bind_some, if_true]
      rw [hwant]
      simp only [Option.bind_some, take0]
      rw [f22_refl (by omega) (by omega)]
      simp only [Option.bind_some, if_true]
      by_cases g : (0 : Int) ∈ l
      · simp [g]
      · have hp := parity v (zero_mem g) ⟨h1, hlt⟩ e1 e2
        rw [w64_in (n := ((a + dN w k : Nat) : Int) - (a : Int)) (by omega), w64_in (by omega)]
        have : Int.tmod (((crs w l k n.toNat 1).length : Nat) : Int) 2 = Int.tmod (((a + dN w k : Nat) : Int) - (a : Int) - 1) 2 := by
          rw [Int.tmod_eq_emod_of_nonneg (by omega), Int.tmod_eq_emod_of_nonneg (by omega)]
          omega
        rw [if_neg (by simpa using g), this]
        simp

theorem f8_plain (x1 : Int) (w : Bool) (ps : List Int) (x4 : Int) (x5 : Bool) (h1 : 0 ≤ x1 ∧ x1 ≤ 255) (hps : ps.length = 8) (hb : ∀ x ∈ ps, 0 ≤ x ∧ x ≤ 255) : f8 100 x1 w ps x4 x5 = some true := by
  obtain ⟨n, l, hm, v, hn⟩ := f43_eq h1 w hps hb x4 (m := 8) (by omega)
  obtain ⟨y, hy, vy⟩ := f8_p0_eq v x5
  have hr := vy.rng
  have hlen := vy.len
  have e3 := f8_p3_eq vy n.toNat 1 100 (by omega) (by omega) (by omega)
  simp only [Int.natCast_one] at e3
  simp only [show ((8 : Nat) : Int) = 8 from rfl] at hm
  unfold f8
  rw [hm]
  simp only [Option.bind_some]
  rw [hy]
  simp only [Option.bind_some]
  rw [f46_eq (by omega) (by omega)]
  simp only [Option.bind_some]
  rw [e3]
  simp [f14_true]

end Go.Gh.Fan
