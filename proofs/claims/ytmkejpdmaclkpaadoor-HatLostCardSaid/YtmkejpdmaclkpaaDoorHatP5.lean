/- The plain law of HatLost. -/
import Derived.Test.YtmkejpdmaclkpaaDoorHatB
import Derived.Test.YtmkejpdmaclkpaaDoorHatM
namespace Go.Gh.Hat
set_option linter.unusedVariables false
set_option linter.unusedSimpArgs false

section
variable {n : Nat} {s : List (List Int)}

theorem winb_p (v : VP n s) (hn : n ≤ 4) : ∀ (m c f : Nat) (out : List Int), m < f → c + m = 2 ^ n → out.length ≤ c →
    f33_p1 1000 n s f c out = some (out ++ filt (won s n) c m)
  | 0, c, f + 1, out, _, hi, _ => by
    have : ¬ (c : Int) < ((2 ^ n : Nat) : Int) := by omega
    simp only [f33_p1, shl_eq v.rng.2, decide_eq_false this, Bool.false_eq_true, if_false, filt, List.append_nil]
  | m + 1, c, f + 1, out, hf, hi, ho => by
    have hp := pw_le v.rng.2
    have hlt : (c : Int) < ((2 ^ n : Nat) : Int) := by omega
    simp only [f33_p1, shl_eq v.rng.2, decide_eq_true hlt, if_true]
    rw [f38_eq v hn (by omega)]
    simp only [Option.bind_some, f33_p4_1, filt]
    rw [w64_nat (by omega)]
    by_cases g1 : 0 < R s n c
    · rw [if_pos (by simpa using g1)]
      by_cases g2 : Wn s n c = 0
      · have e : won s n c = true := by simp [won, g1, g2]
        rw [if_pos (by simpa using g2), req_pos (by simp; omega)]
        simp only [Option.bind_some]
        rw [winb_p v hn m (c + 1) f _ (by omega) (by omega) (by simp; omega), e]
        simp
      · have e : ¬ won s n c = true := by simp [won, g2]
        rw [if_neg (by simpa using g2)]
        simp only [Option.bind_some]
        rw [winb_p v hn m (c + 1) f _ (by omega) (by omega) (by omega), if_neg e]
        simp
    · have e : ¬ won s n c = true := by simp [won, g1]
      rw [if_neg (by simpa using g1), winb_p v hn m (c + 1) f _ (by omega) (by omega) (by omega), if_neg e]
      simp

theorem f33_eq (v : VP n s) (hn : n ≤ 4) : f33 1000 n s = some (filt (won s n) 0 (2 ^ n)) := by
  have hp := pw_le v.rng.2
  have := winb_p v hn (2 ^ n) 0 1000 [] (by omega) (by omega) (by simp)
  simp only [Int.natCast_zero, List.nil_append] at this
  unfold f33
  rw [req_pos (by omega), this]
  simp only [Option.bind_some, take0]

theorem sumF_pos {g : Nat → Nat} : ∀ m i, 0 < sumF g i m → ∃ j, i ≤ j ∧ j < i + m ∧ 0 < g j
  | 0, _, h => by simp [sumF] at h
  | m + 1, i, h => by
    simp only [sumF] at h
    by_cases q : 0 < g i
    · exact ⟨i, by omega, by omega, q⟩
    · have h' : 0 < sumF g (i + 1) m := by omega
      obtain ⟨j, h1, h2, h3⟩ := sumF_pos m (i + 1) h'
      exact ⟨j, by omega, by omega, h3⟩
theorem sumF_ge {g : Nat → Nat} : ∀ m i j, i ≤ j → j < i + m → g j ≤ sumF g i m
  | 0, _, _, _, _ => by omega
  | m + 1, i, j, h1, h2 => by
    simp only [sumF]
    by_cases e : j = i
    · subst e; omega
    · have := sumF_ge (g := g) m (i + 1) j (by omega) (by omega)
      omega

/-- One of a colouring's neighbours is lost if it is won. -/
theorem lost_near (v : VP n s) {c : Nat} (hc : c < 2 ^ n) (h : won s n c = true) : ∃ i, i < n ∧ won s n (flip c i) = false := by
  unfold won at h
  simp only [Bool.and_eq_true, decide_eq_true_eq] at h
  obtain ⟨i, _, h2, h3⟩ := sumF_pos _ _ h.1
  refine ⟨i, by omega, ?_⟩
  have hw := wr_flip v (show i < n by omega) hc
  have hge := sumF_ge (g := wr s (flip c i)) n 0 i (by omega) (by omega)
  have : Wn s n (flip c i) ≠ 0 := by unfold Wn; omega
  simp [won, this]

theorem f35_eq {x : Nat} {p : Nat → Bool} (hn : n ≤ 7) (hx : x < 2 ^ n) : f35 1000 x (filt p 0 (2 ^ n)) = some (!p x) := by
  have hl := len_set (p := p) hn
  unfold f35
  rw [f36_eq (by omega)]
  simp only [Option.bind_some]
  congr 2
  by_cases g : p x = true
  · rw [decide_eq_true ((mem_set hx).2 g), g]
  · rw [decide_eq_false (fun q => g ((mem_set hx).1 q))]
    simpa using g

theorem near_true_p {p : Nat → Bool} (hn : 1 ≤ n ∧ n ≤ 7) {c : Nat} : ∀ (m i f : Nat), m < f → i + m = n → f34_p5 1000 n c (filt p 0 (2 ^ n)) f true i = some true
  | 0, i, f + 1, _, hi => by
    have : ¬ (i : Int) < (n : Int) := by omega
    simp [f34_p5, this]
  | m + 1, i, f + 1, hf, hi => by
    have hlt : (i : Int) < (n : Int) := by omega
    simp only [f34_p5, decide_eq_true hlt, if_true]
    rw [w64_nat (by omega)]
    exact near_true_p hn m (i + 1) f (by omega) (by omega)

theorem near_p {p : Nat → Bool} (hn : 1 ≤ n ∧ n ≤ 7) {c : Nat} (hc : c < 2 ^ n) {k : Nat} (hk : k < n) (hpk : p (flip c k) = false) : ∀ (m i f : Nat), m < f → i + m = n → i ≤ k → f34_p5 1000 n c (filt p 0 (2 ^ n)) f false i = some true
  | 0, i, f + 1, _, hi, hik => by omega
  | m + 1, i, f + 1, hf, hi, hik => by
    have hpw := pw_le hn.2
    have hlt : (i : Int) < (n : Int) := by omega
    simp only [f34_p5, decide_eq_true hlt, if_true, Bool.false_eq_true, if_false]
    rw [req_pos (by omega), arX (by omega) (by omega), f35_eq hn.2 (rg hn.2 (by omega) hc).2.1, w64_nat (by omega)]
    simp only [Option.bind_some]
    by_cases g : p (flip c i) = false
    · rw [g]
      exact near_true_p hn m (i + 1) f (by omega) (by omega)
    · have e : i ≠ k := fun e => g (by rw [e]; exact hpk)
      rw [show (!p (flip c i)) = false by simpa using g]
      exact near_p hn hc hk hpk m (i + 1) f (by omega) (by omega) (by omega)

theorem covered_p {p : Nat → Bool} (hn : 1 ≤ n ∧ n ≤ 7) (hp : ∀ c, c < 2 ^ n → p c = true → ∃ i, i < n ∧ p (flip c i) = false) : ∀ (m c f : Nat), m < f → c + m = 2 ^ n → f34_p1 1000 n (filt p 0 (2 ^ n)) f c = some .c1
  | 0, c, f + 1, _, hc => by
    have : ¬ (c : Int) < ((2 ^ n : Nat) : Int) := by omega
    simp only [f34_p1, shl_eq hn.2, decide_eq_false this, Bool.false_eq_true, if_false]
  | m + 1, c, f + 1, hf, hc => by
    have hpw := pw_le hn.2
    have hlt : (c : Int) < ((2 ^ n : Nat) : Int) := by omega
    simp only [f34_p1, shl_eq hn.2, decide_eq_true hlt, if_true]
    rw [f35_eq hn.2 (by omega)]
    simp only [Option.bind_some]
    have e : f34_p5 1000 n c (filt p 0 (2 ^ n)) 1000 (!p c) 0 = some true := by
      cases g : p c with
      | false =>
        have := near_true_p (p := p) (c := c) hn n 0 1000 (by omega) (by omega)
        exact this
      | true =>
        obtain ⟨k, h1, h2⟩ := hp c (by omega) g
        have := near_p hn (show c < 2 ^ n by omega) h1 h2 n 0 1000 (by omega) (by omega) (by omega)
        exact this
    rw [e, w64_nat (by omega)]
    simp only [Option.bind_some, if_true]
    exact covered_p hn hp m (c + 1) f (by omega) (by omega)

theorem lost_p {p : Nat → Bool} (hn : 1 ≤ n ∧ n ≤ 7) : ∀ (m c f : Nat) (out : List Int), m < f → c + m = 2 ^ n → out.length ≤ c →
    f5_p2 1000 n (filt p 0 (2 ^ n)) f c out = some (out ++ filt (fun c => !p c) c m)
  | 0, c, f + 1, out, _, hi, _ => by
    have : ¬ (c : Int) < ((2 ^ n : Nat) : Int) := by omega
    simp only [f5_p2, shl_eq hn.2, decide_eq_false this, Bool.false_eq_true, if_false, filt, List.append_nil]
  | m + 1, c, f + 1, out, hf, hi, ho => by
    have hpw := pw_le hn.2
    have hl := len_set (p := p) hn.2
    have hlt : (c : Int) < ((2 ^ n : Nat) : Int) := by omega
    simp only [f5_p2, shl_eq hn.2, decide_eq_true hlt, if_true]
    rw [f36_eq (by omega), w64_nat (by omega)]
    simp only [Option.bind_some, f5_p5_1, filt]
    by_cases g : p c = true
    · rw [decide_eq_true ((mem_set (show c < 2 ^ n by omega)).2 g), if_pos rfl]
      simp only [Option.bind_some]
      rw [lost_p hn m (c + 1) f _ (by omega) (by omega) (by omega)]
      simp [g]
    · rw [decide_eq_false (fun q => g ((mem_set (show c < 2 ^ n by omega)).1 q)), if_neg Bool.false_ne_true, req_pos (by simp; omega)]
      simp only [Option.bind_some]
      rw [lost_p hn m (c + 1) f _ (by omega) (by omega) (by simp; omega)]
      simp [g]

theorem bare_tab1 {g : Nat → Nat} {N : Nat} (hN : N ≤ 128) : ∀ (m x f : Nat) (out : List Int), m < f → x + m = N → out.length ≤ x →
    f17_1_p2 1000 (mapF (fun x => (g x : Int)) 0 N) f x out = some (out ++ filt (fun x => decide (g x = 0)) x m)
  | 0, x, f + 1, out, _, hi, _ => by
    have : ¬ (x : Int) < ((N : Nat) : Int) := by omega
    simp only [f17_1_p2, mapF_len, decide_eq_false this, Bool.false_eq_true, if_false, filt, List.append_nil]
  | m + 1, x, f + 1, out, hf, hi, ho => by
    have hlt : (x : Int) < ((N : Nat) : Int) := by omega
    have hat : at? (mapF (fun x => (g x : Int)) 0 N) (x : Int) = some (g x : Int) := by
      have := mapF_get (f := fun x => (g x : Int)) N 0 x (by omega)
      rw [Nat.zero_add] at this
      exact at_of this
    simp only [f17_1_p2, mapF_len, decide_eq_true hlt, if_true, hat, Option.bind_some, f17_1_p5_1, filt]
    rw [w64_nat (by omega)]
    by_cases q : g x = 0
    · rw [if_pos (by simpa using q), req_pos (by simp; omega)]
      simp only [Option.bind_some]
      rw [bare_tab1 hN m (x + 1) f _ (by omega) (by omega) (by simp; omega)]
      simp [q]
    · rw [if_neg (by simpa using q)]
      simp only [Option.bind_some]
      rw [bare_tab1 hN m (x + 1) f _ (by omega) (by omega) (by omega)]
      simp [q]

theorem f17_1_eq {code : List Int} (hcl : code.length ≤ 200) (n : Int) (h : chkC n code = 0) : f17_1 1000 n code = some (0, filt (bareB n.toNat code) 0 (2 ^ n.toNat)) := by
  unfold f17_1
  rw [f59_eq hcl]
  obtain ⟨h1, h2, _⟩ := chk_rng h
  have hp := pw_le (n := n.toNat) (by omega)
  rw [if_pos h]
  have := bare_tab1 (g := tm n.toNat code) (N := 2 ^ n.toNat) hp.2 (2 ^ n.toNat) 0 1000 [] (by omega) (by omega) (by simp)
  simp only [Int.natCast_zero, List.nil_append] at this
  simp only [Option.bind_some, bne_self_eq_false, Bool.false_eq_true, if_false]
  rw [this]
  rfl

/-- Nothing is bare if all is covered. -/
theorem none_bare {p : Nat → Bool} (hn : n ≤ 7) (hp : ∀ c, c < 2 ^ n → p c = false → ∃ i, i < n ∧ p (flip c i) = true) : ∀ x, x < 2 ^ n → 0 < tm n (filt p 0 (2 ^ n)) x := by
  intro x hx
  unfold tm
  cases g : p x with
  | true =>
    have : has (filt p 0 (2 ^ n)) x = 1 := by rw [has_set hx, if_pos g]
    omega
  | false =>
    obtain ⟨i, h1, h2⟩ := hp x hx g
    have hf := (rg hn h1 hx).2.1
    have h3 : has (filt p 0 (2 ^ n)) (flip x i) = 1 := by rw [has_set hf, if_pos h2]
    have := sumF_ge (g := fun i => has (filt p 0 (2 ^ n)) (flip x i)) n 0 i (by omega) (by omega)
    omega

/- each element covers one more than there are helpers -/
def covAll : Bool := (List.range 5).all fun n => (List.range (2 ^ n)).all fun c => sumF (cov n c) 0 (2 ^ n) == n + 1
theorem covAll_true : covAll = true := by decide +kernel
theorem cov_sum {n c : Nat} (hn : n ≤ 4) (hc : c < 2 ^ n) : sumF (cov n c) 0 (2 ^ n) = n + 1 := by
  have h1 := List.all_eq_true.1 covAll_true n (by simp; omega)
  have h2 := List.all_eq_true.1 h1 c (by simpa using hc)
  exact eq_of_beq h2

theorem tm_sum {n : Nat} (hn : n ≤ 4) : ∀ (s p : List Int) (last : Int), errC (2 ^ n) last s = 0 → (∀ y ∈ p, y ≤ last) → sumF (tm n (p ++ s)) 0 (2 ^ n) = sumF (tm n p) 0 (2 ^ n) + s.length * (n + 1)
  | [], p, last, _, _ => by simp
  | c :: s, p, last, h, hp => by
    simp only [errC] at h
    by_cases h1 : ¬ (0 ≤ c ∧ c < ((2 ^ n : Nat) : Int))
    · rw [if_pos h1] at h; cases h
    · rw [if_neg h1] at h
      by_cases h2 : c ≤ last
      · rw [if_pos h2] at h; cases h
      · rw [if_neg h2] at h
        have h1 := Decidable.not_not.1 h1
        obtain ⟨c, rfl⟩ := Int.eq_ofNat_of_zero_le h1.1
        have hni : (c : Int) ∉ p := fun q => by have := hp _ q; omega
        have ih := tm_sum hn s (p ++ [(c : Int)]) (c : Int) h (fun y hy => by
          rcases List.mem_append.1 hy with hy | hy
          · have := hp y hy; omega
          · have : y = (c : Int) := by simpa using hy
            omega)
        rw [List.append_assoc] at ih
        rw [show p ++ (c : Int) :: s = p ++ ([(c : Int)] ++ s) from rfl, ih]
        have e : sumF (tm n (p ++ [(c : Int)])) 0 (2 ^ n) = sumF (fun x => tm n p x + cov n c x) 0 (2 ^ n) := by
          apply sumF_congr
          intro x _ hx
          exact tm_snoc (by omega) hni (by omega) (by omega)
        rw [e, sumF_add, cov_sum hn (by omega), List.length_cons, Nat.add_mul]
        omega

theorem sumF_low {g : Nat → Nat} : ∀ m i, (∀ j, i ≤ j → j < i + m → 0 < g j) → m ≤ sumF g i m
  | 0, _, _ => by omega
  | m + 1, i, h => by
    have h1 := h i (by omega) (by omega)
    have h2 := sumF_low m (i + 1) fun j a b => h j (by omega) (by omega)
    simp only [sumF]; omega

theorem filt_not (p : Nat → Bool) : ∀ m i, (filt p i m).length + (filt (fun c => !p c) i m).length = m
  | 0, _ => rfl
  | m + 1, i => by
    have := filt_not p m (i + 1)
    simp only [filt, List.length_append]
    by_cases h : p i = true
    · simp [h]; omega
    · simp [h]; omega
end

/- what is looked at -/
def best (n : Nat) : List Int := if n = 1 then [0] else if n = 2 then [0, 1] else if n = 3 then [0, 7] else [0, 1, 14, 15]
def most (n : Nat) : Int := if n = 1 then 1 else if n = 2 then 2 else if n = 3 then 6 else 12

def lookBest (n : Nat) : Bool := f27 1000 n == some (best n, 0)
def lookMost (n : Nat) : Bool := f29 1000 n == some (most n, 0)
def lookAsc (n : Nat) : Bool := match f5_p8 1000 n (most n) (best n) 1000 0 with
  | some .c1 => true
  | _ => false
def lookPlan (n : Nat) : Bool := match f19 1000 n (best n) with
  | some (a, b, 0) => (match f32 1000 a b with | some (l, 0) => ((l.length : Nat) : Int) == most n | _ => false)
  | _ => false
def lookAll (n : Nat) : Bool := match f5_p15 1000 n (most n) 1000 1 0 with
  | some x => f5_p19 1000 n (most n) x 1000 0 0 == some (most n)
  | _ => false

theorem lookBest_true : ∀ n ∈ [1, 2, 3, 4], lookBest n = true := by decide +kernel
theorem lookMost_true : ∀ n ∈ [1, 2, 3, 4], lookMost n = true := by decide +kernel
theorem lookAsc_true : ∀ n ∈ [1, 2, 3, 4], lookAsc n = true := by decide +kernel
theorem lookPlan_true : ∀ n ∈ [1, 2, 3, 4], lookPlan n = true := by decide +kernel
theorem lookAll_true : ∀ n ∈ [1, 2], lookAll n = true := by decide +kernel
theorem best_bound : ∀ n ∈ [1, 2, 3, 4], (((best n).length : Nat) : Int) = ((2 ^ n : Nat) : Int) - most n ∧ (((best n).length : Nat) - 1) * (n + 1) < 2 ^ n := by decide +kernel

theorem f5_plain (x1 : Int) (ps : List Int) (h1 : 0 ≤ x1 ∧ x1 ≤ 255) (hps : ps.length = 32) (hb : ∀ x ∈ ps, 0 ≤ x ∧ x ≤ 255) : f5 1000 x1 ps = some true := by
  obtain ⟨n, s, e31, v, hn⟩ := f31_eq h1 hps hb (m := 4) (by omega)
  simp only [show ((4 : Nat) : Int) = 4 from rfl] at e31
  have hr := v.rng
  have hp := pw_le v.rng.2
  have hm : n ∈ [1, 2, 3, 4] := by simp; omega
  have hl := len_set (p := won s n) hr.2
  have hl' := len_set (p := fun c => !won s n c) hr.2
  have e1 : f34 1000 n (filt (won s n) 0 (2 ^ n)) = some true := by
    have := covered_p (p := won s n) hr (fun c hc h => lost_near v hc h) (2 ^ n) 0 1000 (by omega) (by omega)
    simp only [Int.natCast_zero] at this
    unfold f34
    rw [req_pos (by omega), this]; rfl
  have e2 := lost_p (p := won s n) hr (2 ^ n) 0 1000 [] (by omega) (by omega) (by simp)
  simp only [Int.natCast_zero, List.nil_append] at e2
  have hch : chkC n (filt (fun c => !won s n c) 0 (2 ^ n)) = 0 := chk_filt hr
  have e3 := f17_1_eq hl' (n : Int) hch
  rw [Int.toNat_natCast] at e3
  have hcov : ∀ x, x < 2 ^ n → 0 < tm n (filt (fun c => !won s n c) 0 (2 ^ n)) x := none_bare hr.2 fun c hc h => by
    obtain ⟨i, h2, h3⟩ := lost_near v hc (by simpa using h)
    exact ⟨i, h2, by simp [h3]⟩
  have e4 : filt (bareB n (filt (fun c => !won s n c) 0 (2 ^ n))) 0 (2 ^ n) = [] := by
    apply List.eq_nil_iff_forall_not_mem.2
    intro x hx
    obtain ⟨j, _, _, h3, h4⟩ := (mem_filt _ _).1 hx
    have := hcov j (by omega)
    simp [bareB] at h4
    omega
  have e5 : f29 1000 n = some (most n, 0) := eq_of_beq (lookMost_true n hm)
  have e6 : f27 1000 n = some (best n, 0) := eq_of_beq (lookBest_true n hm)
  have e7 : f5_p8 1000 n (most n) (best n) 1000 0 = some .c1 := by
    have := lookAsc_true n hm
    unfold lookAsc at this
    split at this
    · assumption
    · cases this
  obtain ⟨a, b, l, e8, e9, e10⟩ : ∃ a b l, f19 1000 n (best n) = some (a, b, 0) ∧ f32 1000 a b = some (l, 0) ∧ ((l.length : Nat) : Int) = most n := by
    have := lookPlan_true n hm
    unfold lookPlan at this
    split at this
    · rename_i a b h8
      split at this
      · rename_i l h9
        exact ⟨a, b, l, h8, h9, eq_of_beq this⟩
      · cases this
    · cases this
  obtain ⟨b1, b2⟩ := best_bound n hm
  have hsum := tm_sum hn (filt (fun c => !won s n c) 0 (2 ^ n)) [] (-1) (by have := hch; unfold chkC at this; rw [if_pos (by omega), Int.toNat_natCast] at this; exact this) (fun y hy => by cases hy)
  have h0 : sumF (tm n []) 0 (2 ^ n) = 0 := by
    have : ∀ m i, sumF (tm n []) i m = 0 := by
      intro m
      induction m with
      | zero => intro i; rfl
      | succ m ih => intro i; simp only [sumF]; rw [ih, tm_nil]
    exact this _ _
  rw [List.nil_append, h0, Nat.zero_add] at hsum
  have hlow := sumF_low (g := tm n (filt (fun c => !won s n c) 0 (2 ^ n))) (2 ^ n) 0 (fun j _ hj => hcov j (by omega))
  have hnot := filt_not (won s n) (2 ^ n) 0
  have hlen : (best n).length ≤ (filt (fun c => !won s n c) 0 (2 ^ n)).length := by
    rcases Nat.lt_or_ge (filt (fun c => !won s n c) 0 (2 ^ n)).length (best n).length with q | q
    · exfalso
      have : (filt (fun c => !won s n c) 0 (2 ^ n)).length * (n + 1) ≤ ((best n).length - 1) * (n + 1) := Nat.mul_le_mul_right _ (by omega)
      omega
    · exact q
  have hbl : -9223372036854775808 ≤ (((best n).length : Nat) : Int) ∧ (((best n).length : Nat) : Int) < 9223372036854775808 := by omega
  have hwl : ¬ (((filt (won s n) 0 (2 ^ n)).length : Nat) : Int) > most n := by omega
  unfold f5
  rw [e31]
  simp only [Option.bind_some]
  rw [f32_eq v, f33_eq v hn]
  simp only [Option.bind_some, bne_self_eq_false, Bool.false_eq_true, if_false]
  rw [f21_refl (by omega), e1]
  simp only [Option.bind_some, if_true]
  rw [req_pos (by omega), e2]
  simp only [Option.bind_some, take0]
  rw [e3, e4, e5, e6]
  simp only [Option.bind_some, bne_self_eq_false, Bool.false_eq_true, if_false, List.length_nil, Int.natCast_zero, decide_eq_false hwl]
  rw [if_neg (by simp), shl_eq hr.2, ← b1, w64_in hbl, if_neg (by simp), e7, e8]
  simp only [Option.bind_some]
  rw [e9]
  simp only [Option.bind_some, bne_self_eq_false, Bool.false_eq_true, if_false, e10]
  by_cases g : (n : Int) > 2
  · rw [if_pos (by simpa using g)]; simp [works]
  · have hall := lookAll_true n (by simp; omega)
    unfold lookAll at hall
    split at hall
    · rename_i x h15
      rw [if_neg (by simpa using g), req_pos (by rw [w64_in (by omega)]; omega), h15]
      simp only [Option.bind_some]
      rw [eq_of_beq hall]
      simp [works]
    · cases hall

end Go.Gh.Hat
