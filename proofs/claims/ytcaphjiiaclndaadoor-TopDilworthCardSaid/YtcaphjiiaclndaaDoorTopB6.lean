/- What is needed of the plain texts. -/
import Derived.Test.YtcaphjiiaclndaaDoorTop6N0
namespace Go.Gh.Top
set_option linter.unusedVariables false
set_option linter.unusedSimpArgs false

section
theorem nodup_sub_len : ∀ {l m : List Nat}, l.Nodup → (∀ x ∈ l, x ∈ m) → l.length ≤ m.length := by
  intro l
  induction l with
  | nil => intro m _ _; simp
  | cons x l ih =>
    intro m hn hs
    have hx := hs x (by simp)
    have h := ih (m := m.erase x) (List.nodup_cons.1 hn).2 fun y hy => by
      have hne : y ≠ x := fun e => (List.nodup_cons.1 hn).1 (e ▸ hy)
      exact (List.mem_erase_of_ne hne).2 (hs y (by simp [hy]))
    rw [List.length_erase_of_mem hx] at h
    have : 0 < m.length := List.length_pos_of_mem hx
    simp only [List.length_cons]; omega
theorem nodup_map {l : List Nat} {c : Nat → Nat} (hn : l.Nodup) (hc : ∀ x ∈ l, ∀ y ∈ l, c x = c y → x = y) : (l.map c).Nodup := by
  induction l with
  | nil => simp
  | cons x l ih =>
    rw [List.map_cons, List.nodup_cons]
    refine ⟨fun h => ?_, ih (List.nodup_cons.1 hn).2 fun a ha b hb => hc a (by simp [ha]) b (by simp [hb])⟩
    obtain ⟨y, hy, e⟩ := List.mem_map.1 h
    have := hc y (by simp [hy]) x (by simp) e
    subst this
    exact (List.nodup_cons.1 hn).1 hy
theorem all_below {l : List Nat} {k : Nat} (hn : l.Nodup) (hb : ∀ x ∈ l, x < k) (hl : k ≤ l.length) : ∀ i, i < k → i ∈ l := by
  intro i hi
  apply Classical.byContradiction
  intro h
  have := nodup_sub_len (m := (List.range k).erase i) hn fun y hy => by
    have hne : y ≠ i := fun e => h (e ▸ hy)
    exact (List.mem_erase_of_ne hne).2 (List.mem_range.2 (hb y hy))
  rw [List.length_erase_of_mem (List.mem_range.2 hi), List.length_range] at this
  omega
section
variable (R : Nat → Nat → Prop)
def Anti (l : List Nat) : Prop := l.Nodup ∧ ∀ x ∈ l, ∀ y ∈ l, ¬ R x y
variable {R} (tr : ∀ x y z, R x y → R y z → R x z) (ir : ∀ x, ¬ R x x)
include tr ir in
theorem top_of (S : Nat → Prop) : ∀ (n : Nat) (P : List Nat), P.length ≤ n → (∃ x ∈ P, S x) → ∃ x ∈ P, S x ∧ ∀ y ∈ P, S y → ¬ R x y := by
  intro n
  induction n with
  | zero => rintro P h ⟨x, hx, _⟩; cases P with | nil => cases hx | cons => simp at h
  | succ n ih =>
    rintro P h ⟨x, hx, hs⟩
    apply Classical.byContradiction
    intro hno
    have : ∃ y ∈ P, S y ∧ R x y := by
      apply Classical.byContradiction
      intro h2
      exact hno ⟨x, hx, hs, fun y hy hy2 hr => h2 ⟨y, hy, hy2, hr⟩⟩
    obtain ⟨y, hy, hys, hxy⟩ := this
    have hlen : (P.filter fun z => decide (z ≠ x)).length ≤ n := by
      have : (P.filter fun z => decide (z ≠ x)).length < P.length := List.length_filter_lt_length_iff_exists.2 ⟨x, hx, by simp⟩
      omega
    have hyx : y ≠ x := fun e => ir x (e ▸ hxy)
    classical
    obtain ⟨m, hm, hms, hmm⟩ := ih (P.filter fun z => decide (z ≠ x)) hlen ⟨y, List.mem_filter.2 ⟨hy, by simpa using hyx⟩, hys⟩
    have hmP := (List.mem_filter.1 hm).1
    refine hno ⟨m, hmP, hms, fun z hz hzs hmz => ?_⟩
    by_cases hzx : z = x
    · subst hzx
      exact hmm y (List.mem_filter.2 ⟨hy, by simpa using hyx⟩) hys (tr _ _ _ hmz hxy)
    · exact hmm z (List.mem_filter.2 ⟨hz, by simpa using hzx⟩) hzs hmz
include tr ir in
theorem dilworth : ∀ (n : Nat) (P : List Nat), P.length ≤ n → P.Nodup → ∀ k, (∀ A, (∀ x ∈ A, x ∈ P) → Anti R A → A.length ≤ k) →
    ∃ c : Nat → Nat, (∀ x ∈ P, c x < k) ∧ ∀ x ∈ P, ∀ y ∈ P, c x = c y → x = y ∨ R x y ∨ R y x := by
  classical
  intro n
  induction n with
  | zero =>
    intro P h _ k _
    cases P with
    | nil => exact ⟨fun _ => 0, by simp, by simp⟩
    | cons => simp at h
  | succ n ih =>
    intro P h hn k hk
    by_cases hP : P = []
    · subst hP; exact ⟨fun _ => 0, by simp, by simp⟩
    have hex : ∃ x ∈ P, True := by
      cases P with
      | nil => exact absurd rfl hP
      | cons x l => exact ⟨x, by simp, trivial⟩
    obtain ⟨a, ha, _, htop⟩ := top_of tr ir (fun _ => True) P.length P (Nat.le_refl _) hex
    have hk1 : 1 ≤ k := by
      have := hk [a] (by simpa using ha) ⟨by simp, by simpa using ir a⟩
      simpa using this
    let P' := P.filter fun z => decide (z ≠ a)
    have hP'P : ∀ x ∈ P', x ∈ P := fun x hx => (List.mem_filter.1 hx).1
    have hP'a : ∀ x ∈ P', x ≠ a := fun x hx => by simpa using (List.mem_filter.1 hx).2
    have hPP' : ∀ x ∈ P, x ≠ a → x ∈ P' := fun x hx h => List.mem_filter.2 ⟨hx, by simpa using h⟩
    have hlen' : P'.length ≤ n := by
      have : P'.length < P.length := List.length_filter_lt_length_iff_exists.2 ⟨a, ha, by simp⟩
      omega
    have hn' : P'.Nodup := hn.filter _
    by_cases hB : ∀ A, (∀ x ∈ A, x ∈ P') → Anti R A → A.length ≤ k - 1
    · -- a has a chain of its own
      obtain ⟨c, c1, c2⟩ := ih P' hlen' hn' (k - 1) hB
      refine ⟨fun x => if x = a then k - 1 else c x, fun x hx => ?_, fun x hx y hy e => ?_⟩
      · show (if x = a then k - 1 else c x) < k
        by_cases hxa : x = a
        · rw [if_pos hxa]; omega
        · rw [if_neg hxa]; have := c1 x (hPP' x hx hxa); omega
      · have e : (if x = a then k - 1 else c x) = (if y = a then k - 1 else c y) := e
        by_cases hxa : x = a <;> by_cases hya : y = a
        · exact .inl (hxa.trans hya.symm)
        · rw [if_pos hxa, if_neg hya] at e; have := c1 y (hPP' y hy hya); omega
        · rw [if_neg hxa, if_pos hya] at e; have := c1 x (hPP' x hx hxa); omega
        · rw [if_neg hxa, if_neg hya] at e; exact c2 x (hPP' x hx hxa) y (hPP' y hy hya) e
    · -- some antichain of k without a
      have hk' : ∀ A, (∀ x ∈ A, x ∈ P') → Anti R A → A.length ≤ k := fun A h1 h2 => hk A (fun x hx => hP'P x (h1 x hx)) h2
      obtain ⟨c, c1, c2⟩ := ih P' hlen' hn' k hk'
      have hB : ∃ B, (∀ x ∈ B, x ∈ P') ∧ Anti R B ∧ k ≤ B.length := by
        apply Classical.byContradiction
        intro hno
        refine hB fun A h1 h2 => ?_
        apply Classical.byContradiction
        intro h3
        exact hno ⟨A, h1, h2, by omega⟩
      -- an antichain of k has one of each colour
      have each : ∀ B, (∀ x ∈ B, x ∈ P') → Anti R B → k ≤ B.length → ∀ i, i < k → ∃ x ∈ B, c x = i := by
        intro B h1 h2 h3 i hi
        have hm : (B.map c).Nodup := nodup_map h2.1 fun x hx y hy e => by
          rcases c2 x (h1 x hx) y (h1 y hy) e with h | h | h
          · exact h
          · exact absurd h (h2.2 x hx y hy)
          · exact absurd h (h2.2 y hy x hx)
        have := all_below hm (fun z hz => by obtain ⟨x, hx, rfl⟩ := List.mem_map.1 hz; exact c1 x (h1 x hx)) (by simpa using h3) i hi
        obtain ⟨x, hx, e⟩ := List.mem_map.1 this
        exact ⟨x, hx, e⟩
      let Q : Nat → Prop := fun x => ∃ B, (∀ z ∈ B, z ∈ P') ∧ Anti R B ∧ k ≤ B.length ∧ x ∈ B
      -- the highest one of each colour in such an antichain
      have hx : ∀ i, ∃ x, i < k → x ∈ P' ∧ (c x = i ∧ Q x) ∧ ∀ y ∈ P', c y = i ∧ Q y → ¬ R x y := by
        intro i
        by_cases hi : i < k
        · obtain ⟨B, h1, h2, h3⟩ := hB
          obtain ⟨x, hx, e⟩ := each B h1 h2 h3 i hi
          obtain ⟨m, g1, g2, g3⟩ := top_of tr ir (fun x => c x = i ∧ Q x) P'.length P' (Nat.le_refl _) ⟨x, h1 x hx, e, B, h1, h2, h3, hx⟩
          exact ⟨m, fun _ => ⟨g1, g2, g3⟩⟩
        · exact ⟨0, fun h => absurd h hi⟩
      let X : Nat → Nat := fun i => Classical.choose (hx i)
      have hX : ∀ i, i < k → X i ∈ P' ∧ (c (X i) = i ∧ Q (X i)) ∧ ∀ y ∈ P', c y = i ∧ Q y → ¬ R (X i) y := fun i hi => Classical.choose_spec (hx i) hi
      -- who is of its colour and in such an antichain is not above it
      have low : ∀ i, i < k → ∀ y ∈ P', c y = i → Q y → y = X i ∨ R y (X i) := by
        intro i hi y hy hc hq
        obtain ⟨g1, ⟨g2, g3⟩, g4⟩ := hX i hi
        rcases c2 y hy (X i) g1 (hc.trans g2.symm) with h | h | h
        · exact .inl h
        · exact .inr h
        · exact absurd h (g4 y hy ⟨hc, hq⟩)
      have anti : ∀ i, i < k → ∀ j, j < k → ¬ R (X i) (X j) := by
        intro i hi j hj hr
        obtain ⟨g1, ⟨g2, B, b1, b2, b3, b4⟩, g4⟩ := hX j hj
        obtain ⟨y, hy, hyc⟩ := each B b1 b2 b3 i hi
        have : R y (X j) := by
          rcases low i hi y (b1 y hy) hyc ⟨B, b1, b2, b3, hy⟩ with h | h
          · rw [h]; exact hr
          · exact tr _ _ _ h hr
        exact b2.2 y hy (X j) b4 this
      have hcmp : ∃ i, i < k ∧ R (X i) a := by
        apply Classical.byContradiction
        intro hno
        have hinj : ∀ i ∈ List.range k, ∀ j ∈ List.range k, X i = X j → i = j := fun i hi j hj e => by
          have h1 := (hX i (List.mem_range.1 hi)).2.1.1
          have h2 := (hX j (List.mem_range.1 hj)).2.1.1
          rw [← h1, ← h2, e]
        have hna : a ∉ (List.range k).map X := fun hm => by
          obtain ⟨i, hi, e⟩ := List.mem_map.1 hm
          exact hP'a _ (hX i (List.mem_range.1 hi)).1 e
        have := hk (a :: (List.range k).map X) (fun x hx => by
          rcases List.mem_cons.1 hx with rfl | hx
          · exact ha
          · obtain ⟨i, hi, rfl⟩ := List.mem_map.1 hx
            exact hP'P _ (hX i (List.mem_range.1 hi)).1) ⟨List.nodup_cons.2 ⟨hna, nodup_map List.nodup_range hinj⟩, fun x hx y hy hr => by
          rcases List.mem_cons.1 hx with rfl | hx <;> rcases List.mem_cons.1 hy with rfl | hy
          · exact ir _ hr
          · obtain ⟨j, hj, rfl⟩ := List.mem_map.1 hy
            exact htop _ (hP'P _ (hX j (List.mem_range.1 hj)).1) trivial hr
          · obtain ⟨i, hi, rfl⟩ := List.mem_map.1 hx
            exact hno ⟨i, List.mem_range.1 hi, hr⟩
          · obtain ⟨i, hi, rfl⟩ := List.mem_map.1 hx
            obtain ⟨j, hj, rfl⟩ := List.mem_map.1 hy
            exact anti i (List.mem_range.1 hi) j (List.mem_range.1 hj) hr⟩
        simp at this; omega
      obtain ⟨i, hi, hia⟩ := hcmp
      let K : Nat → Prop := fun x => x = a ∨ (x ∈ P' ∧ c x = i ∧ (x = X i ∨ R x (X i)))
      let P2 := P.filter fun z => decide (¬ K z)
      have hP2 : ∀ x, x ∈ P2 ↔ x ∈ P ∧ ¬ K x := fun x => by simp [P2, List.mem_filter]
      have hlen2 : P2.length ≤ n := by
        have : P2.length < P.length := List.length_filter_lt_length_iff_exists.2 ⟨a, ha, by simp [K]⟩
        omega
      have hk2 : ∀ A, (∀ x ∈ A, x ∈ P2) → Anti R A → A.length ≤ k - 1 := by
        intro A h1 h2
        apply Classical.byContradiction
        intro h3
        have hA' : ∀ x ∈ A, x ∈ P' := fun x hx => by
          obtain ⟨g1, g2⟩ := (hP2 x).1 (h1 x hx)
          exact hPP' x g1 fun e => g2 (.inl e)
        obtain ⟨z, hz, hzc⟩ := each A hA' h2 (by omega) i hi
        exact ((hP2 z).1 (h1 z hz)).2 (.inr ⟨hA' z hz, hzc, low i hi z (hA' z hz) hzc ⟨A, hA', h2, by omega, hz⟩⟩)
      obtain ⟨d, d1, d2⟩ := ih P2 hlen2 (hn.filter _) (k - 1) hk2
      have up : ∀ x, K x → x = a ∨ R x a := by
        rintro x (h | ⟨_, _, h | h⟩)
        · exact .inl h
        · exact .inr (h ▸ hia)
        · exact .inr (tr _ _ _ h hia)
      refine ⟨fun x => if K x then k - 1 else d x, fun x hx => ?_, fun x hx y hy e => ?_⟩
      · show (if K x then k - 1 else d x) < k
        by_cases hK : K x
        · rw [if_pos hK]; omega
        · rw [if_neg hK]; have := d1 x ((hP2 x).2 ⟨hx, hK⟩); omega
      · have e : (if K x then k - 1 else d x) = (if K y then k - 1 else d y) := e
        by_cases hKx : K x <;> by_cases hKy : K y
        · rcases up x hKx with hxa | hxa <;> rcases up y hKy with hya | hya
          · exact .inl (hxa.trans hya.symm)
          · exact .inr (.inr (hxa ▸ hya))
          · exact .inr (.inl (hya ▸ hxa))
          · rcases hKx with h | ⟨x1, x2, _⟩
            · exact absurd (h ▸ hxa) (ir a)
            rcases hKy with h | ⟨y1, y2, _⟩
            · exact absurd (h ▸ hya) (ir a)
            exact c2 x x1 y y1 (x2.trans y2.symm)
        · rw [if_pos hKx, if_neg hKy] at e; have := d1 y ((hP2 y).2 ⟨hy, hKy⟩); omega
        · rw [if_neg hKx, if_pos hKy] at e; have := d1 x ((hP2 x).2 ⟨hx, hKx⟩); omega
        · rw [if_neg hKx, if_neg hKy] at e; exact d2 x ((hP2 x).2 ⟨hx, hKx⟩) y ((hP2 y).2 ⟨hy, hKy⟩) e
end
end
section
theorem w64_in {n : Int} (h : -9223372036854775808 ≤ n ∧ n ≤ 9223372036854775807) : w64 n = n := by
  simp only [w64, IntKind.wrap, IntKind.signed, IntKind.bits]
  simp
  omega
theorem w64_succ {n : Nat} (h : n < 1000000000) : w64 ((n : Int) + 1) = ((n + 1 : Nat) : Int) := by rw [w64_in (by omega)]; omega
theorem req_pos {α : Type} {p : Prop} [Decidable p] {x : Option α} (h : p) : req p x = x := by unfold req; rw [if_pos h]
theorem at_of {α : Type} {l : List α} {i : Nat} {x : α} (h : l[i]? = some x) : at? l ((i : Nat) : Int) = some x := by
  unfold at?; simp [h]
def tab (N : Nat) (g : Nat → Nat) : List Int := (List.range N).map fun i => (g i : Int)
theorem tab_len (N : Nat) (g : Nat → Nat) : (tab N g).length = N := by simp [tab]
theorem tab_get {N i : Nat} (g : Nat → Nat) (h : i < N) : (tab N g)[i]? = some (g i : Int) := by
  unfold tab
  rw [List.getElem?_map, List.getElem?_range h]; rfl
theorem tab_congr {N : Nat} {g h : Nat → Nat} (e : ∀ y, y < N → g y = h y) : tab N g = tab N h :=
  List.map_congr_left fun y hy => by rw [e y (List.mem_range.1 hy)]
theorem tab_set {N i : Nat} (g : Nat → Nat) (v : Nat) : (tab N g).set i (v : Int) = tab N (fun y => if y = i then v else g y) := by
  apply List.ext_getElem?
  intro k
  by_cases hk : k < N
  · rw [tab_get _ hk, List.getElem?_set, tab_len]
    by_cases h : i = k
    · subst h; simp [hk]
    · rw [if_neg h, tab_get _ hk, if_neg (fun e => h e.symm)]
  · rw [List.getElem?_eq_none (by simp [tab_len]; omega), List.getElem?_eq_none (by simp [tab_len]; omega)]
theorem tab_zero (N : Nat) : List.replicate N (0 : Int) = tab N (fun _ => 0) := by
  apply List.ext_getElem?
  intro k
  by_cases hk : k < N
  · rw [tab_get _ hk, List.getElem?_replicate, if_pos hk]; rfl
  · rw [List.getElem?_eq_none (by simp; omega), List.getElem?_eq_none (by simp [tab_len]; omega)]
theorem and_byte (a b : Fin 256) : (iAnd .u8 (a.val : Int) (b.val : Int) == 0) = (a.val &&& b.val == 0) := by
  have e : iAnd .u8 (a.val : Int) (b.val : Int) = ((a.val &&& b.val : Nat) : Int) := by
    have h1 : a.val &&& b.val ≤ a.val := Nat.and_le_left
    show IntKind.u8.wrap (((BitVec.ofInt 8 (a.val : Int) &&& BitVec.ofInt 8 (b.val : Int)).toNat : Nat) : Int) = _
    rw [BitVec.ofInt_natCast, BitVec.ofInt_natCast, BitVec.toNat_and, BitVec.toNat_ofNat, BitVec.toNat_ofNat, Nat.mod_eq_of_lt (show a.val < 2 ^ 8 from a.isLt), Nat.mod_eq_of_lt (show b.val < 2 ^ 8 from b.isLt)]
    have h2 : a.val &&& b.val < 256 := by have := a.isLt; omega
    generalize a.val &&& b.val = q at *
    simp only [IntKind.wrap, IntKind.signed, IntKind.bits]
    simp
    omega
  rw [e]
  by_cases h : a.val &&& b.val = 0
  · rw [h]; rfl
  · have h2 : ((a.val &&& b.val : Nat) : Int) ≠ 0 := by omega
    rw [beq_eq_false_iff_ne.2 h, beq_eq_false_iff_ne.2 h2]
theorem or_bit : ∀ (a : Fin 256) (x : Fin 8), iOr .u8 (a.val : Int) (iShl .u8 1 (x.val : Int)) = ((a.val ||| 2 ^ x.val : Nat) : Int) := by decide +kernel
theorem andNot_bit : ∀ (a : Fin 256) (x : Fin 8), iAndNot .u8 (a.val : Int) (iShl .u8 1 (x.val : Int)) = ((a.val &&& (255 - 2 ^ x.val) : Nat) : Int) := by decide +kernel
theorem bits_or : ∀ (a : Fin 256) (x y : Fin 8), (a.val ||| 2 ^ x.val).testBit y.val = (a.val.testBit y.val || decide (y = x)) := by decide +kernel
theorem bits_andNot : ∀ (a : Fin 256) (x y : Fin 8), (a.val &&& (255 - 2 ^ x.val)).testBit y.val = (a.val.testBit y.val && decide (y ≠ x)) := by decide +kernel
theorem lt_or : ∀ (a : Fin 256) (x : Fin 8), a.val ||| 2 ^ x.val < 256 := by decide +kernel
theorem lt_andNot : ∀ (a : Fin 256) (x : Fin 8), a.val &&& (255 - 2 ^ x.val) < 256 := by decide +kernel
theorem and_zero (a b : Fin 256) : (a.val &&& b.val = 0) ↔ ∀ i, i < 8 → ¬ (a.val.testBit i = true ∧ b.val.testBit i = true) := by
  constructor
  · intro h i _ hab
    have := congrArg (fun n => n.testBit i) h
    simp only [Nat.testBit_and, Nat.zero_testBit, hab.1, hab.2] at this
    cases this
  · intro h
    apply Nat.eq_of_testBit_eq
    intro i
    rw [Nat.testBit_and, Nat.zero_testBit]
    by_cases hi : i < 8
    · have := h i hi
      cases h1 : a.val.testBit i <;> cases h2 : b.val.testBit i <;> simp_all
    · have : a.val < 2 ^ i := Nat.lt_of_lt_of_le a.isLt (show 2 ^ 8 ≤ 2 ^ i from Nat.pow_le_pow_right (by omega) (by omega))
      rw [Nat.testBit_lt_two_pow this]; rfl
def fits (w M : Nat → Nat) (x j : Nat) : Prop := M j &&& w x = 0
theorem f72_p5_eq {F k n : Nat} (hn : n ≤ 8) {w M : Nat → Nat} (hw : ∀ x, w x < 256) (hM : ∀ j, M j < 256) {x : Nat} (hx : x < n) : ∀ (d : Nat) (c : Nat → Nat) (fu : Nat), c x ≤ k → k - c x = d → d < fu → k ≤ 8 →
    ∃ j, c x ≤ j ∧ j ≤ k ∧ (∀ i, c x ≤ i → i < j → ¬ fits w M x i) ∧ (j < k → fits w M x j) ∧
      f72_p5_1 F 0 k k n x (tab 8 w) (tab k M) fu (tab n c) = some (tab n (fun y => if y = x then j else c y)) := by
  intro d
  induction d with
  | zero =>
    intro c fu h1 h2 h3 h4
    refine ⟨c x, Nat.le_refl _, h1, fun i a b => by omega, fun h => by omega, ?_⟩
    cases fu with
    | zero => omega
    | succ fu =>
      unfold f72_p5_1
      rw [req_pos (by omega), Int.toNat_natCast, Nat.zero_add, tab_get _ hx, Option.bind_some, if_neg (by simp; omega)]
      exact congrArg some (tab_congr fun y _ => by by_cases h : y = x; rw [if_pos h, h]; rw [if_neg h])
  | succ d ih =>
    intro c fu h1 h2 h3 h4
    cases fu with
    | zero => omega
    | succ fu =>
      unfold f72_p5_1
      rw [req_pos (by omega), Int.toNat_natCast, Nat.zero_add, tab_get _ hx, Option.bind_some, if_pos (by simp; omega), req_pos (by omega), Int.toNat_natCast, Nat.zero_add, tab_get _ (by omega), Option.bind_some, req_pos (by omega), Nat.mul_one, Nat.zero_add, tab_get _ (by omega), Option.bind_some, and_byte ⟨M (c x), hM _⟩ ⟨w x, hw _⟩]
      show ∃ j, _ ∧ _ ∧ _ ∧ _ ∧ (if (M (c x) &&& w x == 0) = true then _ else _) = _
      by_cases hf : M (c x) &&& w x = 0
      · refine ⟨c x, Nat.le_refl _, h1, fun i a b => by omega, fun _ => hf, ?_⟩
        rw [if_pos (by simpa using hf)]
        exact congrArg some (tab_congr fun y _ => by by_cases h : y = x; rw [if_pos h, h]; rw [if_neg h])
      · obtain ⟨j, g1, g2, g3, g4, g5⟩ := ih (fun y => if y = x then c x + 1 else c y) fu (by rw [if_pos rfl]; omega) (by rw [if_pos rfl]; omega) (by omega) h4
        rw [if_pos rfl] at g1
        refine ⟨j, by omega, g2, fun i a b => ?_, g4, ?_⟩
        · by_cases hi : i = c x
          · rw [hi]; exact hf
          · exact g3 i (by rw [if_pos rfl]; omega) b
        · rw [if_neg (by simpa using hf), req_pos (by rw [tab_len]; omega), w64_succ (by omega), tab_set, g5]
          exact congrArg some (tab_congr fun y _ => by by_cases h : y = x; rw [if_pos h, if_pos h]; rw [if_neg h, if_neg h, if_neg h])
end
section
theorem byte_ext {a b : Nat} (ha : a < 256) (hb : b < 256) (h : ∀ i, i < 8 → a.testBit i = b.testBit i) : a = b := by
  apply Nat.eq_of_testBit_eq
  intro i
  by_cases hi : i < 8
  · exact h i hi
  · have e : 2 ^ 8 ≤ 2 ^ i := Nat.pow_le_pow_right (by omega) (by omega)
    rw [Nat.testBit_lt_two_pow (by omega), Nat.testBit_lt_two_pow (by omega)]
structure Inv (w : Nat → Nat) (k p : Nat) (M c : Nat → Nat) : Prop where
  lt : ∀ j, M j < 256
  bit : ∀ j, j < k → ∀ y, y < 8 → (M j).testBit y = decide (y < p ∧ c y = j)
  col : ∀ y, y < p → c y < k
  ok : ∀ x, x < p → ∀ y, y < p → c x = c y → (w x).testBit y = false
structure Goes (w : Nat → Nat) (k n p : Nat) (c : Nat → Nat) (lo : Nat) (g : Nat → Nat) : Prop where
  col : ∀ y, y < n → g y < k
  ok : ∀ x, x < n → ∀ y, y < n → g x = g y → (w x).testBit y = false
  old : ∀ y, y < p → g y = c y
  low : lo ≤ g p
def Eb : Nat → Nat
  | 0 => 1
  | r + 1 => 9 * (1 + Eb r)
def Tb : Nat → Nat → Nat
  | 0, _ => 1
  | r + 1, m => (m + 1) * (1 + Eb r)
theorem Tb_le (r : Nat) {m : Nat} (h : m ≤ 8) : Tb r m ≤ Eb r := by
  cases r with
  | zero => exact Nat.le_refl _
  | succ r => exact Nat.mul_le_mul_right _ (by omega)
section
variable {w : Nat → Nat} {k n : Nat} (hw : ∀ x, w x < 256) (sy : ∀ x y, x < 8 → y < 8 → (w x).testBit y = (w y).testBit x) (irr : ∀ x, x < 8 → (w x).testBit x = false) (hk : 1 ≤ k ∧ k ≤ 8) (hn : n ≤ 8)
include hw hn in
theorem not_fits {p : Nat} {M c : Nat → Nat} (hI : Inv w k p M c) {x j : Nat} (hx : x < n) (hj : j < k) (h : ¬ fits w M x j) : ∃ y, y < p ∧ c y = j ∧ (w x).testBit y = true := by
  have _ := hn
  apply Classical.byContradiction
  intro hno
  refine h ((and_zero ⟨M j, hI.lt j⟩ ⟨w x, hw x⟩).2 fun i hi hb => ?_)
  have h1 : (M j).testBit i = true := hb.1
  rw [hI.bit j hj i hi] at h1
  have := of_decide_eq_true h1
  exact hno ⟨i, this.1, this.2, hb.2⟩
include hw hn sy irr in
theorem Inv.put {p : Nat} {M c : Nat → Nat} (hI : Inv w k p M c) (hp : p < n) {j : Nat} (hj : j < k) (hf : fits w M p j) :
    Inv w k (p + 1) (fun i => if i = j then M j ||| 2 ^ p else M i) (fun y => if y = p then j else c y) := by
  have hq : ∀ y, y < p → c y = j → (w p).testBit y = false := by
    intro y hy hc
    have h1 := (and_zero ⟨M j, hI.lt j⟩ ⟨w p, hw p⟩).1 hf y (by omega)
    have h2 : (M j).testBit y = true := by rw [hI.bit j hj y (by omega)]; exact decide_eq_true ⟨hy, hc⟩
    cases h3 : (w p).testBit y with
    | false => rfl
    | true => exact absurd ⟨h2, h3⟩ h1
  refine ⟨fun i => ?_, fun i hi y hy => ?_, fun y hy => ?_, fun x hx y hy e => ?_⟩
  · show (if i = j then M j ||| 2 ^ p else M i) < 256
    split
    · exact lt_or ⟨M j, hI.lt j⟩ ⟨p, by omega⟩
    · exact hI.lt i
  · show (if i = j then M j ||| 2 ^ p else M i).testBit y = _
    by_cases hij : i = j
    · subst hij
      rw [if_pos rfl]
      have := bits_or ⟨M i, hI.lt i⟩ ⟨p, by omega⟩ ⟨y, hy⟩
      simp only [Fin.mk.injEq] at this
      rw [this, hI.bit i hi y hy]
      by_cases hyp : y = p
      · subst hyp; simp
      · simp only [hyp, decide_false, Bool.or_false, if_false]
        exact decide_eq_decide.2 (by omega)
    · rw [if_neg hij, hI.bit i hi y hy]
      by_cases hyp : y = p
      · subst hyp
        simp only [if_true]
        exact decide_eq_decide.2 (by omega)
      · simp only [hyp, if_false]
        exact decide_eq_decide.2 (by omega)
  · show (if y = p then j else c y) < k
    by_cases h : y = p
    · rw [if_pos h]; exact hj
    · rw [if_neg h]; exact hI.col y (by omega)
  · have e2 : (if x = p then j else c x) = (if y = p then j else c y) := e
    clear e
    by_cases h1 : x = p <;> by_cases h2 : y = p
    · rw [h1, h2]; exact irr p (by omega)
    · rw [if_pos h1, if_neg h2] at e2; rw [h1]; exact hq y (by omega) e2.symm
    · rw [if_neg h1, if_pos h2] at e2; rw [h2, sy x p (by omega) (by omega)]; exact hq x (by omega) e2
    · rw [if_neg h1, if_neg h2] at e2; exact hI.ok x (by omega) y (by omega) e2
theorem round_fit {F : Nat} {p j : Nat} {M c : Nat → Nat} (hp : p < n) (hn : n ≤ 8) (hM : ∀ j, M j < 256) (hj : j < k) (e5 : f72_p5_1 F 0 k k n p (tab 8 w) (tab k M) F (tab n c) = some (tab n (fun y => if y = p then j else c y))) (fu : Nat) :
    f72_p1 F 0 k k n (tab 8 w) (fu + 1) p (tab k M) (tab n c) = f72_p1 F 0 k k n (tab 8 w) fu (p + 1 : Nat) (tab k (fun i => if i = j then M j ||| 2 ^ p else M i)) (tab n (fun y => if y = p then j else c y)) := by
  rw [f72_p1, if_pos (by simp; omega), e5, Option.bind_some, req_pos (by omega), Int.toNat_natCast, Nat.zero_add, tab_get _ hp, Option.bind_some, if_pos rfl, if_pos (by simp; omega), req_pos (by omega), Int.toNat_natCast, Nat.zero_add, tab_get _ hj, Option.bind_some, req_pos (by omega), req_pos (by rw [tab_len]; omega), w64_succ (by omega)]
  have := or_bit ⟨M j, hM j⟩ ⟨p, by omega⟩
  simp only at this
  rw [this, tab_set]
theorem round_back {F : Nat} {p : Nat} {M c : Nat → Nat} (hp : p + 1 < n) (hn : n ≤ 8) (hM : ∀ j, M j < 256) (hc : c p < k) (hk : k ≤ 8) (e5 : f72_p5_1 F 0 k k n (p + 1 : Nat) (tab 8 w) (tab k M) F (tab n c) = some (tab n (fun y => if y = p + 1 then k else c y))) (fu : Nat) :
    f72_p1 F 0 k k n (tab 8 w) (fu + 1) (p + 1 : Nat) (tab k M) (tab n c) = f72_p1 F 0 k k n (tab 8 w) fu p (tab k (fun i => if i = c p then M (c p) &&& (255 - 2 ^ p) else M i)) (tab n (fun y => if y = p then c p + 1 else if y = p + 1 then 0 else c y)) := by
  have hne : ¬ (((p + 1 : Nat) : Int) == 0) = true := by simp; omega
  have ew : w64 (((p + 1 : Nat) : Int) - 1) = (p : Int) := by rw [w64_in (by omega)]; omega
  have hset : List.set (tab n (fun y => if y = p + 1 then k else c y)) (p + 1) (0 : Int) = tab n (fun y => if y = p + 1 then 0 else c y) := by
    rw [show (0 : Int) = ((0 : Nat) : Int) from rfl, tab_set]
    exact tab_congr fun y _ => by by_cases h : y = p + 1; rw [if_pos h, if_pos h]; rw [if_neg h, if_neg h, if_neg h]
  rw [f72_p1, if_pos (by simp; omega), e5, Option.bind_some, req_pos (by omega), Int.toNat_natCast, Nat.zero_add, tab_get _ hp, Option.bind_some, if_pos rfl, if_neg (by simp), req_pos (by rw [tab_len]; omega), if_neg hne, ew, req_pos (by omega), hset, Int.toNat_natCast, Nat.zero_add, tab_get _ (by omega), Option.bind_some, if_neg (by omega), req_pos (by omega), Int.toNat_natCast, Nat.zero_add, tab_get _ hc, Option.bind_some, req_pos (by omega), req_pos (by rw [tab_len]; omega), req_pos (by rw [tab_len]; omega)]
  have := andNot_bit ⟨M (c p), hM _⟩ ⟨p, by omega⟩
  simp only at this
  rw [this, tab_set, w64_succ (by omega), tab_set]
theorem round_none {F : Nat} {M c : Nat → Nat} (hp : 0 < n) (hn : n ≤ 8) (e5 : f72_p5_1 F 0 k k n (0 : Nat) (tab 8 w) (tab k M) F (tab n c) = some (tab n (fun y => if y = 0 then k else c y))) (fu : Nat) :
    f72_p1 F 0 k k n (tab 8 w) (fu + 1) (0 : Nat) (tab k M) (tab n c) = some (.c0 (tab k M)) := by
  rw [f72_p1, if_pos (by simp; omega), e5, Option.bind_some, req_pos (by omega), Int.toNat_natCast, Nat.zero_add, tab_get _ hp, Option.bind_some, if_pos rfl, if_neg (by simp), req_pos (by rw [tab_len]; omega), if_pos (by rfl)]
end
end
section
section
variable {w : Nat → Nat} {k n : Nat} (hw : ∀ x, w x < 256) (sy : ∀ x y, x < 8 → y < 8 → (w x).testBit y = (w y).testBit x) (irr : ∀ x, x < 8 → (w x).testBit x = false) (hk : k ≤ 8) (hn : n ≤ 8)
def Ends (F : Nat) (w : Nat → Nat) (k n p : Nat) (M c : Nat → Nat) (d : Nat) : Prop :=
  (∃ M' c', Inv w k n M' c' ∧ ∀ fu, f72_p1 F 0 k k n (tab 8 w) (fu + d) p (tab k M) (tab n c) = some (.c1 (tab k M') (tab n c'))) ∨
  ((¬ ∃ g, Goes w k n p c (c p) g) ∧ p < n ∧
    ((p = 0 ∧ ∀ fu, ∃ X, f72_p1 F 0 k k n (tab 8 w) (fu + d) p (tab k M) (tab n c) = some (.c0 X)) ∨
     ∃ p', p = p' + 1 ∧ ∀ fu, f72_p1 F 0 k k n (tab 8 w) (fu + d) p (tab k M) (tab n c) = f72_p1 F 0 k k n (tab 8 w) fu p' (tab k (fun i => if i = c p' then M (c p') &&& (255 - 2 ^ p') else M i)) (tab n (fun y => if y = p' then c p' + 1 else if y = p' + 1 then 0 else c y))))
include hw sy irr hk hn in
theorem search {F : Nat} (hF : 10 ≤ F) : ∀ (r p : Nat), n = p + r → ∀ (m : Nat) (M c : Nat → Nat), Inv w k p M c → (∀ y, p < y → y < n → c y = 0) → (p < n → c p ≤ k ∧ k - c p = m) →
    ∃ d, d ≤ Tb r m ∧ Ends F w k n p M c d := by
  intro r
  induction r with
  | zero =>
    intro p hp m M c hI _ _
    refine ⟨1, Nat.le_refl _, .inl ⟨M, c, by rw [hp]; simpa using hI, fun fu => ?_⟩⟩
    rw [f72_p1, if_neg (by simp; omega)]
  | succ r ihr =>
    intro p hpr m
    have hp : p < n := by omega
    induction m using Nat.strongRecOn with
    | ind m ihm =>
    intro M c hI h0 hc
    obtain ⟨hc1, hc2⟩ := hc hp
    obtain ⟨j, a1, a2, a3, a4, a5⟩ := f72_p5_eq (F := F) (k := k) hn hw hI.lt hp m c F hc1 hc2 (by omega) hk
    have low : ∀ g, Goes w k n p c (c p) g → j ≤ g p := by
      intro g hg
      apply Classical.byContradiction
      intro hlt
      have hgk := hg.col p hp
      obtain ⟨y, y1, y2, y3⟩ := not_fits hw hn hI hp (j := g p) hgk (a3 _ hg.low (by omega))
      have := hg.ok p hp y (by omega) (by rw [hg.old y y1, y2])
      rw [this] at y3; cases y3
    have hT : Tb (r + 1) m = (m + 1) * (1 + Eb r) := rfl
    by_cases hjk : j = k
    · subst hjk
      refine ⟨1, by rw [hT]; exact Nat.le_trans (by omega : 1 ≤ 1 * (1 + Eb r)) (Nat.mul_le_mul_right _ (by omega)), .inr ⟨?_, hp, ?_⟩⟩
      · rintro ⟨g, hg⟩
        have h1 := low g hg
        have h2 := hg.col p hp
        omega
      · cases p with
        | zero => exact .inl ⟨rfl, fun fu => ⟨_, round_none hp hn a5 fu⟩⟩
        | succ p' => exact .inr ⟨p', rfl, fun fu => round_back hp hn hI.lt (hI.col p' (by omega)) hk a5 fu⟩
    · have hj : j < k := by omega
      have hI2 := hI.put hw sy irr hn hp hj (a4 hj)
      have step := fun fu => round_fit (F := F) (w := w) hp hn hI.lt hj a5 fu
      obtain ⟨d2, b1, b2⟩ := ihr (p + 1) (by omega) k _ _ hI2 (fun y h1 h2 => by rw [if_neg (by omega)]; exact h0 y (by omega) h2) (fun h => by rw [if_neg (by omega), h0 (p + 1) (by omega) h]; omega)
      have b3 := Nat.le_trans b1 (Tb_le r hk)
      rcases b2 with ⟨M', c', g1, g2⟩ | ⟨g1, g2, g3⟩
      · refine ⟨d2 + 1, ?_, .inl ⟨M', c', g1, fun fu => ?_⟩⟩
        · rw [hT]; exact Nat.le_trans (by omega : d2 + 1 ≤ 1 * (1 + Eb r)) (Nat.mul_le_mul_right _ (by omega))
        · rw [← Nat.add_assoc, step, g2]
      · rcases g3 with ⟨h, _⟩ | ⟨p', hp', g4⟩
        · omega
        obtain rfl : p' = p := by omega
        -- back at p with the next room
        let c4 : Nat → Nat := fun y => if y = p' then j + 1 else c y
        have e4 : c4 p' = j + 1 := if_pos rfl
        have o4 : ∀ y, y ≠ p' → c4 y = c y := fun y h => if_neg h
        have hI4 : Inv w k p' M c4 := ⟨hI.lt, fun i hi y hy => by
            rw [hI.bit i hi y hy]
            by_cases h : y = p'
            · subst h; simp
            · rw [o4 y h], fun y hy => by rw [o4 y (by omega)]; exact hI.col y hy, fun x hx y hy e => by
            rw [o4 x (by omega), o4 y (by omega)] at e; exact hI.ok x hx y hy e⟩
        obtain ⟨d3, fa1, fa2⟩ := ihm (k - (j + 1)) (by omega) M c4 hI4 (fun y h1 h2 => by rw [o4 y (by omega)]; exact h0 y h1 h2) (fun _ => by rw [e4]; omega)
        have hback : ∀ fu, f72_p1 F 0 k k n (tab 8 w) (fu + d2 + 1) p' (tab k M) (tab n c) = f72_p1 F 0 k k n (tab 8 w) fu p' (tab k M) (tab n c4) := by
          intro fu
          rw [step, g4]
          have t1 : tab k (fun i => if i = (if p' = p' then j else c p') then (if (if p' = p' then j else c p') = j then M j ||| 2 ^ p' else M (if p' = p' then j else c p')) &&& (255 - 2 ^ p') else if i = j then M j ||| 2 ^ p' else M i) = tab k M := by
            refine tab_congr fun i hi => ?_
            simp only [if_true]
            by_cases h : i = j
            · rw [if_pos h, h]
              refine byte_ext (lt_andNot ⟨M j ||| 2 ^ p', lt_or ⟨M j, hI.lt j⟩ ⟨p', by omega⟩⟩ ⟨p', by omega⟩) (hI.lt j) fun y hy => ?_
              have q1 := bits_andNot ⟨M j ||| 2 ^ p', lt_or ⟨M j, hI.lt j⟩ ⟨p', by omega⟩⟩ ⟨p', by omega⟩ ⟨y, hy⟩
              have q2 := bits_or ⟨M j, hI.lt j⟩ ⟨p', by omega⟩ ⟨y, hy⟩
              simp only [Fin.mk.injEq, ne_eq] at q1 q2
              rw [q1, q2, hI.bit j hj y hy]
              by_cases hyp : y = p'
              · subst hyp; simp
              · simp [hyp]
            · rw [if_neg h, if_neg h]
          have t2 : tab n (fun y => if y = p' then (if p' = p' then j else c p') + 1 else if y = p' + 1 then 0 else if y = p' then j else c y) = tab n c4 := by
            refine tab_congr fun y hy => ?_
            simp only [if_true]
            by_cases h : y = p'
            · rw [if_pos h, h, e4]
            · rw [if_neg h, o4 y h]
              by_cases h2 : y = p' + 1
              · rw [if_pos h2, h2, h0 _ (by omega) (by omega)]
              · rw [if_neg h2, if_neg h]
          rw [t1, t2]
        have hb : d3 + d2 + 1 ≤ Tb (r + 1) m := by
          rw [hT]
          have e : Tb (r + 1) (k - (j + 1)) = (k - (j + 1) + 1) * (1 + Eb r) := rfl
          rw [e] at fa1
          have h1 : (k - (j + 1) + 1) * (1 + Eb r) ≤ m * (1 + Eb r) := Nat.mul_le_mul_right _ (by omega)
          have h2 : (m + 1) * (1 + Eb r) = m * (1 + Eb r) + (1 + Eb r) := by rw [Nat.add_mul, Nat.one_mul]
          omega
        have hrun : ∀ fu, f72_p1 F 0 k k n (tab 8 w) (fu + (d3 + d2 + 1)) p' (tab k M) (tab n c) = f72_p1 F 0 k k n (tab 8 w) (fu + d3) p' (tab k M) (tab n c4) := by
          intro fu
          rw [show fu + (d3 + d2 + 1) = (fu + d3) + d2 + 1 by omega, hback]
        refine ⟨d3 + d2 + 1, hb, ?_⟩
        rcases fa2 with ⟨M', c', x1, x2⟩ | ⟨x1, x2, x3⟩
        · exact .inl ⟨M', c', x1, fun fu => by rw [hrun, x2]⟩
        · refine .inr ⟨?_, hp, ?_⟩
          · rintro ⟨g, hg⟩
            have h1 := low g hg
            by_cases hgj : g p' = j
            · refine g1 ⟨g, hg.col, hg.ok, fun y hy => ?_, ?_⟩
              · by_cases h : y = p'
                · rw [if_pos h, h]; exact hgj
                · rw [if_neg h]; exact hg.old y (by omega)
              · show (if p' + 1 = p' then j else c (p' + 1)) ≤ _
                rw [if_neg (by omega), h0 (p' + 1) (by omega) g2]; exact Nat.zero_le _
            · exact x1 ⟨g, hg.col, hg.ok, fun y hy => by rw [o4 y (by omega)]; exact hg.old y hy, by rw [e4]; omega⟩
          · rcases x3 with ⟨z1, z2⟩ | ⟨q, z1, z2⟩
            · exact .inl ⟨z1, fun fu => by obtain ⟨X, hX⟩ := z2 fu; exact ⟨X, by rw [hrun]; exact hX⟩⟩
            · refine .inr ⟨q, z1, fun fu => ?_⟩
              rw [hrun, z2, o4 q (by omega)]
              congr 1
              refine tab_congr fun y _ => ?_
              by_cases h : y = q
              · rw [if_pos h, if_pos h]
              · rw [if_neg h, if_neg h]
                by_cases h2 : y = q + 1
                · rw [if_pos h2, if_pos h2]
                · rw [if_neg h2, if_neg h2, o4 y (by omega)]
end
end
section
structure Proper (w : Nat → Nat) (n k : Nat) (g : Nat → Nat) : Prop where
  col : ∀ y, y < n → g y < k
  ok : ∀ x, x < n → ∀ y, y < n → g x = g y → (w x).testBit y = false
theorem Eb_mono : ∀ r, r ≤ 8 → Eb r ≤ 91474281 := by
  intro r hr
  match r, hr with
  | 0, _ | 1, _ | 2, _ | 3, _ | 4, _ | 5, _ | 6, _ | 7, _ | 8, _ => decide
section
variable {w : Nat → Nat} {n : Nat} (hw : ∀ x, w x < 256) (sy : ∀ x y, x < 8 → y < 8 → (w x).testBit y = (w y).testBit x) (irr : ∀ x, x < 8 → (w x).testBit x = false) (hn : 1 ≤ n ∧ n ≤ 8)
include hw sy irr hn in
theorem f72_eq {F : Nat} (hF : 100000000 ≤ F) {k : Nat} (hk : 1 ≤ k ∧ k ≤ 8) :
    (∃ c X, Proper w n k c ∧ f72 F 0 k k n (tab 8 w) (List.replicate k (0 : Int)) = some (tab n c, true, X)) ∨
    ((¬ ∃ g, Proper w n k g) ∧ ∃ X, f72 F 0 k k n (tab 8 w) (List.replicate k (0 : Int)) = some ([], false, X)) := by
  have hI : Inv w k 0 (fun _ => 0) (fun _ => 0) := ⟨fun _ => by decide, fun _ _ y _ => by simp, fun y h => by omega, fun x h => by omega⟩
  obtain ⟨d, hd, hE⟩ := search hw sy irr hk.2 hn.2 (F := F) (by omega) n 0 (by omega) k (fun _ => 0) (fun _ => 0) hI (fun _ _ _ => rfl) (fun _ => ⟨Nat.zero_le _, rfl⟩)
  have hdF : d ≤ F := by
    have h1 := Tb_le n hk.2
    have h2 := Eb_mono n hn.2
    omega
  have e : F = (F - d) + d := by omega
  have pre : f72 F 0 k k n (tab 8 w) (List.replicate k (0 : Int)) = Option.bind (f72_p1 F 0 k k n (tab 8 w) F ((0 : Nat) : Int) (tab k (fun _ => 0)) (tab n (fun _ => 0))) (fun
      | .c0 x33 => some (([] : List Int), false, x33)
      | .c1 x34 x35 => req ((0 + n) ≤ List.length x35) <| some ((List.drop 0 (List.take (0 + n) x35)), true, x34)) := by
    unfold f72
    rw [req_pos (by omega), Int.toNat_natCast, tab_zero, tab_zero]
    rfl
  rw [pre]
  rcases hE with ⟨M', c', g1, g2⟩ | ⟨g1, g2, g3⟩
  · refine .inl ⟨c', tab k M', ⟨g1.col, g1.ok⟩, ?_⟩
    have := g2 (F - d)
    rw [← e] at this
    rw [this, Option.bind_some]
    show req _ _ = _
    rw [req_pos (by rw [tab_len]; omega), List.drop_zero, Nat.zero_add, List.take_of_length_le (by rw [tab_len]; exact Nat.le_refl _)]
  · refine .inr ⟨fun ⟨g, hg⟩ => g1 ⟨g, hg.col, hg.ok, fun y h => by omega, Nat.zero_le _⟩, ?_⟩
    rcases g3 with ⟨_, g4⟩ | ⟨p', h, _⟩
    · obtain ⟨X, hX⟩ := g4 (F - d)
      rw [← e] at hX
      exact ⟨X, by rw [hX, Option.bind_some]⟩
    · omega
include hw sy irr hn in
theorem f31_p2_1_eq {F : Nat} (hF : 100000000 ≤ F) : ∀ (fu j : Nat), 1 ≤ j → j ≤ n → n < fu + j → (∀ k, k < j → ¬ ∃ g, Proper w n k g) →
    (f31_p2_1 F n (tab 8 w) fu j = some .c1 ∧ ∀ k, k < n → ¬ ∃ g, Proper w n k g) ∨
    ∃ c k, Proper w n k c ∧ (∀ i, i < k → ¬ ∃ g, Proper w n i g) ∧ f31_p2_1 F n (tab 8 w) fu j = some (.c0 (tab n c)) := by
  intro fu
  induction fu with
  | zero => intro j h1 h2 h3; omega
  | succ fu ih =>
    intro j h1 h2 h3 h4
    unfold f31_p2_1
    by_cases hj : j < n
    · rw [if_pos (by simp; omega), req_pos (by omega), Int.toNat_natCast]
      rcases f72_eq hw sy irr hn hF (k := j) (by omega) with ⟨c, X, g1, g2⟩ | ⟨g1, X, g2⟩
      · rw [g2, Option.bind_some]
        exact .inr ⟨c, j, g1, h4, rfl⟩
      · rw [g2, Option.bind_some]
        show (if false = true then _ else _) = _ ∧ _ ∨ ∃ c k, _ ∧ _ ∧ (if false = true then _ else _) = _
        rw [if_neg (by simp), w64_succ (by omega)]
        refine ih (j + 1) (by omega) (by omega) (by omega) fun k hk => ?_
        by_cases hkj : k = j
        · rw [hkj]; exact g1
        · exact h4 k (by omega)
    · rw [if_neg (by simp; omega)]
      exact .inl ⟨rfl, fun k hk => h4 k (by omega)⟩
theorem f31_p7_eq {F : Nat} (hn : n ≤ 8) : ∀ (fu j : Nat), j ≤ n → n < fu + j → f31_p7 F n fu j (tab j id) = some (tab n id) := by
  intro fu
  induction fu with
  | zero => intro j h1 h2; omega
  | succ fu ih =>
    intro j h1 h2
    unfold f31_p7
    by_cases hj : j < n
    · rw [if_pos (by simp; omega), req_pos (by rw [tab_len]; simp; omega), w64_succ (by omega)]
      have : tab j id ++ [(j : Int)] = tab (j + 1) id := by unfold tab; rw [List.range_succ, List.map_append]; rfl
      rw [this]
      exact ih (j + 1) (by omega) (by omega)
    · rw [if_neg (by simp; omega), show j = n by omega]
include hw sy irr hn in
theorem rooms_eq {F : Nat} (hF : 100000000 ≤ F) {a : Int} {q : List (Int × (Int × Unit))} (ho : f70 F a q = some (.c1 0 n (tab 8 w))) :
    ∃ c, f31 F a q = some (tab n c, 0) ∧ Proper w n n c ∧ ∀ k g, Proper w n k g → ∀ y, y < n → c y < k := by
  unfold f31
  rw [ho, Option.bind_some]
  show ∃ c, (if ((0 : Int) != 0) = true then _ else _) = _ ∧ _
  rw [if_neg (by decide)]
  have h0 : ∀ k, k < 1 → ¬ ∃ g, Proper w n k g := fun k hk ⟨g, hg⟩ => by have := hg.col 0 (by omega); omega
  rcases f31_p2_1_eq hw sy irr hn hF F 1 (Nat.le_refl _) hn.1 (by omega) h0 with ⟨g1, g2⟩ | ⟨c, k, g1, g2, g3⟩
  · have e1 : f31_p2_1 F n (tab 8 w) F 1 = some .c1 := g1
    rw [e1, Option.bind_some]
    have e2 : f31_p7 F n F 0 ([] : List Int) = some (tab n id) := f31_p7_eq hn.2 F 0 (by omega) (by omega)
    refine ⟨id, ?_, ⟨fun y hy => hy, fun x hx y hy e => ?_⟩, fun k g hg y hy => ?_⟩
    · show Option.bind (f31_p7 F n F 0 ([] : List Int)) _ = _
      rw [e2, Option.bind_some, List.drop_zero, Nat.zero_add, List.take_of_length_le (Nat.le_refl _)]
    · have e : x = y := e
      rw [e]; exact irr y (by omega)
    · apply Classical.byContradiction
      intro h
      exact g2 k (by have : y < n := hy; simp only [id] at h; omega) ⟨g, hg⟩
  · have e1 : f31_p2_1 F n (tab 8 w) F 1 = some (.c0 (tab n c)) := g3
    rw [e1, Option.bind_some]
    have hkn : k ≤ n := by
      apply Classical.byContradiction
      intro h
      exact g2 n (by omega) ⟨id, fun y hy => hy, fun x hx y hy e => by have e : x = y := e; rw [e]; exact irr y (by omega)⟩
    refine ⟨c, rfl, ⟨fun y hy => Nat.lt_of_lt_of_le (g1.col y hy) hkn, g1.ok⟩, fun k' g hg y hy => ?_⟩
    apply Classical.byContradiction
    intro h
    have h2 := g1.col y hy
    exact g2 k' (by omega) ⟨g, hg⟩
end
end
section
def els (s : Nat) : List Nat := (List.range 8).filter fun i => s.testBit i
def ints (l : List Nat) : List Int := l.map Int.ofNat
theorem ints_len (l : List Nat) : (ints l).length = l.length := by simp [ints]
theorem ints_at {l : List Nat} {i : Nat} (h : i < l.length) : at? (ints l) (i : Int) = some ((l[i] : Nat) : Int) :=
  at_of (by rw [ints, List.getElem?_map, List.getElem?_eq_getElem h]; rfl)
abbrev FF : Nat := 100000000
theorem f85_eq : ∀ s : Fin 256, f85 FF (s.val : Int) = some (ints (els s.val)) := by decide +kernel
theorem wrap_byte : ∀ s : Fin 256, IntKind.wrap .u8 (s.val : Int) = (s.val : Int) := by decide +kernel
theorem shl_pow : ∀ n : Fin 9, iShl .i64 1 (n.val : Int) = ((2 ^ n.val : Nat) : Int) := by decide +kernel
theorem shl_byte : ∀ n : Fin 8, iShl .u8 1 (n.val : Int) = ((2 ^ n.val : Nat) : Int) := by decide +kernel
theorem andNot_byte (a b : Fin 256) : iAndNot .u8 (a.val : Int) (b.val : Int) = ((a.val &&& (255 - b.val) : Nat) : Int) := by
  show IntKind.u8.wrap (((BitVec.ofInt 8 (a.val : Int) &&& ~~~BitVec.ofInt 8 (b.val : Int)).toNat : Nat) : Int) = _
  rw [BitVec.ofInt_natCast, BitVec.ofInt_natCast, BitVec.toNat_and, BitVec.toNat_not, BitVec.toNat_ofNat, BitVec.toNat_ofNat, Nat.mod_eq_of_lt (show a.val < 2 ^ 8 from a.isLt), Nat.mod_eq_of_lt (show b.val < 2 ^ 8 from b.isLt)]
  have h1 : a.val &&& (2 ^ 8 - 1 - b.val) ≤ a.val := Nat.and_le_left
  have h2 : a.val &&& (2 ^ 8 - 1 - b.val) < 256 := by have := a.isLt; omega
  rw [show 255 - b.val = 2 ^ 8 - 1 - b.val from rfl]
  generalize a.val &&& (2 ^ 8 - 1 - b.val) = q at *
  simp only [IntKind.wrap, IntKind.signed, IntKind.bits]
  simp
  omega
theorem not_bits : ∀ (b : Fin 256) (y : Fin 8), (255 - b.val).testBit y.val = !(b.val.testBit y.val) := by decide +kernel
theorem pow_bits : ∀ x y : Fin 8, (2 ^ x.val).testBit y.val = decide (y = x) := by decide +kernel
theorem pow_lt : ∀ x : Fin 8, 2 ^ x.val < 256 := by decide
theorem mem_els {s i : Nat} : i ∈ els s ↔ i < 8 ∧ s.testBit i = true := by simp [els]
section
variable {w : Nat → Nat} (hw : ∀ x, w x < 256) (irr : ∀ x, x < 8 → (w x).testBit x = false)
def Brl (w : Nat → Nat) (s : Nat) : Prop := ∀ x ∈ els s, ∀ y ∈ els s, x ≠ y → (w x).testBit y = true
include hw irr in
theorem one_is {s x : Nat} (hs : s < 256) (hx : x ∈ els s) : (s &&& (255 - w x) = 2 ^ x) ↔ ∀ y ∈ els s, x ≠ y → (w x).testBit y = true := by
  obtain ⟨hx8, hxs⟩ := mem_els.1 hx
  have hb : ∀ y, y < 8 → (s &&& (255 - w x)).testBit y = (s.testBit y && !((w x).testBit y)) := by
    intro y hy
    rw [Nat.testBit_and]
    have := not_bits ⟨w x, hw x⟩ ⟨y, hy⟩
    simp only at this
    rw [this]
  have hp : ∀ y, y < 8 → (2 ^ x).testBit y = decide (y = x) := by
    intro y hy
    have := pow_bits ⟨x, hx8⟩ ⟨y, hy⟩
    simpa only [Fin.mk.injEq] using this
  constructor
  · intro h y hy hxy
    obtain ⟨hy8, hys⟩ := mem_els.1 hy
    have h1 := hb y hy8
    rw [h, hp y hy8, hys, decide_eq_false (fun e => hxy e.symm)] at h1
    simpa using h1.symm
  · intro h
    refine byte_ext ?_ (pow_lt ⟨x, hx8⟩) fun y hy => ?_
    · have : s &&& (255 - w x) ≤ s := Nat.and_le_left
      omega
    · rw [hb y hy, hp y hy]
      by_cases hyx : y = x
      · subst hyx; rw [hxs, irr y hy]; simp
      · rw [decide_eq_false hyx]
        cases hys : s.testBit y with
        | false => rfl
        | true => rw [h y (mem_els.2 ⟨hy, hys⟩) fun e => hyx e.symm]; rfl
include hw irr in
theorem f106_p1_eq {s : Nat} (hs : s < 256) (n : Int) : ∀ (fu : Nat) (p q : List Nat), els s = p ++ q → q.length < fu → p.length + q.length ≤ 8 →
    f106_p1 FF (s : Int) (ints (els s)) n (tab 8 w) fu (p.length : Int) = some (if ∀ x ∈ q, ∀ y ∈ els s, x ≠ y → (w x).testBit y = true then .c1 else .c0) := by
  classical
  intro fu
  induction fu with
  | zero => intro p q _ h; omega
  | succ fu ih =>
    intro p q e h h8
    unfold f106_p1
    rw [ints_len]
    have el : (els s).length = p.length + q.length := by rw [e, List.length_append]
    cases q with
    | nil => rw [if_neg (by simp at el ⊢; omega), if_pos (by simp)]
    | cons x q =>
      simp only [List.length_cons] at el h h8
      have hx : x ∈ els s := by rw [e]; simp
      obtain ⟨hx8, _⟩ := mem_els.1 hx
      have hg : (els s)[p.length]? = some x := by rw [e]; simp
      have ha : at? (ints (els s)) (p.length : Int) = some (x : Int) := at_of (by rw [ints, List.getElem?_map, hg]; rfl)
      have h1 := andNot_byte ⟨s, hs⟩ ⟨w x, hw x⟩
      have h2 := shl_byte ⟨x, hx8⟩
      simp only at h1 h2
      rw [if_pos (by simp; omega), ha, Option.bind_some, req_pos (by omega), Int.toNat_natCast, Nat.mul_one, Nat.zero_add, tab_get _ hx8, Option.bind_some, req_pos (by omega), h1, h2]
      by_cases hq : s &&& (255 - w x) = 2 ^ x
      · rw [if_neg (by simp [hq]), w64_succ (by omega)]
        have := ih (p ++ [x]) q (by rw [e]; simp) (by omega) (by simp; omega)
        rw [show ((p.length + 1 : Nat) : Int) = ((p ++ [x]).length : Int) by simp, this]
        have hall := (one_is hw irr hs hx).1 hq
        congr 1
        by_cases hr : ∀ x ∈ q, ∀ y ∈ els s, x ≠ y → (w x).testBit y = true
        · rw [if_pos hr, if_pos (by intro z hz; rcases List.mem_cons.1 hz with rfl | hz; exact hall; exact hr z hz)]
        · rw [if_neg hr, if_neg (fun h => hr fun z hz => h z (by simp [hz]))]
      · have hne : ((s &&& (255 - w x) : Nat) : Int) ≠ ((2 ^ x : Nat) : Int) := by omega
        rw [if_pos (by simpa using hne), if_neg (fun h => hq ((one_is hw irr hs hx).2 (h x (by simp))))]
open Classical in
include hw irr in
theorem f106_eq {s : Nat} (hs : s < 256) (n : Int) : f106 FF (s : Int) n (tab 8 w) = some (decide (Brl w s)) := by
  unfold f106
  rw [f85_eq ⟨s, hs⟩, Option.bind_some]
  have h8 : (els s).length ≤ 8 := by
    have := List.length_filter_le (fun i => s.testBit i) (List.range 8)
    simpa [els] using this
  have := f106_p1_eq hw irr hs n FF [] (els s) rfl (show (els s).length < 100000000 by omega) (by simp; omega)
  rw [show ((([] : List Nat).length : Nat) : Int) = 0 from rfl] at this
  rw [this, Option.bind_some]
  by_cases h : Brl w s
  · rw [decide_eq_true h, if_pos (show ∀ x ∈ els s, ∀ y ∈ els s, x ≠ y → (w x).testBit y = true from h)]
  · rw [decide_eq_false h, if_neg (show ¬ ∀ x ∈ els s, ∀ y ∈ els s, x ≠ y → (w x).testBit y = true from h)]
end
end
section
theorem f136_some (F : Nat) (a b : Int) : ∃ r, f136 F a b = some r := by
  unfold f136 f147
  simp only [Option.bind_some]
  (repeat' split) <;> exact ⟨_, rfl⟩
theorem f107_p1_some {F : Nat} {a b : List Nat} (h : a.length = b.length) (h8 : a.length ≤ 8) : ∀ (fu i : Nat), i ≤ a.length → a.length < fu + i → ∃ r, f107_p1 F (ints a) (ints b) fu i = some r := by
  intro fu
  induction fu with
  | zero => intro i h1 h2; omega
  | succ fu ih =>
    intro i h1 h2
    unfold f107_p1
    rw [ints_len, ints_len]
    by_cases hi : i < a.length
    · rw [if_pos (by simp; omega), ints_at hi, Option.bind_some, if_neg (by simp; omega), ints_at (show i < b.length by omega), Option.bind_some]
      obtain ⟨r, hr⟩ := f136_some F (a[i] : Nat) (b[i] : Nat)
      rw [hr, Option.bind_some]
      split
      · exact ⟨_, rfl⟩
      · rw [w64_succ (by omega)]; exact ih (i + 1) (by omega) (by omega)
    · rw [if_neg (by simp; omega)]; exact ⟨_, rfl⟩
theorem f107_some {a b : List Nat} (h : a.length = b.length) (h8 : a.length ≤ 8) : ∃ r, f107 FF (ints a) (ints b) = some r := by
  unfold f107
  obtain ⟨r, hr⟩ := f107_p1_some (F := FF) h h8 FF 0 (Nat.zero_le _) (show a.length < 100000000 + 0 by omega)
  have hr : f107_p1 FF (ints a) (ints b) FF 0 = some r := hr
  rw [hr, Option.bind_some]
  cases r with
  | c0 x => exact ⟨_, rfl⟩
  | c1 => simp only []; split <;> exact ⟨_, rfl⟩
theorem els_len (s : Nat) : (els s).length ≤ 8 := by
  have := List.length_filter_le (fun i => s.testBit i) (List.range 8)
  simpa [els] using this
section
variable {w : Nat → Nat} {n : Nat} (hw : ∀ x, w x < 256) (irr : ∀ x, x < 8 → (w x).testBit x = false) (hn : 1 ≤ n ∧ n ≤ 8)
include hw irr hn in
theorem f71_1_p1_eq : ∀ (fu j : Nat) (best : List Nat), 1 ≤ j → j ≤ 2 ^ n → 2 ^ n < fu + j → (best = [] ∨ ∃ s, 1 ≤ s ∧ s < 2 ^ n ∧ best = els s ∧ Brl w s) → (∀ s, 1 ≤ s → s < j → Brl w s → (els s).length ≤ best.length) →
    ∃ best', f71_1_p1 FF n (tab 8 w) fu (ints best) j = some (ints best') ∧ (best' = [] ∨ ∃ s, 1 ≤ s ∧ s < 2 ^ n ∧ best' = els s ∧ Brl w s) ∧ ∀ s, 1 ≤ s → s < 2 ^ n → Brl w s → (els s).length ≤ best'.length := by
  classical
  have h256 : 2 ^ n ≤ 256 := show 2 ^ n ≤ 2 ^ 8 from Nat.pow_le_pow_right (by omega) hn.2
  intro fu
  induction fu with
  | zero => intro j best h1 h2 h3; omega
  | succ fu ih =>
    intro j best h1 h2 h3 h4 h5
    have hs := shl_pow ⟨n, by omega⟩
    simp only at hs
    unfold f71_1_p1
    rw [req_pos (by omega), hs]
    have hb8 : best.length ≤ 8 := by
      rcases h4 with rfl | ⟨s, _, _, rfl, _⟩
      · simp
      · exact els_len s
    by_cases hj : j < 2 ^ n
    · have hwr := wrap_byte ⟨j, by omega⟩
      have hel := f85_eq ⟨j, by omega⟩
      simp only at hwr hel
      have nxt : ∀ b', (b' = [] ∨ ∃ s, 1 ≤ s ∧ s < 2 ^ n ∧ b' = els s ∧ Brl w s) → best.length ≤ b'.length → (Brl w j → (els j).length ≤ b'.length) →
          ∃ best', f71_1_p1 FF n (tab 8 w) fu (ints b') (w64 ((j : Int) + 1)) = some (ints best') ∧ (best' = [] ∨ ∃ s, 1 ≤ s ∧ s < 2 ^ n ∧ best' = els s ∧ Brl w s) ∧ ∀ s, 1 ≤ s → s < 2 ^ n → Brl w s → (els s).length ≤ best'.length := by
        intro b' g1 g2 g3
        rw [w64_succ (by omega)]
        refine ih (j + 1) b' (by omega) (by omega) (by omega) g1 fun s hs1 hs2 hs3 => ?_
        by_cases hsj : s = j
        · subst hsj; exact g3 hs3
        · exact Nat.le_trans (h5 s hs1 (by omega) hs3) g2
      rw [if_pos (by simp; exact_mod_cast hj), hwr, hel, Option.bind_some, ints_len, ints_len]
      by_cases hge : best.length ≤ (els j).length
      · rw [if_pos (by simp; omega), f106_eq hw irr (by omega), Option.bind_some]
        by_cases hB : Brl w j
        · rw [decide_eq_true hB, if_pos rfl]
          by_cases hgt : best.length < (els j).length
          · rw [if_pos (by simp; omega)]
            exact nxt (els j) (.inr ⟨j, h1, hj, rfl, hB⟩) hge fun _ => Nat.le_refl _
          · rw [if_neg (by simp; omega)]
            obtain ⟨r, hr⟩ := f107_some (a := els j) (b := best) (by omega) (els_len j)
            rw [hr, Option.bind_some]
            unfold f71_1_p4
            by_cases hr0 : r < 0
            · rw [if_pos (by simpa using hr0), Option.bind_some]
              exact nxt (els j) (.inr ⟨j, h1, hj, rfl, hB⟩) hge fun _ => Nat.le_refl _
            · rw [if_neg (by simpa using hr0), Option.bind_some]
              exact nxt best h4 (Nat.le_refl _) fun _ => by omega
        · rw [decide_eq_false hB, if_neg (by simp)]
          exact nxt best h4 (Nat.le_refl _) fun h => absurd h hB
      · rw [if_neg (by simp; omega)]
        exact nxt best h4 (Nat.le_refl _) fun _ => by omega
    · rw [if_neg (by simp; exact_mod_cast (Nat.not_lt.1 hj))]
      exact ⟨best, rfl, h4, fun s hs1 hs2 hs3 => h5 s hs1 (by omega) hs3⟩
include hw irr hn in
theorem brawl_eq {a : Int} {q : List (Int × (Int × Unit))} (ho : f70 FF a q = some (.c1 0 n (tab 8 w))) :
    ∃ l, f30 FF a q = some (ints l, 0) ∧ (l = [] ∨ ∃ s, 1 ≤ s ∧ s < 2 ^ n ∧ l = els s ∧ Brl w s) ∧ ∀ s, 1 ≤ s → s < 2 ^ n → Brl w s → (els s).length ≤ l.length := by
  have h256 : 2 ^ n ≤ 256 := show 2 ^ n ≤ 2 ^ 8 from Nat.pow_le_pow_right (by omega) hn.2
  obtain ⟨l, g1, g2, g3⟩ := f71_1_p1_eq hw irr hn FF 1 [] (Nat.le_refl _) (Nat.one_le_two_pow) (show 2 ^ n < 100000000 + 1 by omega) (.inl rfl) (fun s h1 h2 => by omega)
  refine ⟨l, ?_, g2, g3⟩
  unfold f30
  rw [ho, Option.bind_some]
  show (if ((0 : Int) != 0) = true then _ else _) = _
  rw [if_neg (by decide)]
  unfold f71_1
  have g1 : f71_1_p1 FF n (tab 8 w) FF ([] : List Int) 1 = some (ints l) := g1
  rw [g1]
  rfl
end
end
section
def qs (l : List (Nat × Nat)) : List (Int × (Int × Unit)) := l.map fun p => ((p.1 : Nat), ((p.2 : Nat), ()))
def join (w : Nat → Nat) (a b : Nat) : Nat → Nat := fun x => if x = b then w b ||| 2 ^ a else if x = a then w a ||| 2 ^ b else w x
theorem has_bit : ∀ (s : Fin 256) (y : Fin 8), (iAnd .u8 (iShr .u8 (s.val : Int) (y.val : Int)) 1 == 1) = s.val.testBit y.val := by decide +kernel
theorem f104_eq {F s y : Nat} (hs : s < 256) (hy : y < 8) : f104 F s y = some (s.testBit y) := by
  unfold f104
  rw [req_pos (by omega)]
  have := has_bit ⟨s, hs⟩ ⟨y, hy⟩
  simp only at this
  rw [this]
theorem f105_eq {F : Nat} {a b : Nat} (ha : a < 8) (hb : b < 8) (hab : a ≠ b) {w : Nat → Nat} (hw : ∀ x, w x < 256) (x3 : Int) : f105 F a b x3 (tab 8 w) = some (x3, tab 8 (join w a b)) := by
  have h1 := or_bit ⟨w a, hw a⟩ ⟨b, hb⟩
  have h2 := or_bit ⟨w b, hw b⟩ ⟨a, ha⟩
  simp only at h1 h2
  unfold f105
  rw [req_pos (by omega), Int.toNat_natCast, Int.toNat_natCast, Nat.mul_one, Nat.mul_one, Nat.zero_add, Nat.zero_add, tab_get _ ha, Option.bind_some, req_pos (by omega), req_pos ha, req_pos (by omega), h1, tab_set, tab_get _ hb, Option.bind_some, if_neg (fun e => hab e.symm), req_pos (by omega), req_pos hb, h2, tab_set]
  rfl
structure Adj (w : Nat → Nat) (l : List (Nat × Nat)) : Prop where
  lt : ∀ x, w x < 256
  bit : ∀ x y, x < 8 → y < 8 → ((w x).testBit y = true ↔ (x, y) ∈ l ∨ (y, x) ∈ l)
theorem Adj.join {w : Nat → Nat} {l : List (Nat × Nat)} (h : Adj w l) {a b : Nat} (ha : a < 8) (hb : b < 8) (hab : a ≠ b) : Adj (join w a b) (l ++ [(a, b)]) := by
  refine ⟨fun x => ?_, fun x y hx hy => ?_⟩
  · unfold Top.join
    split
    · exact lt_or ⟨w b, h.lt b⟩ ⟨a, ha⟩
    · split
      · exact lt_or ⟨w a, h.lt a⟩ ⟨b, hb⟩
      · exact h.lt x
  · unfold Top.join
    have h0 := h.bit x y hx hy
    simp only [List.mem_append, List.mem_singleton, Prod.mk.injEq]
    by_cases h1 : x = b
    · subst h1
      rw [if_pos rfl]
      have q := bits_or ⟨w x, h.lt x⟩ ⟨a, ha⟩ ⟨y, hy⟩
      simp only [Fin.mk.injEq] at q
      rw [q, Bool.or_eq_true, h0, decide_eq_true_eq]
      grind
    · rw [if_neg h1]
      by_cases h2 : x = a
      · subst h2
        rw [if_pos rfl]
        have q := bits_or ⟨w x, h.lt x⟩ ⟨b, hb⟩ ⟨y, hy⟩
        simp only [Fin.mk.injEq] at q
        rw [q, Bool.or_eq_true, h0, decide_eq_true_eq]
        grind
      · rw [if_neg h2, h0]
        grind
theorem f70_p2_eq {F n : Nat} (hn : n ≤ 8) {l0 : List (Nat × Nat)} (hl : ∀ p ∈ l0, p.1 < p.2 ∧ p.2 < n) (hnd : l0.Nodup) (hlen : l0.length ≤ 1000) : ∀ (fu : Nat) (p s : List (Nat × Nat)) (w : Nat → Nat), l0 = p ++ s → s.length < fu → Adj w p →
    ∃ w', Adj w' l0 ∧ f70_p2 F (qs l0) n fu p.length n (tab 8 w) = some (.c1 n (tab 8 w')) := by
  intro fu
  induction fu with
  | zero => intro p s w _ h; omega
  | succ fu ih =>
    intro p s w e hk hA
    unfold f70_p2
    have el : l0.length = p.length + s.length := by rw [e, List.length_append]
    have eq : (qs l0).length = l0.length := by simp [qs]
    rw [eq]
    cases s with
    | nil =>
      rw [if_neg (by simp at el ⊢; omega)]
      exact ⟨w, by rw [e, List.append_nil]; exact hA, rfl⟩
    | cons x s =>
      obtain ⟨a, b⟩ := x
      simp only [List.length_cons] at el hk
      have hx := hl (a, b) (by rw [e]; simp)
      simp only at hx
      have hg : at? (qs l0) (p.length : Int) = some ((a : Int), ((b : Int), ())) := at_of (by rw [qs, List.getElem?_map, e]; simp)
      have hnot : ¬ ((a, b) ∈ p ∨ (b, a) ∈ p) := by
        rintro (h | h)
        · rw [e] at hnd
          exact (List.nodup_append.1 hnd).2.2 _ h _ (by simp) rfl
        · have := hl (b, a) (by rw [e]; simp [h])
          simp only at this; omega
      have hbit : (w a).testBit b = false := by
        cases hq : (w a).testBit b with
        | false => rfl
        | true => exact absurd ((hA.bit a b (by omega) (by omega)).1 hq) hnot
      rw [if_pos (by simp; omega), hg, Option.bind_some]
      show ∃ w', _ ∧ Option.bind (some (a : Int)) _ = _
      rw [Option.bind_some]
      show ∃ w', _ ∧ Option.bind (some (b : Int)) _ = _
      rw [Option.bind_some, if_neg (by simp; split <;> omega), if_neg (by simp; split <;> omega), if_neg (by simp; omega), req_pos (by omega), Int.toNat_natCast, Nat.mul_one, Nat.zero_add, tab_get _ (by omega), Option.bind_some, f104_eq (hA.lt a) (by omega), Option.bind_some, hbit, if_neg (by simp), f105_eq (by omega) (by omega) (by omega) hA.lt, Option.bind_some]
      rw [w64_succ (by omega)]
      have := ih (p ++ [(a, b)]) s (join w a b) (by rw [e]; simp) (by omega) (hA.join (by omega) (by omega) (by omega))
      rw [show ((p.length + 1 : Nat) : Int) = ((p ++ [(a, b)]).length : Int) by simp]
      exact this
theorem f70_eq {F n : Nat} (hF : 1001 ≤ F) (hn : 1 ≤ n ∧ n ≤ 8) {l : List (Nat × Nat)} (hl : ∀ p ∈ l, p.1 < p.2 ∧ p.2 < n) (hnd : l.Nodup) (hlen : l.length ≤ 1000) :
    ∃ w, Adj w l ∧ f70 F n (qs l) = some (.c1 0 n (tab 8 w)) := by
  have h0 : Adj (fun _ => 0) [] := ⟨fun _ => by decide, fun x y _ _ => by simp⟩
  obtain ⟨w, g1, g2⟩ := f70_p2_eq (F := F) hn.2 hl hnd hlen F [] l (fun _ => 0) rfl (by omega) h0
  refine ⟨w, g1, ?_⟩
  unfold f70 f86
  rw [if_pos (by simp; omega), Option.bind_some, if_pos (by simp; omega), show List.replicate 8 (0 : Int) = tab 8 (fun _ => 0) from tab_zero 8]
  rw [show f70_p2 F (qs l) n F 0 n (tab 8 fun _ => 0) = _ from g2, Option.bind_some]
theorem Adj.sym {w : Nat → Nat} {l : List (Nat × Nat)} (h : Adj w l) (x y : Nat) (hx : x < 8) (hy : y < 8) : (w x).testBit y = (w y).testBit x := by
  rw [Bool.eq_iff_iff, h.bit x y hx hy, h.bit y x hy hx]
  exact Or.comm
theorem Adj.irr {w : Nat → Nat} {l : List (Nat × Nat)} (h : Adj w l) (hl : ∀ p ∈ l, p.1 < p.2) (x : Nat) (hx : x < 8) : (w x).testBit x = false := by
  cases hq : (w x).testBit x with
  | false => rfl
  | true =>
    rcases (h.bit x x hx hx).1 hq with h1 | h1
    · have := hl _ h1; simp at this
    · have := hl _ h1; simp at this
end
section
section
variable (R : Nat → Nat → Prop)
def Chain (l : List Nat) : Prop := l.Nodup ∧ ∀ x ∈ l, ∀ y ∈ l, x ≠ y → R x y ∨ R y x
variable {R} (tr : ∀ x y z, R x y → R y z → R x z) (ir : ∀ x, ¬ R x x)
include tr ir in
theorem mirsky : ∀ (k : Nat) (P : List Nat), P.Nodup → (∀ A, (∀ x ∈ A, x ∈ P) → Chain R A → A.length ≤ k) →
    ∃ c : Nat → Nat, (∀ x ∈ P, c x < k) ∧ ∀ x ∈ P, ∀ y ∈ P, c x = c y → ¬ R x y := by
  classical
  intro k
  induction k with
  | zero =>
    intro P hn hk
    refine ⟨fun _ => 0, fun x hx => ?_, fun x hx => ?_⟩ <;>
    · have := hk [x] (by simpa using hx) ⟨by simp, by intro a ha b hb h; simp at ha hb; exact absurd (ha.trans hb.symm) h⟩
      simp at this
  | succ k ih =>
    intro P hn hk
    let Mx : Nat → Prop := fun x => ∀ y ∈ P, ¬ R x y
    let P' := P.filter fun x => decide (¬ Mx x)
    have hP' : ∀ x, x ∈ P' ↔ x ∈ P ∧ ¬ Mx x := fun x => by simp [P', List.mem_filter]
    have hk' : ∀ A, (∀ x ∈ A, x ∈ P') → Chain R A → A.length ≤ k := by
      intro A h1 h2
      by_cases hA : A = []
      · subst hA; simp
      have hex : ∃ x ∈ A, True := by
        cases A with
        | nil => exact absurd rfl hA
        | cons x l => exact ⟨x, by simp, trivial⟩
      obtain ⟨t, t1, _, t2⟩ := top_of tr ir (fun _ => True) A.length A (Nat.le_refl _) hex
      have ht := (hP' t).1 (h1 t t1)
      have : ∃ y ∈ P, R t y := by
        apply Classical.byContradiction
        intro hno
        exact ht.2 fun y hy hr => hno ⟨y, hy, hr⟩
      obtain ⟨y, hy, hty⟩ := this
      have up : ∀ x ∈ A, R x y := by
        intro x hx
        by_cases hxt : x = t
        · rw [hxt]; exact hty
        · rcases h2.2 x hx t t1 hxt with h | h
          · exact tr _ _ _ h hty
          · exact absurd h (t2 x hx trivial)
      have := hk (y :: A) (fun x hx => by
        rcases List.mem_cons.1 hx with rfl | hx
        · exact hy
        · exact ((hP' x).1 (h1 x hx)).1) ⟨List.nodup_cons.2 ⟨fun h => ir y (up y h), h2.1⟩, fun a ha b hb hab => by
          rcases List.mem_cons.1 ha with ea | ha' <;> rcases List.mem_cons.1 hb with eb | hb'
          · exact absurd (ea.trans eb.symm) hab
          · exact .inr (ea ▸ up b hb')
          · exact .inl (eb ▸ up a ha')
          · exact h2.2 a ha' b hb' hab⟩
      simp only [List.length_cons] at this; omega
    obtain ⟨c, c1, c2⟩ := ih P' (hn.filter _) hk'
    refine ⟨fun x => if Mx x then k else c x, fun x hx => ?_, fun x hx y hy e hr => ?_⟩
    · show (if Mx x then k else c x) < k + 1
      by_cases h : Mx x
      · rw [if_pos h]; omega
      · rw [if_neg h]; have := c1 x ((hP' x).2 ⟨hx, h⟩); omega
    · have e : (if Mx x then k else c x) = (if Mx y then k else c y) := e
      have hMx : ¬ Mx x := fun h => h y hy hr
      rw [if_neg hMx] at e
      have h1 := c1 x ((hP' x).2 ⟨hx, hMx⟩)
      by_cases hMy : Mx y
      · rw [if_pos hMy] at e; omega
      · rw [if_neg hMy] at e; exact c2 x ((hP' x).2 ⟨hx, hMx⟩) y ((hP' y).2 ⟨hy, hMy⟩) e hr
end
def mask : List Nat → Nat
  | [] => 0
  | x :: l => mask l ||| 2 ^ x
theorem mask_bit (y : Nat) : ∀ l : List Nat, (mask l).testBit y = decide (y ∈ l)
  | [] => by simp [mask]
  | x :: l => by
    rw [mask, Nat.testBit_or, mask_bit y l, Nat.testBit_two_pow]
    by_cases h : y = x
    · subst h; simp
    · simp [h, Ne.symm h]
theorem els_nodup (s : Nat) : (els s).Nodup := List.nodup_range.filter _
section
variable {w : Nat → Nat} {n : Nat} (hn : n ≤ 8)
include hn in
theorem clique_brawl {A : List Nat} (hA : A.Nodup) (hne : A ≠ []) (hl : ∀ x ∈ A, x < n) (hq : ∀ x ∈ A, ∀ y ∈ A, x ≠ y → (w x).testBit y = true) : ∃ s, 1 ≤ s ∧ s < 2 ^ n ∧ Brl w s ∧ A.length ≤ (els s).length := by
  have hm : ∀ x, x ∈ els (mask A) ↔ x ∈ A := fun x => by
    rw [mem_els, mask_bit, decide_eq_true_eq]
    exact ⟨fun h => h.2, fun h => ⟨by have := hl x h; omega, h⟩⟩
  refine ⟨mask A, ?_, ?_, fun x hx y hy h => hq x ((hm x).1 hx) y ((hm y).1 hy) h, nodup_sub_len hA fun x hx => (hm x).2 hx⟩
  · cases A with
    | nil => exact absurd rfl hne
    | cons x l =>
      have h1 := mask_bit x (x :: l)
      apply Nat.one_le_iff_ne_zero.2
      intro h0
      rw [h0] at h1
      simp at h1
  · apply Nat.lt_pow_two_of_testBit
    intro i hi
    rw [mask_bit]
    exact decide_eq_false fun h => by have := hl i h; omega
theorem last_room {l : List Nat} {c : Nat → Nat} (hc : Proper w n n c) (hl : l = [] ∨ ∃ s, 1 ≤ s ∧ s < 2 ^ n ∧ l = els s ∧ Brl w s) (hn1 : 1 ≤ n) (hb : ∀ y, y < n → c y < l.length) : ∃ y, y < n ∧ c y + 1 = l.length := by
  rcases hl with rfl | ⟨s, s1, s2, rfl, s4⟩
  · have := hb 0 (by omega); simp at this
  have hin : ∀ x ∈ els s, x < n := by
    intro x hx
    apply Classical.byContradiction
    intro h
    have h1 := (mem_els.1 hx).2
    rw [Nat.testBit_lt_two_pow (Nat.lt_of_lt_of_le s2 (Nat.pow_le_pow_right (by omega) (by omega)))] at h1
    cases h1
  have hpos := hb 0 (by omega)
  have := all_below (k := (els s).length) (nodup_map (c := c) (els_nodup s) fun x hx y hy e => by
    apply Classical.byContradiction
    intro h
    have h1 := s4 x hx y hy h
    rw [hc.ok x (hin x hx) y (hin y hy) e] at h1
    cases h1) (fun z hz => by obtain ⟨x, hx, rfl⟩ := List.mem_map.1 hz; exact hb x (hin x hx)) (by rw [List.length_map]; exact Nat.le_refl _) ((els s).length - 1) (by omega)
  obtain ⟨y, hy, e⟩ := List.mem_map.1 this
  exact ⟨y, hin y hy, by omega⟩
end
end
section
theorem f32_p2_eq {F n : Nat} {c : Nat → Nat} (hn : n ≤ 8) : ∀ (fu i m : Nat), i ≤ n → n < fu + i →
    ∃ r : Nat, f32_p2 F (tab n c) fu m i = some (r : Int) ∧ m ≤ r ∧ (∀ y, i ≤ y → y < n → c y ≤ r) ∧ (r = m ∨ ∃ y, i ≤ y ∧ y < n ∧ r = c y) := by
  intro fu
  induction fu with
  | zero => intro i m h1 h2; omega
  | succ fu ih =>
    intro i m h1 h2
    unfold f32_p2
    rw [tab_len]
    by_cases hi : i < n
    · have ea : at? (tab n c) (i : Int) = some (c i : Int) := at_of (tab_get _ hi)
      rw [if_pos (by simp; omega), ea, Option.bind_some, w64_succ (by omega)]
      have em : (if ((c i : Nat) : Int) > (m : Int) then ((c i : Nat) : Int) else (m : Int)) = ((if c i > m then c i else m : Nat) : Int) := by
        by_cases h : c i > m
        · rw [if_pos h, if_pos (by omega)]
        · rw [if_neg h, if_neg (by omega)]
      rw [em]
      obtain ⟨r, g1, g2, g3, g4⟩ := ih (i + 1) (if c i > m then c i else m) (by omega) (by omega)
      refine ⟨r, g1, ?_, fun y h3 h4 => ?_, ?_⟩
      · split at g2 <;> omega
      · by_cases hy : y = i
        · subst hy; split at g2 <;> omega
        · exact g3 y (by omega) h4
      · rcases g4 with g4 | ⟨y, y1, y2, y3⟩
        · by_cases h : c i > m
          · rw [if_pos h] at g4; exact .inr ⟨i, Nat.le_refl _, hi, g4⟩
          · rw [if_neg h] at g4; exact .inl g4
        · exact .inr ⟨y, by omega, y2, y3⟩
    · rw [if_neg (by simp; omega)]
      exact ⟨m, rfl, Nat.le_refl _, fun y h3 h4 => by omega, .inl rfl⟩
theorem f32_eq {F n : Nat} {c : Nat → Nat} (hF : 10 ≤ F) (hn : 1 ≤ n ∧ n ≤ 8) : ∃ r : Nat, f32 F (tab n c) = some (r : Int) ∧ (∀ y, y < n → c y ≤ r) ∧ ∃ y, y < n ∧ r = c y := by
  have ea : at? (tab n c) ((0 : Nat) : Int) = some (c 0 : Int) := at_of (tab_get _ (by omega))
  obtain ⟨r, g1, g2, g3, g4⟩ := f32_p2_eq (F := F) (c := c) hn.2 F 1 (c 0) (by omega) (by omega)
  refine ⟨r, ?_, fun y hy => ?_, ?_⟩
  · unfold f32 f32_p0
    rw [tab_len, if_neg (by simp; omega), Option.bind_some, show at? (tab n c) 0 = some (c 0 : Int) from ea, Option.bind_some, show f32_p2 F (tab n c) F (c 0) 1 = some (r : Int) from g1]
    rfl
  · by_cases h : y = 0
    · rw [h]; exact g2
    · exact g3 y (by omega) hy
  · rcases g4 with h | ⟨y, _, h1, h2⟩
    · exact ⟨0, by omega, h⟩
    · exact ⟨y, h1, h2⟩
theorem house {n : Nat} (hn : 1 ≤ n ∧ n ≤ 8) {l : List (Nat × Nat)} (hl : ∀ p ∈ l, p.1 < p.2 ∧ p.2 < n) (hnd : l.Nodup) (hlen : l.length ≤ 1000)
    (hcol : ∀ K, (∀ A : List Nat, A.Nodup → (∀ x ∈ A, x < n) → (∀ x ∈ A, ∀ y ∈ A, x ≠ y → (x, y) ∈ l ∨ (y, x) ∈ l) → A.length ≤ K) →
      ∃ g : Nat → Nat, (∀ y, y < n → g y < K) ∧ ∀ x, x < n → ∀ y, y < n → g x = g y → ¬ ((x, y) ∈ l ∨ (y, x) ∈ l)) :
    ∃ (c : Nat → Nat) (b : List Nat), f31 FF n (qs l) = some (tab n c, 0) ∧ f30 FF n (qs l) = some (ints b, 0) ∧ 1 ≤ b.length ∧ f32 FF (tab n c) = some ((b.length : Int) - 1) ∧
      (∀ x, x < n → ∀ y, y < n → c x = c y → ¬ ((x, y) ∈ l ∨ (y, x) ∈ l)) ∧ b.Nodup ∧ (∀ x ∈ b, x < n) ∧ ∀ x ∈ b, ∀ y ∈ b, x ≠ y → (x, y) ∈ l ∨ (y, x) ∈ l := by
  obtain ⟨w, hA, ho⟩ := f70_eq (F := FF) (show 1001 ≤ 100000000 by omega) hn hl hnd hlen
  have irr := hA.irr fun p hp => (hl p hp).1
  obtain ⟨c, c1, c2, c3⟩ := rooms_eq hA.lt hA.sym irr hn (F := FF) (Nat.le_refl _) ho
  obtain ⟨b, b1, b2, b3⟩ := brawl_eq hA.lt irr hn ho
  have hK : ∀ A : List Nat, A.Nodup → (∀ x ∈ A, x < n) → (∀ x ∈ A, ∀ y ∈ A, x ≠ y → (x, y) ∈ l ∨ (y, x) ∈ l) → A.length ≤ b.length := by
    intro A h1 h2 h3
    by_cases hne : A = []
    · subst hne; simp
    obtain ⟨s, s1, s2, s3, s4⟩ := clique_brawl (w := w) hn.2 h1 hne h2 fun x hx y hy h => (hA.bit x y (by have := h2 x hx; omega) (by have := h2 y hy; omega)).2 (h3 x hx y hy h)
    exact Nat.le_trans s4 (b3 s s1 s2 s3)
  obtain ⟨g, g1, g2⟩ := hcol b.length hK
  have hg : Proper w n b.length g := ⟨g1, fun x hx y hy e => by
    cases hq : (w x).testBit y with
    | false => rfl
    | true => exact absurd ((hA.bit x y (by omega) (by omega)).1 hq) (g2 x hx y hy e)⟩
  have hb := c3 b.length g hg
  obtain ⟨y, y1, y2⟩ := last_room c2 b2 hn.1 hb
  obtain ⟨r, r1, r2, y', r3, r4⟩ := f32_eq (F := FF) (c := c) (show 10 ≤ 100000000 by omega) hn
  have hr : r + 1 = b.length := by
    have h1 := hb y' r3
    have h2 := r2 y y1
    omega
  have hbs : b.Nodup ∧ (∀ x ∈ b, x < n) ∧ ∀ x ∈ b, ∀ y ∈ b, x ≠ y → (x, y) ∈ l ∨ (y, x) ∈ l := by
    rcases b2 with rfl | ⟨s, s1, s2, rfl, s4⟩
    · simp
    · have hin : ∀ x ∈ els s, x < n := by
        intro x hx
        apply Classical.byContradiction
        intro h
        have h1 := (mem_els.1 hx).2
        rw [Nat.testBit_lt_two_pow (Nat.lt_of_lt_of_le s2 (Nat.pow_le_pow_right (by omega) (by omega)))] at h1
        cases h1
      exact ⟨els_nodup s, hin, fun x hx y hy h => (hA.bit x y (mem_els.1 hx).1 (mem_els.1 hy).1).1 (s4 x hx y hy h)⟩
  refine ⟨c, b, c1, b1, by omega, ?_, fun x hx y hy e h => ?_, hbs⟩
  · rw [r1]; congr 1; omega
  · have := c2.ok x hx y hy e
    rw [(hA.bit x y (by omega) (by omega)).2 h] at this
    cases this
end
section
section
variable {R : Nat → Nat → Prop} (tr : ∀ x y z, R x y → R y z → R x z) (ir : ∀ x, ¬ R x x) {n : Nat} {l : List (Nat × Nat)}
include tr ir in
theorem col_apart (hl : ∀ x, x < n → ∀ y, y < n → ((x, y) ∈ l ∨ (y, x) ∈ l ↔ x ≠ y ∧ ¬ R x y ∧ ¬ R y x)) (K : Nat)
    (hA : ∀ A : List Nat, A.Nodup → (∀ x ∈ A, x < n) → (∀ x ∈ A, ∀ y ∈ A, x ≠ y → (x, y) ∈ l ∨ (y, x) ∈ l) → A.length ≤ K) :
    ∃ g : Nat → Nat, (∀ y, y < n → g y < K) ∧ ∀ x, x < n → ∀ y, y < n → g x = g y → ¬ ((x, y) ∈ l ∨ (y, x) ∈ l) := by
  obtain ⟨c, c1, c2⟩ := dilworth tr ir (List.range n).length (List.range n) (Nat.le_refl _) List.nodup_range K fun A h1 h2 =>
    hA A h2.1 (fun x hx => List.mem_range.1 (h1 x hx)) fun x hx y hy h => (hl x (List.mem_range.1 (h1 x hx)) y (List.mem_range.1 (h1 y hy))).2 ⟨h, h2.2 x hx y hy, h2.2 y hy x hx⟩
  refine ⟨c, fun y hy => c1 y (List.mem_range.2 hy), fun x hx y hy e h => ?_⟩
  obtain ⟨h1, h2, h3⟩ := (hl x hx y hy).1 h
  rcases c2 x (List.mem_range.2 hx) y (List.mem_range.2 hy) e with h4 | h4 | h4
  · exact h1 h4
  · exact h2 h4
  · exact h3 h4
include tr ir in
theorem col_chain (hl : ∀ x, x < n → ∀ y, y < n → ((x, y) ∈ l ∨ (y, x) ∈ l ↔ R x y ∨ R y x)) (K : Nat)
    (hA : ∀ A : List Nat, A.Nodup → (∀ x ∈ A, x < n) → (∀ x ∈ A, ∀ y ∈ A, x ≠ y → (x, y) ∈ l ∨ (y, x) ∈ l) → A.length ≤ K) :
    ∃ g : Nat → Nat, (∀ y, y < n → g y < K) ∧ ∀ x, x < n → ∀ y, y < n → g x = g y → ¬ ((x, y) ∈ l ∨ (y, x) ∈ l) := by
  obtain ⟨c, c1, c2⟩ := mirsky tr ir K (List.range n) List.nodup_range fun A h1 h2 =>
    hA A h2.1 (fun x hx => List.mem_range.1 (h1 x hx)) fun x hx y hy h => (hl x (List.mem_range.1 (h1 x hx)) y (List.mem_range.1 (h1 y hy))).2 (h2.2 x hx y hy h)
  refine ⟨c, fun y hy => c1 y (List.mem_range.2 hy), fun x hx y hy e h => ?_⟩
  rcases (hl x hx y hy).1 h with h1 | h1
  · exact c2 x (List.mem_range.2 hx) y (List.mem_range.2 hy) e h1
  · exact c2 y (List.mem_range.2 hy) x (List.mem_range.2 hx) e.symm h1
end
end
section
def cmp (x y : Nat) : Bool := x &&& (63 - y) == 0 || y &&& (63 - x) == 0
def ctOK (n x y : Nat) : Bool :=
  x == y || (iAndNot .i64 (x : Int) (y : Int) == 0) == (x &&& (63 - y) == 0) &&
  (match f24 FF (x : Int) (n : Int), f24 FF (y : Int) (n : Int) with
  | some a, some b => (match f29 FF (n : Int) [a, b] with
    | some (_, _, e) => e == (if cmp x y then 0 else 12)
    | none => false)
  | _, _ => false)
theorem ct1 : ∀ x y : Fin 2, ctOK 1 x.val y.val = true := by decide +kernel
theorem ct2 : ∀ x y : Fin 4, ctOK 2 x.val y.val = true := by decide +kernel
theorem ct3 : ∀ x y : Fin 8, ctOK 3 x.val y.val = true := by decide +kernel
theorem ct4 : ∀ x y : Fin 16, ctOK 4 x.val y.val = true := by decide +kernel
theorem ct5 : ∀ x y : Fin 32, ctOK 5 x.val y.val = true := by decide +kernel
theorem ct6_0 : ∀ x : Fin 16, ∀ y : Fin 64, ctOK 6 (0 + x.val) y.val = true := by decide +kernel
theorem ct6_1 : ∀ x : Fin 16, ∀ y : Fin 64, ctOK 6 (16 + x.val) y.val = true := by decide +kernel
theorem ct6_2 : ∀ x : Fin 16, ∀ y : Fin 64, ctOK 6 (32 + x.val) y.val = true := by decide +kernel
theorem ct6_3 : ∀ x : Fin 16, ∀ y : Fin 64, ctOK 6 (48 + x.val) y.val = true := by decide +kernel
end
section
theorem f36_p1_eq {F : Nat} {L : List Nat} (hL : L.length ≤ 100) (x : Nat) : ∀ (fu i : Nat), i ≤ L.length → L.length < fu + i → (∀ k, k < i → L[k]? ≠ some x) →
    (x ∈ L ∧ ∃ j : Int, 0 ≤ j ∧ f36_p1 F (ints L) x fu i = some (.c0 j)) ∨ (x ∉ L ∧ f36_p1 F (ints L) x fu i = some .c1) := by
  intro fu
  induction fu with
  | zero => intro i h1 h2; omega
  | succ fu ih =>
    intro i h1 h2 h3
    unfold f36_p1
    rw [ints_len]
    by_cases hi : i < L.length
    · rw [if_pos (by simp; omega), ints_at hi, Option.bind_some]
      by_cases hx : x = L[i]
      · rw [if_pos (by simp; omega)]
        exact .inl ⟨hx ▸ List.getElem_mem hi, _, by omega, rfl⟩
      · rw [if_neg (by simp; omega), w64_succ (by omega)]
        refine ih (i + 1) (by omega) (by omega) fun k hk => ?_
        by_cases hki : k = i
        · rw [hki, List.getElem?_eq_getElem hi]
          intro e; exact hx (Option.some.inj e).symm
        · exact h3 k (by omega)
    · rw [if_neg (by simp; omega)]
      refine .inr ⟨fun hm => ?_, rfl⟩
      obtain ⟨k, hk, e⟩ := List.getElem_of_mem hm
      exact h3 k (by omega) (by rw [List.getElem?_eq_getElem hk, e])
theorem f25_eq {F : Nat} (hF : 1000 ≤ F) {L : List Nat} (hL : L.length ≤ 100) (x : Nat) : f25 F (ints L) x = some (decide (x ∈ L)) := by
  unfold f25 f36
  rcases f36_p1_eq (F := F) hL x F 0 (Nat.zero_le _) (by omega) (fun k hk => by omega) with ⟨h, j, h1, h2⟩ | ⟨h, h2⟩
  · have h2 : f36_p1 F (ints L) x F 0 = some (.c0 j) := h2
    rw [h2, Option.bind_some]
    show Option.bind (some j) _ = _
    rw [Option.bind_some, decide_eq_true h, decide_eq_true (by omega)]
  · have h2 : f36_p1 F (ints L) x F 0 = some .c1 := h2
    rw [h2, Option.bind_some]
    show Option.bind (some (-1 : Int)) _ = _
    rw [Option.bind_some, decide_eq_false h]
    rfl
theorem f6_p1_eq {F : Nat} (hF : 1000 ≤ F) {n : Nat} (hn : 1 ≤ n ∧ n ≤ 6) {x1 : Int} (h1 : w64 (1 + Int.tmod (w64 x1) 6) = (n : Int)) {x2 : List Int} (hb : ∀ b ∈ x2, 0 ≤ b ∧ b ≤ 255) :
    ∀ (fu i : Nat) (L : List Nat), i ≤ 8 → 8 < fu + i → L.Nodup → L.length ≤ i → (0 < i → L ≠ []) → (∀ s ∈ L, s < 2 ^ n) →
    ∃ L' : List Nat, L'.Nodup ∧ L'.length ≤ 8 ∧ L' ≠ [] ∧ (∀ s ∈ L', s < 2 ^ n) ∧ f6_p1 F x1 x2 fu i (ints L) = some (ints L') := by
  have hsh := shl_pow ⟨n, by omega⟩
  simp only at hsh
  have hpos : 0 < 2 ^ n := Nat.two_pow_pos n
  have h64 : 2 ^ n ≤ 64 := show 2 ^ n ≤ 2 ^ 6 from Nat.pow_le_pow_right (by omega) hn.2
  intro fu
  induction fu with
  | zero => intro i L h2 h3; omega
  | succ fu ih =>
    intro i L h2 h3 h4 h5 h6 h7
    unfold f6_p1
    by_cases hi : i < 8
    · have hbi : 0 ≤ (x2[i]?.getD 0) ∧ (x2[i]?.getD 0) ≤ 255 := by
        cases hq : x2[i]? with
        | none => simp
        | some b => simpa using hb b (List.mem_of_getElem? hq)
      have hs : ∃ s : Nat, s < 2 ^ n ∧ Int.tmod (w64 (x2[i]?.getD 0)) ((2 ^ n : Nat) : Int) = (s : Int) := by
        rw [w64_in (by omega)]
        have g1 := Int.tmod_nonneg ((2 ^ n : Nat) : Int) hbi.1
        have g2 := Int.tmod_lt_of_pos (x2[i]?.getD 0) (b := ((2 ^ n : Nat) : Int)) (by omega)
        exact ⟨(Int.tmod (x2[i]?.getD 0) ((2 ^ n : Nat) : Int)).toNat, by omega, by omega⟩
      obtain ⟨s, s1, s2⟩ := hs
      rw [if_pos (by simp; omega), req_pos (by omega), h1, hsh, req_pos (by omega), req_pos (by omega), Int.toNat_natCast, s2, List.drop_zero, Nat.zero_add, List.take_of_length_le (Nat.le_refl _), f25_eq hF (by omega), Option.bind_some]
      unfold f6_p4_1
      rw [h1, hsh, Int.toNat_natCast, s2]
      by_cases hm : s ∈ L
      · rw [decide_eq_true hm, if_pos rfl, Option.bind_some, w64_succ (by omega)]
        exact ih (i + 1) L (by omega) (by omega) h4 (by omega) (fun _ e => by rw [e] at hm; cases hm) h7
      · rw [decide_eq_false hm, if_neg (by simp), req_pos (by rw [ints_len]; simp; omega), Option.bind_some, w64_succ (by omega)]
        have e : ints L ++ [(s : Int)] = ints (L ++ [s]) := by unfold ints; rw [List.map_append]; rfl
        rw [e]
        refine ih (i + 1) (L ++ [s]) (by omega) (by omega) (List.nodup_append.2 ⟨h4, by simp, fun a ha b hb eab => by simp at hb; exact hm (by rw [← hb, ← eab]; exact ha)⟩) (by simp; omega) (fun _ => by simp) fun t ht => ?_
        rcases List.mem_append.1 ht with h | h
        · exact h7 t h
        · simp at h; rw [h]; exact s1
    · rw [if_neg (by simp; omega)]
      exact ⟨L, h4, by omega, h6 (by omega), h7, rfl⟩
end
section
theorem ct_all {n x y : Nat} (hn : 1 ≤ n ∧ n ≤ 6) (hx : x < 2 ^ n) (hy : y < 2 ^ n) : ctOK n x y = true := by
  obtain ⟨h1, h2⟩ := hn
  match n, h1, h2, hx, hy with
  | 1, _, _, hx, hy => exact ct1 ⟨x, hx⟩ ⟨y, hy⟩
  | 2, _, _, hx, hy => exact ct2 ⟨x, hx⟩ ⟨y, hy⟩
  | 3, _, _, hx, hy => exact ct3 ⟨x, hx⟩ ⟨y, hy⟩
  | 4, _, _, hx, hy => exact ct4 ⟨x, hx⟩ ⟨y, hy⟩
  | 5, _, _, hx, hy => exact ct5 ⟨x, hx⟩ ⟨y, hy⟩
  | 6, _, _, hx, hy =>
    have hx : x < 64 := hx
    by_cases a1 : x < 16
    · have := ct6_0 ⟨x, a1⟩ ⟨y, hy⟩; rwa [Nat.zero_add] at this
    by_cases a2 : x < 32
    · have := ct6_1 ⟨x - 16, by omega⟩ ⟨y, hy⟩
      rwa [show 16 + (x - 16) = x by omega] at this
    by_cases a3 : x < 48
    · have := ct6_2 ⟨x - 32, by omega⟩ ⟨y, hy⟩
      rwa [show 32 + (x - 32) = x by omega] at this
    · have := ct6_3 ⟨x - 48, by omega⟩ ⟨y, hy⟩
      rwa [show 48 + (x - 48) = x by omega] at this
theorem ct_facts {n x y : Nat} (hn : 1 ≤ n ∧ n ≤ 6) (hx : x < 2 ^ n) (hy : y < 2 ^ n) (hxy : x ≠ y) :
    (iAndNot .i64 (x : Int) (y : Int) == 0) = (x &&& (63 - y) == 0) ∧ (iAndNot .i64 (y : Int) (x : Int) == 0) = (y &&& (63 - x) == 0) ∧
    ∃ A B u v, f24 FF (x : Int) (n : Int) = some A ∧ f24 FF (y : Int) (n : Int) = some B ∧ f29 FF (n : Int) [A, B] = some (u, v, if cmp x y then 0 else 12) := by
  have h1 := ct_all hn hx hy
  have h2 := ct_all hn hy hx
  unfold ctOK at h1 h2
  rw [Bool.or_eq_true, Bool.and_eq_true, beq_iff_eq] at h1 h2
  rcases h1 with h1 | ⟨h1, h3⟩
  · exact absurd h1 hxy
  rcases h2 with h2 | ⟨h2, _⟩
  · exact absurd h2.symm hxy
  refine ⟨by simpa using h1, by simpa using h2, ?_⟩
  split at h3
  · rename_i A B hA hB
    split at h3
    · rename_i u v e he
      have : e = (if cmp x y then 0 else 12) := by simpa using h3
      exact ⟨A, B, u, v, hA, hB, by rw [he, this]⟩
    · cases h3
  · cases h3
end
section
def row (L : List Nat) (apart : Bool) (a b : Nat) : List (Nat × Nat) := ((List.range' a (b - a)).filter fun i => cmp (L.getD i 0) (L.getD b 0) == !apart).map fun i => (i, b)
theorem row_step {L : List Nat} {apart : Bool} {a b : Nat} (h : a < b) : row L apart a b = (if (cmp (L.getD a 0) (L.getD b 0) == !apart) = true then [(a, b)] else []) ++ row L apart (a + 1) b := by
  unfold row
  rw [show b - a = (b - (a + 1)) + 1 by omega, List.range'_succ, List.filter_cons]
  split <;> simp
theorem row_done {L : List Nat} {apart : Bool} {b : Nat} : row L apart b b = [] := by simp [row]
theorem row_len (L : List Nat) (apart : Bool) (a b : Nat) : (row L apart a b).length ≤ b - a := by
  unfold row
  rw [List.length_map]
  exact Nat.le_trans (List.length_filter_le _ _) (by rw [List.length_range']; exact Nat.le_refl _)
theorem qs_app (l : List (Nat × Nat)) (a b : Nat) : qs l ++ [((a : Int), ((b : Int), ()))] = qs (l ++ [(a, b)]) := by
  unfold qs; rw [List.map_append]; rfl
theorem qs_len (l : List (Nat × Nat)) : (qs l).length = l.length := by simp [qs]
theorem f6_p15_eq {n : Nat} (hn : 1 ≤ n ∧ n ≤ 6) {x1 : Int} (h1 : w64 (1 + Int.tmod (w64 x1) 6) = (n : Int)) {L : List Nat} (hnd : L.Nodup) (h8 : L.length ≤ 8) (hL : ∀ s ∈ L, s < 2 ^ n) (apart : Bool) (x10 x12 x93 : Int) {b : Nat} (hb : b < L.length) :
    ∀ (fu a : Nat) (l : List (Nat × Nat)), a ≤ b → b < fu + a → l.length ≤ 100 + a →
    f6_p15_2 FF x1 (ints L) x10 apart b ((L[b] : Nat) : Int) x12 fu a x93 (qs l) = some (.c1 x93 (qs (l ++ row L apart a b))) := by
  intro fu
  induction fu with
  | zero => intro a l h2 h3; omega
  | succ fu ih =>
    intro a l h2 h3 h4
    unfold f6_p15_2
    rw [Int.toNat_natCast]
    by_cases ha : a < b
    · have hxy : L[a] ≠ L[b] := fun e => by
        have := (List.getElem_inj hnd).1 e
        omega
      obtain ⟨q1, q2, A, B, u, v, g1, g2, g3⟩ := ct_facts hn (hL _ (List.getElem_mem (by omega : a < L.length))) (hL _ (List.getElem_mem hb)) hxy
      have hat : (ints L)[a]? = some ((L[a] : Nat) : Int) := by rw [ints, List.getElem?_map, List.getElem?_eq_getElem (by omega)]; rfl
      have da : L.getD a 0 = L[a] := by rw [List.getD_eq_getElem?_getD, List.getElem?_eq_getElem (by omega)]; rfl
      have db : L.getD b 0 = L[b] := by rw [List.getD_eq_getElem?_getD, List.getElem?_eq_getElem hb]; rfl
      rw [if_pos (by simp; omega), req_pos (by omega), Int.toNat_natCast, Nat.zero_add, hat, Option.bind_some, h1, g1, Option.bind_some, g2, Option.bind_some, g3, Option.bind_some]
      -- what is put on the list
      have hrec : ∀ e : Int, e = (if cmp L[a] L[b] then 0 else 12) → ∀ z : Option (List (Int × (Int × Unit))), z = (if ((e == 12) == apart) = true then req (List.length (qs l) + List.length ([((a : Int), ((b : Int), ()))] : List (Int × (Int × Unit))) ≤ 1099511627776) (some (qs l ++ ([((a : Int), ((b : Int), ()))] : List (Int × (Int × Unit))))) else some (qs l)) →
          Option.bind z (fun x => f6_p15_2 FF x1 (ints L) x10 apart b ((L[b] : Nat) : Int) x12 fu (w64 ((a : Int) + 1)) x93 x) = some (.c1 x93 (qs (l ++ row L apart a b))) := by
        intro e he z hz
        rw [hz, row_step ha, da, db, w64_succ (by omega)]
        have hc : ((e == 12) == apart) = (cmp L[a] L[b] == !apart) := by
          rw [he]; cases cmp L[a] L[b] <;> cases apart <;> rfl
        rw [hc]
        by_cases hq : (cmp L[a] L[b] == !apart) = true
        · rw [if_pos hq, if_pos hq, req_pos (by rw [qs_len]; simp; omega), Option.bind_some, qs_app, ih (a + 1) _ (by omega) (by omega) (by simp; omega), List.append_assoc]
        · rw [if_neg hq, if_neg hq, Option.bind_some, ih (a + 1) l (by omega) (by omega) (by omega), List.nil_append]
      simp only []
      have c1 : cmp L[a] L[b] = ((L[a] &&& (63 - L[b]) == 0) || (L[b] &&& (63 - L[a]) == 0)) := rfl
      rw [q1]
      by_cases p : (L[a] &&& (63 - L[b]) == 0) = true
      · have hcm : cmp L[a] L[b] = true := by rw [c1, p]; rfl
        rw [if_pos p, hcm]
        simp only [if_true]
        rw [if_pos (by decide), if_neg (by decide)]
        exact hrec 0 (by rw [hcm]; rfl) _ rfl
      · rw [if_neg p, q2]
        have hcm : cmp L[a] L[b] = (L[b] &&& (63 - L[a]) == 0) := by rw [c1]; cases hp : (L[a] &&& (63 - L[b]) == 0) with | true => exact absurd hp p | false => rfl
        rw [hcm]
        cases hq : (L[b] &&& (63 - L[a]) == 0) with
        | true =>
          simp only [if_true]
          rw [if_pos (by decide), if_neg (by decide)]
          exact hrec 0 (by rw [hcm, hq]; rfl) _ rfl
        | false =>
          simp only [Bool.false_eq_true, if_false]
          rw [if_pos (by decide), if_pos (by decide), if_neg (by decide)]
          exact hrec 12 (by rw [hcm, hq]; rfl) _ rfl
    · obtain rfl : a = b := by omega
      rw [if_neg (by simp), row_done, List.append_nil]
end
section
def rows (L : List Nat) (apart : Bool) (b : Nat) : List (Nat × Nat) := (List.range' b (L.length - b)).flatMap (row L apart 0)
theorem rows_step {L : List Nat} {apart : Bool} {b : Nat} (h : b < L.length) : rows L apart b = row L apart 0 b ++ rows L apart (b + 1) := by
  unfold rows
  rw [show L.length - b = (L.length - (b + 1)) + 1 by omega, List.range'_succ, List.flatMap_cons]
theorem rows_done {L : List Nat} {apart : Bool} : rows L apart L.length = [] := by simp [rows]
theorem mem_row {L : List Nat} {apart : Bool} {b i j : Nat} : (i, j) ∈ row L apart 0 b ↔ i < b ∧ j = b ∧ cmp (L.getD i 0) (L.getD b 0) = !apart := by
  unfold row
  simp only [List.mem_map, List.mem_filter, List.mem_range'_1, Prod.mk.injEq, beq_iff_eq]
  constructor
  · rintro ⟨a, ⟨⟨_, h1⟩, h2⟩, rfl, rfl⟩; exact ⟨by omega, rfl, h2⟩
  · rintro ⟨h1, rfl, h2⟩; exact ⟨i, ⟨⟨by omega, by omega⟩, h2⟩, rfl, rfl⟩
theorem mem_rows {L : List Nat} {apart : Bool} {i j : Nat} : (i, j) ∈ rows L apart 0 ↔ i < j ∧ j < L.length ∧ cmp (L.getD i 0) (L.getD j 0) = !apart := by
  unfold rows
  simp only [List.mem_flatMap, List.mem_range'_1, mem_row]
  constructor
  · rintro ⟨b, ⟨_, h1⟩, h2, rfl, h3⟩; exact ⟨h2, by omega, h3⟩
  · rintro ⟨h1, h2, h3⟩; exact ⟨j, ⟨by omega, by omega⟩, h1, rfl, h3⟩
theorem row_nodup (L : List Nat) (apart : Bool) (b : Nat) : (row L apart 0 b).Nodup := by
  unfold row
  have h : ((List.range' 0 (b - 0)).filter fun i => cmp (L.getD i 0) (L.getD b 0) == !apart).Nodup := List.Pairwise.filter _ (List.nodup_range' ..)
  generalize ((List.range' 0 (b - 0)).filter fun i => cmp (L.getD i 0) (L.getD b 0) == !apart) = m at h
  induction m with
  | nil => simp
  | cons x m ih =>
    rw [List.map_cons, List.nodup_cons]
    refine ⟨fun hm => ?_, ih (List.nodup_cons.1 h).2⟩
    obtain ⟨y, hy, e⟩ := List.mem_map.1 hm
    simp only [Prod.mk.injEq, and_true] at e
    exact (List.nodup_cons.1 h).1 (e ▸ hy)
theorem rows_nodup (L : List Nat) (apart : Bool) : ∀ (d b : Nat), L.length - b = d → b ≤ L.length → (rows L apart b).Nodup ∧ ∀ p ∈ rows L apart b, b ≤ p.2 := by
  intro d
  induction d with
  | zero =>
    intro b h1 h2
    obtain rfl : b = L.length := by omega
    rw [rows_done]; simp
  | succ d ih =>
    intro b h1 h2
    obtain ⟨g1, g2⟩ := ih (b + 1) (by omega) (by omega)
    rw [rows_step (by omega)]
    refine ⟨List.nodup_append.2 ⟨row_nodup .., g1, fun p hp q hq e => ?_⟩, fun p hp => ?_⟩
    · have h3 := g2 q hq
      obtain ⟨i, j⟩ := p
      have h4 := (mem_row.1 hp).2.1
      rw [← e] at h3; simp only at h3; omega
    · rcases List.mem_append.1 hp with h | h
      · obtain ⟨i, j⟩ := p
        have := (mem_row.1 h).2.1
        simp only; omega
      · have := g2 p h; omega
theorem f6_p11_eq {n : Nat} (hn : 1 ≤ n ∧ n ≤ 6) {x1 : Int} (h1 : w64 (1 + Int.tmod (w64 x1) 6) = (n : Int)) {L : List Nat} (hnd : L.Nodup) (h8 : L.length ≤ 8) (hL : ∀ s ∈ L, s < 2 ^ n) (apart : Bool) (x10 x12 x81 : Int) :
    ∀ (fu b : Nat) (l : List (Nat × Nat)), b ≤ L.length → L.length < fu + b → l.length ≤ 8 * b →
    f6_p11 FF x1 (ints L) x10 apart x12 fu b x81 (qs l) = some (.c1 x81 (qs (l ++ rows L apart b))) := by
  intro fu
  induction fu with
  | zero => intro b l h2 h3; omega
  | succ fu ih =>
    intro b l h2 h3 h4
    unfold f6_p11
    rw [ints_len]
    by_cases hb : b < L.length
    · have hbt : (ints L)[b]? = some ((L[b] : Nat) : Int) := by rw [ints, List.getElem?_map, List.getElem?_eq_getElem hb]; rfl
      rw [if_pos (by simp; omega), req_pos (by omega), Int.toNat_natCast, Nat.zero_add, hbt, Option.bind_some, req_pos (by omega)]
      have e := f6_p15_eq hn h1 hnd h8 hL apart x10 x12 x81 hb FF 0 l (by omega) (show b < 100000000 + 0 by omega) (by omega)
      have e : f6_p15_2 FF x1 (ints L) x10 apart b ((L[b] : Nat) : Int) x12 FF 0 x81 (qs l) = _ := e
      rw [e, Option.bind_some]
      simp only []
      have hr := row_len L apart 0 b
      rw [w64_succ (by omega), ih (b + 1) _ (by omega) (by omega) (by rw [List.length_append]; omega), rows_step hb, List.append_assoc]
    · obtain rfl : b = L.length := by omega
      rw [if_neg (by simp), rows_done, List.append_nil]
theorem rows_len (L : List Nat) (apart : Bool) (h8 : L.length ≤ 8) : ∀ (d b : Nat), L.length - b = d → b ≤ L.length → (rows L apart b).length ≤ 8 * d := by
  intro d
  induction d with
  | zero =>
    intro b h1 h2
    obtain rfl : b = L.length := by omega
    rw [rows_done]; simp
  | succ d ih =>
    intro b h1 h2
    have := ih (b + 1) (by omega) (by omega)
    have hr := row_len L apart 0 b
    rw [rows_step (by omega), List.length_append]; omega
end
section
theorem f6_p26_eq {n : Nat} (hn : 1 ≤ n ∧ n ≤ 6) (x1 : Int) {L : List Nat} (hnd : L.Nodup) (h8 : L.length ≤ 8) (hL : ∀ s ∈ L, s < 2 ^ n) (apart : Bool) (x10 x12 : Int) {c : Nat → Nat}
    (hc : ∀ a b, a < b → b < L.length → c a = c b → cmp (L.getD a 0) (L.getD b 0) = apart) {b : Nat} (hb : b < L.length) :
    ∀ (fu a : Nat), a ≤ b → b < fu + a → f6_p26 FF x1 (ints L) x10 apart (tab L.length c) b x12 fu a = some .c1 := by
  intro fu
  induction fu with
  | zero => intro a h2 h3; omega
  | succ fu ih =>
    intro a h2 h3
    unfold f6_p26
    by_cases ha : a < b
    · have hxy : L[a] ≠ L[b] := fun e => by
        have := (List.getElem_inj hnd).1 e
        omega
      obtain ⟨q1, q2, _⟩ := ct_facts hn (hL _ (List.getElem_mem (by omega : a < L.length))) (hL _ (List.getElem_mem hb)) hxy
      have hat : (ints L)[a]? = some ((L[a] : Nat) : Int) := by rw [ints, List.getElem?_map, List.getElem?_eq_getElem (by omega)]; rfl
      have hbt : (ints L)[b]? = some ((L[b] : Nat) : Int) := by rw [ints, List.getElem?_map, List.getElem?_eq_getElem hb]; rfl
      have da : L.getD a 0 = L[a] := by rw [List.getD_eq_getElem?_getD, List.getElem?_eq_getElem (by omega)]; rfl
      have db : L.getD b 0 = L[b] := by rw [List.getD_eq_getElem?_getD, List.getElem?_eq_getElem hb]; rfl
      have hcc := hc a b ha hb
      rw [da, db] at hcc
      have ca : at? (tab L.length c) (a : Int) = some (c a : Int) := at_of (tab_get _ (by omega))
      have cb : at? (tab L.length c) (b : Int) = some (c b : Int) := at_of (tab_get _ hb)
      have nx := ih (a + 1) (by omega) (by omega)
      have c1 : cmp L[a] L[b] = ((L[a] &&& (63 - L[b]) == 0) || (L[b] &&& (63 - L[a]) == 0)) := rfl
      rw [if_pos (by simp; omega), req_pos (by rw [ints_len]; omega), Int.toNat_natCast, Nat.zero_add, hat, Option.bind_some, req_pos (by rw [ints_len]; omega), Int.toNat_natCast, Nat.zero_add, hbt, Option.bind_some, q1, ca, cb, Option.bind_some, Option.bind_some, Option.bind_some, Option.bind_some, q2, w64_succ (by omega), nx]
      by_cases hs : c a = c b
      · have h4 := hcc hs
        rw [← h4, c1]
        have e1 : (((c a : Nat) : Int) == ((c b : Nat) : Int)) = true := by rw [hs]; simp
        rw [e1]
        cases (L[a] &&& (63 - L[b]) == 0) <;> cases (L[b] &&& (63 - L[a]) == 0) <;> rfl
      · have e1 : (((c a : Nat) : Int) == ((c b : Nat) : Int)) = false := by simp; omega
        rw [e1]
        cases (L[a] &&& (63 - L[b]) == 0) <;> rfl
    · rw [if_neg (by simp; omega)]
theorem f6_p22_eq {n : Nat} (hn : 1 ≤ n ∧ n ≤ 6) (x1 : Int) {L : List Nat} (hnd : L.Nodup) (h8 : L.length ≤ 8) (hL : ∀ s ∈ L, s < 2 ^ n) (apart : Bool) (x10 x12 : Int) {c : Nat → Nat}
    (hc : ∀ a b, a < b → b < L.length → c a = c b → cmp (L.getD a 0) (L.getD b 0) = apart) :
    ∀ (fu b : Nat), b ≤ L.length → L.length < fu + b → f6_p22 FF x1 (ints L) x10 apart (tab L.length c) x12 fu b = some .c1 := by
  intro fu
  induction fu with
  | zero => intro b h2 h3; omega
  | succ fu ih =>
    intro b h2 h3
    unfold f6_p22
    rw [ints_len]
    by_cases hb : b < L.length
    · have e := f6_p26_eq hn x1 hnd h8 hL apart x10 x12 hc hb FF 0 (by omega) (show b < 100000000 + 0 by omega)
      have e : f6_p26 FF x1 (ints L) x10 apart (tab L.length c) b x12 FF 0 = some .c1 := e
      rw [if_pos (by simp; omega), e, Option.bind_some]
      simp only []
      rw [w64_succ (by omega)]
      exact ih (b + 1) (by omega) (by omega)
    · rw [if_neg (by simp; omega)]
theorem f6_p26_1_eq {n : Nat} (hn : 1 ≤ n ∧ n ≤ 6) (x1 : Int) {L : List Nat} (hnd : L.Nodup) (h8 : L.length ≤ 8) (hL : ∀ s ∈ L, s < 2 ^ n) (apart : Bool) (x10 x12 : Int) {c : Nat → Nat}
    (hc : ∀ a b, a < b → b < L.length → c a = c b → cmp (L.getD a 0) (L.getD b 0) = apart) {b : Nat} (hb : b < L.length) :
    ∀ (fu a : Nat), a ≤ b → b < fu + a → f6_p26_1 FF x1 (ints L) x10 apart (tab L.length c) b x12 fu a = some .c1 := by
  intro fu
  induction fu with
  | zero => intro a h2 h3; omega
  | succ fu ih =>
    intro a h2 h3
    unfold f6_p26_1
    by_cases ha : a < b
    · have hxy : L[a] ≠ L[b] := fun e => by
        have := (List.getElem_inj hnd).1 e
        omega
      obtain ⟨q1, q2, _⟩ := ct_facts hn (hL _ (List.getElem_mem (by omega : a < L.length))) (hL _ (List.getElem_mem hb)) hxy
      have hat : (ints L)[a]? = some ((L[a] : Nat) : Int) := by rw [ints, List.getElem?_map, List.getElem?_eq_getElem (by omega)]; rfl
      have hbt : (ints L)[b]? = some ((L[b] : Nat) : Int) := by rw [ints, List.getElem?_map, List.getElem?_eq_getElem hb]; rfl
      have da : L.getD a 0 = L[a] := by rw [List.getD_eq_getElem?_getD, List.getElem?_eq_getElem (by omega)]; rfl
      have db : L.getD b 0 = L[b] := by rw [List.getD_eq_getElem?_getD, List.getElem?_eq_getElem hb]; rfl
      have hcc := hc a b ha hb
      rw [da, db] at hcc
      have ca : at? (tab L.length c) (a : Int) = some (c a : Int) := at_of (tab_get _ (by omega))
      have cb : at? (tab L.length c) (b : Int) = some (c b : Int) := at_of (tab_get _ hb)
      have nx := ih (a + 1) (by omega) (by omega)
      have c1 : cmp L[a] L[b] = ((L[a] &&& (63 - L[b]) == 0) || (L[b] &&& (63 - L[a]) == 0)) := rfl
      rw [if_pos (by simp; omega), req_pos (by rw [ints_len]; omega), Int.toNat_natCast, Nat.zero_add, hat, Option.bind_some, req_pos (by rw [ints_len]; omega), Int.toNat_natCast, Nat.zero_add, hbt, Option.bind_some, q1, ca, cb, Option.bind_some, Option.bind_some, Option.bind_some, Option.bind_some, q2, w64_succ (by omega), nx]
      by_cases hs : c a = c b
      · have h4 := hcc hs
        rw [← h4, c1]
        have e1 : (((c a : Nat) : Int) == ((c b : Nat) : Int)) = true := by rw [hs]; simp
        rw [e1]
        cases (L[a] &&& (63 - L[b]) == 0) <;> cases (L[b] &&& (63 - L[a]) == 0) <;> rfl
      · have e1 : (((c a : Nat) : Int) == ((c b : Nat) : Int)) = false := by simp; omega
        rw [e1]
        cases (L[a] &&& (63 - L[b]) == 0) <;> rfl
    · rw [if_neg (by simp; omega)]
theorem f6_p22_1_eq {n : Nat} (hn : 1 ≤ n ∧ n ≤ 6) (x1 : Int) {L : List Nat} (hnd : L.Nodup) (h8 : L.length ≤ 8) (hL : ∀ s ∈ L, s < 2 ^ n) (apart : Bool) (x10 x12 : Int) {c : Nat → Nat}
    (hc : ∀ a b, a < b → b < L.length → c a = c b → cmp (L.getD a 0) (L.getD b 0) = apart) :
    ∀ (fu b : Nat), b ≤ L.length → L.length < fu + b → f6_p22_1 FF x1 (ints L) x10 apart (tab L.length c) x12 fu b = some .c1 := by
  intro fu
  induction fu with
  | zero => intro b h2 h3; omega
  | succ fu ih =>
    intro b h2 h3
    unfold f6_p22_1
    rw [ints_len]
    by_cases hb : b < L.length
    · have e := f6_p26_1_eq hn x1 hnd h8 hL apart x10 x12 hc hb FF 0 (by omega) (show b < 100000000 + 0 by omega)
      have e : f6_p26_1 FF x1 (ints L) x10 apart (tab L.length c) b x12 FF 0 = some .c1 := e
      rw [if_pos (by simp; omega), e, Option.bind_some]
      simp only []
      rw [w64_succ (by omega)]
      exact ih (b + 1) (by omega) (by omega)
    · rw [if_neg (by simp; omega)]
end
section
def mostN : Nat → Nat := fun n => [0, 1, 2, 3, 6, 10, 20].getD n 0
def chn (n s : Nat) : Nat := match n with
  | 1 => 0
  | 2 => [0, 0, 1, 0].getD s 0
  | 3 => [0, 0, 1, 0, 2, 2, 1, 0].getD s 0
  | _ => [0, 0, 1, 0, 2, 4, 1, 0, 3, 3, 5, 3, 2, 2, 1, 0].getD s 0
theorem chn1 : ∀ s t : Fin 2, chn 1 s.val < 1 ∧ (chn 1 s.val = chn 1 t.val → cmp s.val t.val = true) := by decide
theorem chn2 : ∀ s t : Fin 4, chn 2 s.val < 2 ∧ (chn 2 s.val = chn 2 t.val → cmp s.val t.val = true) := by decide +kernel
theorem chn3 : ∀ s t : Fin 8, chn 3 s.val < 3 ∧ (chn 3 s.val = chn 3 t.val → cmp s.val t.val = true) := by decide +kernel
theorem chn4 : ∀ s t : Fin 16, chn 4 s.val < 6 ∧ (chn 4 s.val = chn 4 t.val → cmp s.val t.val = true) := by decide +kernel
theorem chn_all {n s t : Nat} (hn : 1 ≤ n ∧ n ≤ 4) (hs : s < 2 ^ n) (ht : t < 2 ^ n) : chn n s < mostN n ∧ (chn n s = chn n t → cmp s t = true) := by
  obtain ⟨h1, h2⟩ := hn
  match n, h1, h2, hs, ht with
  | 1, _, _, hs, ht => exact chn1 ⟨s, hs⟩ ⟨t, ht⟩
  | 2, _, _, hs, ht => exact chn2 ⟨s, hs⟩ ⟨t, ht⟩
  | 3, _, _, hs, ht => exact chn3 ⟨s, hs⟩ ⟨t, ht⟩
  | 4, _, _, hs, ht => exact chn4 ⟨s, hs⟩ ⟨t, ht⟩
def pc (s : Nat) : Nat := (els s).length
theorem pc_diff : ∀ s t : Fin 64, s ≠ t → cmp s.val t.val = true → pc s.val ≠ pc t.val := by decide +kernel
theorem pc_le : ∀ n : Fin 7, ∀ s : Fin 64, s.val < 2 ^ n.val → pc s.val ≤ n.val := by decide +kernel
section
variable {n : Nat} (hn : 1 ≤ n ∧ n ≤ 6) {L : List Nat} (hnd : L.Nodup) (h8 : L.length ≤ 8) (hL : ∀ s ∈ L, s < 2 ^ n) {b : List Nat} (hb : b.Nodup) (hbl : ∀ x ∈ b, x < L.length)
theorem getD_mem {L : List Nat} {x : Nat} (h : x < L.length) : L.getD x 0 ∈ L := by
  rw [List.getD_eq_getElem?_getD, List.getElem?_eq_getElem h]; exact List.getElem_mem h
theorem getD_inj {L : List Nat} (hnd : L.Nodup) {x y : Nat} (hx : x < L.length) (hy : y < L.length) (e : L.getD x 0 = L.getD y 0) : x = y := by
  rw [List.getD_eq_getElem?_getD, List.getElem?_eq_getElem hx, List.getD_eq_getElem?_getD, List.getElem?_eq_getElem hy] at e
  exact (List.getElem_inj hnd).1 e
include hn h8 hL hb hbl in
theorem apart_le (hq : ∀ x ∈ b, ∀ y ∈ b, x ≠ y → cmp (L.getD x 0) (L.getD y 0) = false) : b.length ≤ mostN n := by
  by_cases h4 : n ≤ 4
  · have h1 : (b.map fun x => chn n (L.getD x 0)).Nodup := nodup_map hb fun x hx y hy e => by
      apply Classical.byContradiction
      intro hne
      have := (chn_all ⟨hn.1, h4⟩ (hL _ (getD_mem (hbl x hx))) (hL _ (getD_mem (hbl y hy)))).2 e
      rw [hq x hx y hy hne] at this
      cases this
    have := nodup_sub_len (m := List.range (mostN n)) h1 fun z hz => by
      obtain ⟨x, hx, rfl⟩ := List.mem_map.1 hz
      exact List.mem_range.2 (chn_all ⟨hn.1, h4⟩ (hL _ (getD_mem (hbl x hx))) (hL _ (getD_mem (hbl x hx)))).1
    rwa [List.length_map, List.length_range] at this
  · have h1 := nodup_sub_len (m := List.range L.length) hb fun x hx => List.mem_range.2 (hbl x hx)
    rw [List.length_range] at h1
    have : 10 ≤ mostN n := by
      obtain ⟨_, h2⟩ := hn
      match n, h4, h2 with
      | 5, _, _ => decide
      | 6, _, _ => decide
      | 0, h4, _ | 1, h4, _ | 2, h4, _ | 3, h4, _ | 4, h4, _ => exact absurd (by omega) h4
    omega
include hn hnd hL hb hbl in
theorem chain_le (hq : ∀ x ∈ b, ∀ y ∈ b, x ≠ y → cmp (L.getD x 0) (L.getD y 0) = true) : b.length ≤ n + 1 := by
  have h64 : 2 ^ n ≤ 64 := show 2 ^ n ≤ 2 ^ 6 from Nat.pow_le_pow_right (by omega) hn.2
  have lt : ∀ x ∈ b, L.getD x 0 < 64 := fun x hx => Nat.lt_of_lt_of_le (hL _ (getD_mem (hbl x hx))) h64
  have h1 : (b.map fun x => pc (L.getD x 0)).Nodup := nodup_map hb fun x hx y hy e => by
    apply Classical.byContradiction
    intro hne
    exact pc_diff ⟨L.getD x 0, lt x hx⟩ ⟨L.getD y 0, lt y hy⟩ (fun e => hne (getD_inj hnd (hbl x hx) (hbl y hy) (Fin.mk.inj e))) (hq x hx y hy hne) e
  have := nodup_sub_len (m := List.range (n + 1)) h1 fun z hz => by
    obtain ⟨x, hx, rfl⟩ := List.mem_map.1 hz
    have := pc_le ⟨n, by omega⟩ ⟨L.getD x 0, lt x hx⟩ (hL _ (getD_mem (hbl x hx)))
    simp only at this
    exact List.mem_range.2 (by omega)
  rwa [List.length_map, List.length_range] at this
end
end
section
theorem sub_and : ∀ x y : Fin 64, (x.val &&& (63 - y.val) == 0) = (x.val &&& y.val == x.val) := by decide +kernel
theorem f28_all : ∀ n : Fin 6, f28 FF ((n.val + 1 : Nat) : Int) = some ((mostN (n.val + 1) : Int), 0) := by decide +kernel
theorem mostN_le : ∀ n : Fin 7, mostN n.val ≤ 20 := by decide
theorem f33_is : f33 FF = some true := by decide +kernel
def Below (L : List Nat) (a b : Nat) : Prop := L.getD a 0 ≠ L.getD b 0 ∧ L.getD a 0 &&& L.getD b 0 = L.getD a 0
theorem below_tr (L : List Nat) : ∀ x y z, Below L x y → Below L y z → Below L x z := by
  rintro x y z ⟨h1, h2⟩ ⟨h3, h4⟩
  have e : L.getD x 0 &&& L.getD z 0 = L.getD x 0 := by rw [← h2, Nat.and_assoc, h4]
  refine ⟨fun e2 => h1 ?_, e⟩
  have h5 : L.getD y 0 &&& L.getD x 0 = L.getD y 0 := by rw [e2]; exact h4
  rw [← h2, Nat.and_comm]; exact h5
theorem below_ir (L : List Nat) : ∀ x, ¬ Below L x x := fun x h => h.1 rfl
section
variable {n : Nat} (hn : 1 ≤ n ∧ n ≤ 6) {L : List Nat} (hnd : L.Nodup) (h8 : L.length ≤ 8) (hL : ∀ s ∈ L, s < 2 ^ n)
include hn hnd hL in
theorem cmp_below {x y : Nat} (hx : x < L.length) (hy : y < L.length) (hne : x ≠ y) : cmp (L.getD x 0) (L.getD y 0) = true ↔ Below L x y ∨ Below L y x := by
  have h64 : 2 ^ n ≤ 64 := show 2 ^ n ≤ 2 ^ 6 from Nat.pow_le_pow_right (by omega) hn.2
  have l1 := Nat.lt_of_lt_of_le (hL _ (getD_mem hx)) h64
  have l2 := Nat.lt_of_lt_of_le (hL _ (getD_mem hy)) h64
  have hd : L.getD x 0 ≠ L.getD y 0 := fun e => hne (getD_inj hnd hx hy e)
  have s1 := sub_and ⟨_, l1⟩ ⟨_, l2⟩
  have s2 := sub_and ⟨_, l2⟩ ⟨_, l1⟩
  simp only at s1 s2
  unfold cmp Below
  rw [s1, s2, Bool.or_eq_true, beq_iff_eq, beq_iff_eq]
  constructor
  · rintro (h | h)
    · exact .inl ⟨hd, h⟩
    · exact .inr ⟨hd.symm, h⟩
  · rintro (⟨_, h⟩ | ⟨_, h⟩)
    · exact .inl h
    · exact .inr h
theorem cmp_comm (a b : Nat) : cmp a b = cmp b a := by unfold cmp; exact Bool.or_comm _ _
include hn hnd h8 hL in
theorem both (hne : L ≠ []) (apart : Bool) : ∃ (c : Nat → Nat) (b : List Nat), f31 FF L.length (qs (rows L apart 0)) = some (tab L.length c, 0) ∧ f30 FF L.length (qs (rows L apart 0)) = some (ints b, 0) ∧ 1 ≤ b.length ∧ f32 FF (tab L.length c) = some ((b.length : Int) - 1) ∧
    (∀ x y, x < y → y < L.length → c x = c y → cmp (L.getD x 0) (L.getD y 0) = apart) ∧ (apart = true → b.length ≤ mostN n) ∧ (apart = false → b.length ≤ n + 1) := by
  have h1 : 1 ≤ L.length := List.length_pos_iff.2 hne
  have hin : ∀ x, x < L.length → ∀ y, y < L.length → ((x, y) ∈ rows L apart 0 ∨ (y, x) ∈ rows L apart 0 ↔ x ≠ y ∧ cmp (L.getD x 0) (L.getD y 0) = !apart) := by
    intro x hx y hy
    rw [mem_rows, mem_rows, cmp_comm (L.getD y 0)]
    constructor
    · rintro (⟨a, _, c⟩ | ⟨a, _, c⟩) <;> exact ⟨by omega, c⟩
    · rintro ⟨a, c⟩
      by_cases h : x < y
      · exact .inl ⟨h, hy, c⟩
      · exact .inr ⟨by omega, hx, c⟩
  have hcol : ∀ K, (∀ A : List Nat, A.Nodup → (∀ x ∈ A, x < L.length) → (∀ x ∈ A, ∀ y ∈ A, x ≠ y → (x, y) ∈ rows L apart 0 ∨ (y, x) ∈ rows L apart 0) → A.length ≤ K) →
      ∃ g : Nat → Nat, (∀ y, y < L.length → g y < K) ∧ ∀ x, x < L.length → ∀ y, y < L.length → g x = g y → ¬ ((x, y) ∈ rows L apart 0 ∨ (y, x) ∈ rows L apart 0) := by
    intro K hK
    cases apart with
    | true =>
      refine col_apart (below_tr L) (below_ir L) (fun x hx y hy => ?_) K hK
      rw [hin x hx y hy]
      constructor
      · rintro ⟨a, c⟩
        refine ⟨a, fun h => ?_, fun h => ?_⟩
        · rw [(cmp_below hn hnd hL hx hy a).2 (.inl h)] at c; cases c
        · rw [(cmp_below hn hnd hL hx hy a).2 (.inr h)] at c; cases c
      · rintro ⟨a, c, d⟩
        refine ⟨a, ?_⟩
        cases hq : cmp (L.getD x 0) (L.getD y 0) with
        | false => rfl
        | true => exact absurd ((cmp_below hn hnd hL hx hy a).1 hq) (fun h => h.elim c d)
    | false =>
      refine col_chain (below_tr L) (below_ir L) (fun x hx y hy => ?_) K hK
      rw [hin x hx y hy]
      constructor
      · rintro ⟨a, c⟩; exact (cmp_below hn hnd hL hx hy a).1 c
      · intro h
        have hxy : x ≠ y := by rintro rfl; rcases h with h | h <;> exact below_ir L _ h
        exact ⟨hxy, (cmp_below hn hnd hL hx hy hxy).2 h⟩
  obtain ⟨c, b, g1, g2, g3, g4, g5, g6, g7, g8⟩ := house ⟨h1, h8⟩ (l := rows L apart 0) (fun p hp => by obtain ⟨i, j⟩ := p; have := mem_rows.1 hp; exact ⟨this.1, this.2.1⟩) (rows_nodup L apart L.length 0 (by omega) (by omega)).1 (by have := rows_len L apart h8 L.length 0 (by omega) (by omega); omega) hcol
  refine ⟨c, b, g1, g2, g3, g4, fun x y hxy hy e => ?_, fun ha => ?_, fun ha => ?_⟩
  · have := g5 x (by omega) y hy e
    rw [hin x (by omega) y hy] at this
    cases hq : cmp (L.getD x 0) (L.getD y 0) <;> cases apart <;> first | rfl | exact absurd ⟨by omega, hq⟩ this
  · subst ha
    exact apart_le hn h8 hL g6 g7 fun x hx y hy hne => ((hin x (g7 x hx) y (g7 y hy)).1 (g8 x hx y hy hne)).2
  · subst ha
    exact chain_le hn hnd hL g6 g7 fun x hx y hy hne => ((hin x (g7 x hx) y (g7 y hy)).1 (g8 x hx y hy hne)).2
include hn hnd h8 hL in
theorem f6_round (hne : L ≠ []) {x1 : Int} (h1 : w64 (1 + Int.tmod (w64 x1) 6) = (n : Int)) {i : Nat} {apart : Bool} (hi : i < 2) (ha : at? ([true, false] : List Bool) (i : Int) = some apart) (fu : Nat) :
    f6_p7 FF x1 (ints L) (mostN n) (fu + 1) i = f6_p7 FF x1 (ints L) (mostN n) fu (i + 1 : Nat) := by
  obtain ⟨c, b, g1, g2, g3, g4, g5, g6, g7⟩ := both hn hnd h8 hL hne apart
  have e11 := f6_p11_eq hn h1 hnd h8 hL apart (mostN n) i (((ints L).length : Nat) : Int) FF 0 [] (Nat.zero_le _) (show L.length < 100000000 + 0 by omega) (by simp)
  have e11 : f6_p11 FF x1 (ints L) (mostN n) apart i FF 0 (((ints L).length : Nat) : Int) ([] : List (Int × (Int × Unit))) = some (.c1 (L.length : Int) (qs (rows L apart 0))) := by
    rw [ints_len] at e11 ⊢; rw [List.nil_append] at e11; exact e11
  have p22 := f6_p22_eq hn x1 hnd h8 hL apart (mostN n) i g5 FF 0 (Nat.zero_le _) (show L.length < 100000000 + 0 by omega)
  have p22b := f6_p22_1_eq hn x1 hnd h8 hL apart (mostN n) i g5 FF 0 (Nat.zero_le _) (show L.length < 100000000 + 0 by omega)
  have p22 : f6_p22 FF x1 (ints L) (mostN n) apart (tab L.length c) i FF 0 = some .c1 := p22
  have p22b : f6_p22_1 FF x1 (ints L) (mostN n) apart (tab L.length c) i FF 0 = some .c1 := p22b
  have hbl : b.length ≤ 100 := by
    cases apart with
    | true => have := g6 rfl; have h2 : mostN n ≤ 20 := mostN_le ⟨n, by omega⟩; omega
    | false => have := g7 rfl; omega
  have hb0 : ¬ ((((ints b).length : Nat) : Int) == 0) = true := by
    rw [ints_len]
    have q : ((b.length : Nat) : Int) ≠ 0 := by omega
    simpa using q
  rw [f6_p7, if_pos (by simp; omega), ha, Option.bind_some, e11, Option.bind_some]
  simp only []
  rw [List.drop_zero, Nat.zero_add, List.take_of_length_le (Nat.le_refl _), g2, Option.bind_some, g1, Option.bind_some]
  simp only []
  rw [if_neg (by decide), if_neg (by decide), if_neg (by rw [tab_len, ints_len]; simp), if_neg hb0, g4, Option.bind_some, if_neg (by rw [ints_len, show w64 ((b.length : Int) - 1 + 1) = (b.length : Int) by rw [w64_in (by omega)]; omega]; simp)]
  cases apart with
  | true =>
    rw [if_pos rfl, if_neg (by rw [ints_len]; have := g6 rfl; simp; omega), p22, Option.bind_some]
    simp only []
    rw [w64_succ (by omega)]
  | false =>
    rw [if_neg (by simp), if_neg (by have q := g7 rfl; rw [ints_len, h1, w64_succ (by omega)]; simp; omega), p22b, Option.bind_some]
    simp only []
    rw [w64_succ (by omega)]
end
theorem f6_plain (x1 : Int) (x2 : List Int) (h1 : 0 ≤ x1 ∧ x1 ≤ 255) (h2 : ∀ b ∈ x2, 0 ≤ b ∧ b ≤ 255) : f6 FF x1 x2 = some true := by
  have t0 : 0 ≤ x1.tmod 6 := Int.tmod_nonneg _ h1.1
  have t1 : x1.tmod 6 < 6 := Int.tmod_lt_of_pos _ (by omega)
  obtain ⟨n, hn, e⟩ : ∃ n : Nat, (1 ≤ n ∧ n ≤ 6) ∧ w64 (1 + Int.tmod (w64 x1) 6) = (n : Int) := by
    refine ⟨(1 + x1.tmod 6).toNat, by omega, ?_⟩
    rw [w64_in (n := x1) (by omega), w64_in (by omega)]; omega
  obtain ⟨L, l1, l2, l3, l4, l5⟩ := f6_p1_eq (F := FF) (show 1000 ≤ 100000000 by omega) hn e h2 FF 0 [] (by omega) (show 8 < 100000000 + 0 by omega) (by simp) (by simp) (by omega) (by simp)
  have l5 : f6_p1 FF x1 x2 FF 0 ([] : List Int) = some (ints L) := l5
  have e28 := f28_all ⟨n - 1, by omega⟩
  simp only at e28
  rw [show n - 1 + 1 = n by omega] at e28
  have r0 := f6_round hn l1 l2 l4 l3 e (i := 0) (apart := true) (by omega) rfl (99999999)
  have r1 := f6_round hn l1 l2 l4 l3 e (i := 1) (apart := false) (by omega) rfl (99999998)
  have r2 : f6_p7 FF x1 (ints L) (mostN n) (99999997 + 1) ((1 + 1 : Nat) : Int) = some .c1 := by
    rw [f6_p7, if_neg (by simp)]
  have r : f6_p7 FF x1 (ints L) (mostN n) FF 0 = some .c1 := by
    show f6_p7 FF x1 (ints L) (mostN n) (99999999 + 1) ((0 : Nat) : Int) = some .c1
    rw [r0]
    show f6_p7 FF x1 (ints L) (mostN n) (99999998 + 1) ((1 : Nat) : Int) = some .c1
    rw [r1]
    exact r2
  unfold f6
  rw [l5, Option.bind_some, e, e28, Option.bind_some]
  simp only []
  rw [if_neg (by decide), r, Option.bind_some]
  simp only []
  rw [f33_is]
  rfl
end

end Go.Gh.Top
