/- What is needed of the plain texts. -/
import Derived.Test.YtcaphjiiaclndaaDoorTop7N0
import Derived.Test.YtcaphjiiaclndaaDoorTopSa
namespace Go.Gh.Top
set_option linter.unusedVariables false
set_option linter.unusedSimpArgs false
open Fnn (Val posF dN btwL betwS code_zero crs crossB)
section
theorem nodup_sub_len : ∀ {l m : List Nat}, l.Nodup → (∀ x ∈ l, x ∈ m) → l.length ≤ m.length := by
  intro l
  induction l with
  | nil => intro m _ _; simp
  | cons x l ih =>
    intro m hn hs
    have hx := hs x (by simp)
    have h := ih (m := m.erase x) (List.nodup_cons.1 hn).2 fun y hy => by
      have hne : y ≠ x := fun e => (List.nodup_cons.1 hn).1 (e ▸ hy)
      exact (List.mem_erase_of_ne hne).2 (hs y (by simp [hy]))
    rw [List.length_erase_of_mem hx] at h
    have : 0 < m.length := List.length_pos_of_mem hx
    simp only [List.length_cons]; omega
theorem nodup_map {l : List Nat} {c : Nat → Nat} (hn : l.Nodup) (hc : ∀ x ∈ l, ∀ y ∈ l, c x = c y → x = y) : (l.map c).Nodup := by
  induction l with
  | nil => simp
  | cons x l ih =>
    rw [List.map_cons, List.nodup_cons]
    refine ⟨fun h => ?_, ih (List.nodup_cons.1 hn).2 fun a ha b hb => hc a (by simp [ha]) b (by simp [hb])⟩
    obtain ⟨y, hy, e⟩ := List.mem_map.1 h
    have := hc y (by simp [hy]) x (by simp) e
    subst this
    exact (List.nodup_cons.1 hn).1 hy
theorem all_below {l : List Nat} {k : Nat} (hn : l.Nodup) (hb : ∀ x ∈ l, x < k) (hl : k ≤ l.length) : ∀ i, i < k → i ∈ l := by
  intro i hi
  apply Classical.byContradiction
  intro h
  have := nodup_sub_len (m := (List.range k).erase i) hn fun y hy => by
    have hne : y ≠ i := fun e => h (e ▸ hy)
    exact (List.mem_erase_of_ne hne).2 (List.mem_range.2 (hb y hy))
  rw [List.length_erase_of_mem (List.mem_range.2 hi), List.length_range] at this
  omega
section
variable (R : Nat → Nat → Prop)
def Anti (l : List Nat) : Prop := l.Nodup ∧ ∀ x ∈ l, ∀ y ∈ l, ¬ R x y
variable {R} (tr : ∀ x y z, R x y → R y z → R x z) (ir : ∀ x, ¬ R x x)
include tr ir in
theorem top_of (S : Nat → Prop) : ∀ (n : Nat) (P : List Nat), P.length ≤ n → (∃ x ∈ P, S x) → ∃ x ∈ P, S x ∧ ∀ y ∈ P, S y → ¬ R x y := by
  intro n
  induction n with
  | zero => rintro P h ⟨x, hx, _⟩; cases P with | nil => cases hx | cons => simp at h
  | succ n ih =>
    rintro P h ⟨x, hx, hs⟩
    apply Classical.byContradiction
    intro hno
    have : ∃ y ∈ P, S y ∧ R x y := by
      apply Classical.byContradiction
      intro h2
      exact hno ⟨x, hx, hs, fun y hy hy2 hr => h2 ⟨y, hy, hy2, hr⟩⟩
    obtain ⟨y, hy, hys, hxy⟩ := this
    have hlen : (P.filter fun z => decide (z ≠ x)).length ≤ n := by
      have : (P.filter fun z => decide (z ≠ x)).length < P.length := List.length_filter_lt_length_iff_exists.2 ⟨x, hx, by simp⟩
      omega
    have hyx : y ≠ x := fun e => ir x (e ▸ hxy)
    classical
    obtain ⟨m, hm, hms, hmm⟩ := ih (P.filter fun z => decide (z ≠ x)) hlen ⟨y, List.mem_filter.2 ⟨hy, by simpa using hyx⟩, hys⟩
    have hmP := (List.mem_filter.1 hm).1
    refine hno ⟨m, hmP, hms, fun z hz hzs hmz => ?_⟩
    by_cases hzx : z = x
    · subst hzx
      exact hmm y (List.mem_filter.2 ⟨hy, by simpa using hyx⟩) hys (tr _ _ _ hmz hxy)
    · exact hmm z (List.mem_filter.2 ⟨hz, by simpa using hzx⟩) hzs hmz
include tr ir in
theorem dilworth : ∀ (n : Nat) (P : List Nat), P.length ≤ n → P.Nodup → ∀ k, (∀ A, (∀ x ∈ A, x ∈ P) → Anti R A → A.length ≤ k) →
    ∃ c : Nat → Nat, (∀ x ∈ P, c x < k) ∧ ∀ x ∈ P, ∀ y ∈ P, c x = c y → x = y ∨ R x y ∨ R y x := by
  classical
  intro n
  induction n with
  | zero =>
    intro P h _ k _
    cases P with
    | nil => exact ⟨fun _ => 0, by simp, by simp⟩
    | cons => simp at h
  | succ n ih =>
    intro P h hn k hk
    by_cases hP : P = []
    · subst hP; exact ⟨fun _ => 0, by simp, by simp⟩
    have hex : ∃ x ∈ P, True := by
      cases P with
      | nil => exact absurd rfl hP
      | cons x l => exact ⟨x, by simp, trivial⟩
    obtain ⟨a, ha, _, htop⟩ := top_of tr ir (fun _ => True) P.length P (Nat.le_refl _) hex
    have hk1 : 1 ≤ k := by
      have := hk [a] (by simpa using ha) ⟨by simp, by simpa using ir a⟩
      simpa using this
    let P' := P.filter fun z => decide (z ≠ a)
    have hP'P : ∀ x ∈ P', x ∈ P := fun x hx => (List.mem_filter.1 hx).1
    have hP'a : ∀ x ∈ P', x ≠ a := fun x hx => by simpa using (List.mem_filter.1 hx).2
    have hPP' : ∀ x ∈ P, x ≠ a → x ∈ P' := fun x hx h => List.mem_filter.2 ⟨hx, by simpa using h⟩
    have hlen' : P'.length ≤ n := by
      have : P'.length < P.length := List.length_filter_lt_length_iff_exists.2 ⟨a, ha, by simp⟩
      omega
    have hn' : P'.Nodup := hn.filter _
    by_cases hB : ∀ A, (∀ x ∈ A, x ∈ P') → Anti R A → A.length ≤ k - 1
    · -- a has a chain of its own
      obtain ⟨c, c1, c2⟩ := ih P' hlen' hn' (k - 1) hB
      refine ⟨fun x => if x = a then k - 1 else c x, fun x hx => ?_, fun x hx y hy e => ?_⟩
      · show (if x = a then k - 1 else c x) < k
        by_cases hxa : x = a
        · rw [if_pos hxa]; omega
        · rw [if_neg hxa]; have := c1 x (hPP' x hx hxa); omega
      · have e : (if x = a then k - 1 else c x) = (if y = a then k - 1 else c y) := e
        by_cases hxa : x = a <;> by_cases hya : y = a
        · exact .inl (hxa.trans hya.symm)
        · rw [if_pos hxa, if_neg hya] at e; have := c1 y (hPP' y hy hya); omega
        · rw [if_neg hxa, if_pos hya] at e; have := c1 x (hPP' x hx hxa); omega
        · rw [if_neg hxa, if_neg hya] at e; exact c2 x (hPP' x hx hxa) y (hPP' y hy hya) e
    · -- some antichain of k without a
      have hk' : ∀ A, (∀ x ∈ A, x ∈ P') → Anti R A → A.length ≤ k := fun A h1 h2 => hk A (fun x hx => hP'P x (h1 x hx)) h2
      obtain ⟨c, c1, c2⟩ := ih P' hlen' hn' k hk'
      have hB : ∃ B, (∀ x ∈ B, x ∈ P') ∧ Anti R B ∧ k ≤ B.length := by
        apply Classical.byContradiction
        intro hno
        refine hB fun A h1 h2 => ?_
        apply Classical.byContradiction
        intro h3
        exact hno ⟨A, h1, h2, by omega⟩
      -- an antichain of k has one of each colour
      have each : ∀ B, (∀ x ∈ B, x ∈ P') → Anti R B → k ≤ B.length → ∀ i, i < k → ∃ x ∈ B, c x = i := by
        intro B h1 h2 h3 i hi
        have hm : (B.map c).Nodup := nodup_map h2.1 fun x hx y hy e => by
          rcases c2 x (h1 x hx) y (h1 y hy) e with h | h | h
          · exact h
          · exact absurd h (h2.2 x hx y hy)
          · exact absurd h (h2.2 y hy x hx)
        have := all_below hm (fun z hz => by obtain ⟨x, hx, rfl⟩ := List.mem_map.1 hz; exact c1 x (h1 x hx)) (by simpa using h3) i hi
        obtain ⟨x, hx, e⟩ := List.mem_map.1 this
        exact ⟨x, hx, e⟩
      let Q : Nat → Prop := fun x => ∃ B, (∀ z ∈ B, z ∈ P') ∧ Anti R B ∧ k ≤ B.length ∧ x ∈ B
      -- the highest one of each colour in such an antichain
      have hx : ∀ i, ∃ x, i < k → x ∈ P' ∧ (c x = i ∧ Q x) ∧ ∀ y ∈ P', c y = i ∧ Q y → ¬ R x y := by
        intro i
        by_cases hi : i < k
        · obtain ⟨B, h1, h2, h3⟩ := hB
          obtain ⟨x, hx, e⟩ := each B h1 h2 h3 i hi
          obtain ⟨m, g1, g2, g3⟩ := top_of tr ir (fun x => c x = i ∧ Q x) P'.length P' (Nat.le_refl _) ⟨x, h1 x hx, e, B, h1, h2, h3, hx⟩
          exact ⟨m, fun _ => ⟨g1, g2, g3⟩⟩
        · exact ⟨0, fun h => absurd h hi⟩
      let X : Nat → Nat := fun i => Classical.choose (hx i)
      have hX : ∀ i, i < k → X i ∈ P' ∧ (c (X i) = i ∧ Q (X i)) ∧ ∀ y ∈ P', c y = i ∧ Q y → ¬ R (X i) y := fun i hi => Classical.choose_spec (hx i) hi
      -- who is of its colour and in such an antichain is not above it
      have low : ∀ i, i < k → ∀ y ∈ P', c y = i → Q y → y = X i ∨ R y (X i) := by
        intro i hi y hy hc hq
        obtain ⟨g1, ⟨g2, g3⟩, g4⟩ := hX i hi
        rcases c2 y hy (X i) g1 (hc.trans g2.symm) with h | h | h
        · exact .inl h
        · exact .inr h
        · exact absurd h (g4 y hy ⟨hc, hq⟩)
      have anti : ∀ i, i < k → ∀ j, j < k → ¬ R (X i) (X j) := by
        intro i hi j hj hr
        obtain ⟨g1, ⟨g2, B, b1, b2, b3, b4⟩, g4⟩ := hX j hj
        obtain ⟨y, hy, hyc⟩ := each B b1 b2 b3 i hi
        have : R y (X j) := by
          rcases low i hi y (b1 y hy) hyc ⟨B, b1, b2, b3, hy⟩ with h | h
          · rw [h]; exact hr
          · exact tr _ _ _ h hr
        exact b2.2 y hy (X j) b4 this
      have hcmp : ∃ i, i < k ∧ R (X i) a := by
        apply Classical.byContradiction
        intro hno
        have hinj : ∀ i ∈ List.range k, ∀ j ∈ List.range k, X i = X j → i = j := fun i hi j hj e => by
          have h1 := (hX i (List.mem_range.1 hi)).2.1.1
          have h2 := (hX j (List.mem_range.1 hj)).2.1.1
          rw [← h1, ← h2, e]
        have hna : a ∉ (List.range k).map X := fun hm => by
          obtain ⟨i, hi, e⟩ := List.mem_map.1 hm
          exact hP'a _ (hX i (List.mem_range.1 hi)).1 e
        have := hk (a :: (List.range k).map X) (fun x hx => by
          rcases List.mem_cons.1 hx with rfl | hx
          · exact ha
          · obtain ⟨i, hi, rfl⟩ := List.mem_map.1 hx
            exact hP'P _ (hX i (List.mem_range.1 hi)).1) ⟨List.nodup_cons.2 ⟨hna, nodup_map List.nodup_range hinj⟩, fun x hx y hy hr => by
          rcases List.mem_cons.1 hx with rfl | hx <;> rcases List.mem_cons.1 hy with rfl | hy
          · exact ir _ hr
          · obtain ⟨j, hj, rfl⟩ := List.mem_map.1 hy
            exact htop _ (hP'P _ (hX j (List.mem_range.1 hj)).1) trivial hr
          · obtain ⟨i, hi, rfl⟩ := List.mem_map.1 hx
            exact hno ⟨i, List.mem_range.1 hi, hr⟩
          · obtain ⟨i, hi, rfl⟩ := List.mem_map.1 hx
            obtain ⟨j, hj, rfl⟩ := List.mem_map.1 hy
            exact anti i (List.mem_range.1 hi) j (List.mem_range.1 hj) hr⟩
        simp at this; omega
      obtain ⟨i, hi, hia⟩ := hcmp
      let K : Nat → Prop := fun x => x = a ∨ (x ∈ P' ∧ c x = i ∧ (x = X i ∨ R x (X i)))
      let P2 := P.filter fun z => decide (¬ K z)
      have hP2 : ∀ x, x ∈ P2 ↔ x ∈ P ∧ ¬ K x := fun x => by simp [P2, List.mem_filter]
      have hlen2 : P2.length ≤ n := by
        have : P2.length < P.length := List.length_filter_lt_length_iff_exists.2 ⟨a, ha, by simp [K]⟩
        omega
      have hk2 : ∀ A, (∀ x ∈ A, x ∈ P2) → Anti R A → A.length ≤ k - 1 := by
        intro A h1 h2
        apply Classical.byContradiction
        intro h3
        have hA' : ∀ x ∈ A, x ∈ P' := fun x hx => by
          obtain ⟨g1, g2⟩ := (hP2 x).1 (h1 x hx)
          exact hPP' x g1 fun e => g2 (.inl e)
        obtain ⟨z, hz, hzc⟩ := each A hA' h2 (by omega) i hi
        exact ((hP2 z).1 (h1 z hz)).2 (.inr ⟨hA' z hz, hzc, low i hi z (hA' z hz) hzc ⟨A, hA', h2, by omega, hz⟩⟩)
      obtain ⟨d, d1, d2⟩ := ih P2 hlen2 (hn.filter _) (k - 1) hk2
      have up : ∀ x, K x → x = a ∨ R x a := by
        rintro x (h | ⟨_, _, h | h⟩)
        · exact .inl h
        · exact .inr (h ▸ hia)
        · exact .inr (tr _ _ _ h hia)
      refine ⟨fun x => if K x then k - 1 else d x, fun x hx => ?_, fun x hx y hy e => ?_⟩
      · show (if K x then k - 1 else d x) < k
        by_cases hK : K x
        · rw [if_pos hK]; omega
        · rw [if_neg hK]; have := d1 x ((hP2 x).2 ⟨hx, hK⟩); omega
      · have e : (if K x then k - 1 else d x) = (if K y then k - 1 else d y) := e
        by_cases hKx : K x <;> by_cases hKy : K y
        · rcases up x hKx with hxa | hxa <;> rcases up y hKy with hya | hya
          · exact .inl (hxa.trans hya.symm)
          · exact .inr (.inr (hxa ▸ hya))
          · exact .inr (.inl (hya ▸ hxa))
          · rcases hKx with h | ⟨x1, x2, _⟩
            · exact absurd (h ▸ hxa) (ir a)
            rcases hKy with h | ⟨y1, y2, _⟩
            · exact absurd (h ▸ hya) (ir a)
            exact c2 x x1 y y1 (x2.trans y2.symm)
        · rw [if_pos hKx, if_neg hKy] at e; have := d1 y ((hP2 y).2 ⟨hy, hKy⟩); omega
        · rw [if_neg hKx, if_pos hKy] at e; have := d1 x ((hP2 x).2 ⟨hx, hKx⟩); omega
        · rw [if_neg hKx, if_neg hKy] at e; exact d2 x ((hP2 x).2 ⟨hx, hKx⟩) y ((hP2 y).2 ⟨hy, hKy⟩) e
end
end
section
theorem w64_in {n : Int} (h : -9223372036854775808 ≤ n ∧ n ≤ 9223372036854775807) : w64 n = n := by
  simp only [w64, IntKind.wrap, IntKind.signed, IntKind.bits]
  simp
  omega
theorem w64_succ {n : Nat} (h : n < 1000000000) : w64 ((n : Int) + 1) = ((n + 1 : Nat) : Int) := by rw [w64_in (by omega)]; omega
theorem req_pos {α : Type} {p : Prop} [Decidable p] {x : Option α} (h : p) : req p x = x := by unfold req; rw [if_pos h]
theorem at_of {α : Type} {l : List α} {i : Nat} {x : α} (h : l[i]? = some x) : at? l ((i : Nat) : Int) = some x := by
  unfold at?; simp [h]
def tab (N : Nat) (g : Nat → Nat) : List Int := (List.range N).map fun i => (g i : Int)
theorem tab_len (N : Nat) (g : Nat → Nat) : (tab N g).length = N := by simp [tab]
theorem tab_get {N i : Nat} (g : Nat → Nat) (h : i < N) : (tab N g)[i]? = some (g i : Int) := by
  unfold tab
  rw [List.getElem?_map, List.getElem?_range h]; rfl
theorem tab_congr {N : Nat} {g h : Nat → Nat} (e : ∀ y, y < N → g y = h y) : tab N g = tab N h :=
  List.map_congr_left fun y hy => by rw [e y (List.mem_range.1 hy)]
theorem tab_set {N i : Nat} (g : Nat → Nat) (v : Nat) : (tab N g).set i (v : Int) = tab N (fun y => if y = i then v else g y) := by
  apply List.ext_getElem?
  intro k
  by_cases hk : k < N
  · rw [tab_get _ hk, List.getElem?_set, tab_len]
    by_cases h : i = k
    · subst h; simp [hk]
    · rw [if_neg h, tab_get _ hk, if_neg (fun e => h e.symm)]
  · rw [List.getElem?_eq_none (by simp [tab_len]; omega), List.getElem?_eq_none (by simp [tab_len]; omega)]
theorem tab_zero (N : Nat) : List.replicate N (0 : Int) = tab N (fun _ => 0) := by
  apply List.ext_getElem?
  intro k
  by_cases hk : k < N
  · rw [tab_get _ hk, List.getElem?_replicate, if_pos hk]; rfl
  · rw [List.getElem?_eq_none (by simp; omega), List.getElem?_eq_none (by simp [tab_len]; omega)]
theorem and_byte (a b : Fin 256) : (iAnd .u8 (a.val : Int) (b.val : Int) == 0) = (a.val &&& b.val == 0) := by
  have e : iAnd .u8 (a.val : Int) (b.val : Int) = ((a.val &&& b.val : Nat) : Int) := by
    have h1 : a.val &&& b.val ≤ a.val := Nat.and_le_left
    show IntKind.u8.wrap (((BitVec.ofInt 8 (a.val : Int) &&& BitVec.ofInt 8 (b.val : Int)).toNat : Nat) : Int) = _
    rw [BitVec.ofInt_natCast, BitVec.ofInt_natCast, BitVec.toNat_and, BitVec.toNat_ofNat, BitVec.toNat_ofNat, Nat.mod_eq_of_lt (show a.val < 2 ^ 8 from a.isLt), Nat.mod_eq_of_lt (show b.val < 2 ^ 8 from b.isLt)]
    have h2 : a.val &&& b.val < 256 := by have := a.isLt; omega
    generalize a.val &&& b.val = q at *
    simp only [IntKind.wrap, IntKind.signed, IntKind.bits]
    simp
    omega
  rw [e]
  by_cases h : a.val &&& b.val = 0
  · rw [h]; rfl
  · have h2 : ((a.val &&& b.val : Nat) : Int) ≠ 0 := by omega
    rw [beq_eq_false_iff_ne.2 h, beq_eq_false_iff_ne.2 h2]
theorem or_bit : ∀ (a : Fin 256) (x : Fin 8), iOr .u8 (a.val : Int) (iShl .u8 1 (x.val : Int)) = ((a.val ||| 2 ^ x.val : Nat) : Int) := by decide +kernel
theorem andNot_bit : ∀ (a : Fin 256) (x : Fin 8), iAndNot .u8 (a.val : Int) (iShl .u8 1 (x.val : Int)) = ((a.val &&& (255 - 2 ^ x.val) : Nat) : Int) := by decide +kernel
theorem bits_or : ∀ (a : Fin 256) (x y : Fin 8), (a.val ||| 2 ^ x.val).testBit y.val = (a.val.testBit y.val || decide (y = x)) := by decide +kernel
theorem bits_andNot : ∀ (a : Fin 256) (x y : Fin 8), (a.val &&& (255 - 2 ^ x.val)).testBit y.val = (a.val.testBit y.val && decide (y ≠ x)) := by decide +kernel
theorem lt_or : ∀ (a : Fin 256) (x : Fin 8), a.val ||| 2 ^ x.val < 256 := by decide +kernel
theorem lt_andNot : ∀ (a : Fin 256) (x : Fin 8), a.val &&& (255 - 2 ^ x.val) < 256 := by decide +kernel
theorem and_zero (a b : Fin 256) : (a.val &&& b.val = 0) ↔ ∀ i, i < 8 → ¬ (a.val.testBit i = true ∧ b.val.testBit i = true) := by
  constructor
  · intro h i _ hab
    have := congrArg (fun n => n.testBit i) h
    simp only [Nat.testBit_and, Nat.zero_testBit, hab.1, hab.2] at this
    cases this
  · intro h
    apply Nat.eq_of_testBit_eq
    intro i
    rw [Nat.testBit_and, Nat.zero_testBit]
    by_cases hi : i < 8
    · have := h i hi
      cases h1 : a.val.testBit i <;> cases h2 : b.val.testBit i <;> simp_all
    · have : a.val < 2 ^ i := Nat.lt_of_lt_of_le a.isLt (show 2 ^ 8 ≤ 2 ^ i from Nat.pow_le_pow_right (by omega) (by omega))
      rw [Nat.testBit_lt_two_pow this]; rfl
def fits (w M : Nat → Nat) (x j : Nat) : Prop := M j &&& w x = 0
theorem f72_p5_eq {F k n : Nat} (hn : n ≤ 8) {w M : Nat → Nat} (hw : ∀ x, w x < 256) (hM : ∀ j, M j < 256) {x : Nat} (hx : x < n) : ∀ (d : Nat) (c : Nat → Nat) (fu : Nat), c x ≤ k → k - c x = d → d < fu → k ≤ 8 →
    ∃ j, c x ≤ j ∧ j ≤ k ∧ (∀ i, c x ≤ i → i < j → ¬ fits w M x i) ∧ (j < k → fits w M x j) ∧
      f72_p5_1 F 0 k k n x (tab 8 w) (tab k M) fu (tab n c) = some (tab n (fun y => if y = x then j else c y)) := by
  intro d
  induction d with
  | zero =>
    intro c fu h1 h2 h3 h4
    refine ⟨c x, Nat.le_refl _, h1, fun i a b => by omega, fun h => by omega, ?_⟩
    cases fu with
    | zero => omega
    | succ fu =>
      unfold f72_p5_1
      rw [req_pos (by omega), Int.toNat_natCast, Nat.zero_add, tab_get _ hx, Option.bind_some, if_neg (by simp; omega)]
      exact congrArg some (tab_congr fun y _ => by by_cases h : y = x; rw [if_pos h, h]; rw [if_neg h])
  | succ d ih =>
    intro c fu h1 h2 h3 h4
    cases fu with
    | zero => omega
    | succ fu =>
      unfold f72_p5_1
      rw [req_pos (by omega), Int.toNat_natCast, Nat.zero_add, tab_get _ hx, Option.bind_some, if_pos (by simp; omega), req_pos (by omega), Int.toNat_natCast, Nat.zero_add, tab_get _ (by omega), Option.bind_some, req_pos (by omega), Nat.mul_one, Nat.zero_add, tab_get _ (by omega), Option.bind_some, and_byte ⟨M (c x), hM _⟩ ⟨w x, hw _⟩]
      show ∃ j, _ ∧ _ ∧ _ ∧ _ ∧ (if (M (c x) &&& w x == 0) = true then _ else _) = _
      by_cases hf : M (c x) &&& w x = 0
      · refine ⟨c x, Nat.le_refl _, h1, fun i a b => by omega, fun _ => hf, ?_⟩
        rw [if_pos (by simpa using hf)]
        exact congrArg some (tab_congr fun y _ => by by_cases h : y = x; rw [if_pos h, h]; rw [if_neg h])
      · obtain ⟨j, g1, g2, g3, g4, g5⟩ := ih (fun y => if y = x then c x + 1 else c y) fu (by rw [if_pos rfl]; omega) (by rw [if_pos rfl]; omega) (by omega) h4
        rw [if_pos rfl] at g1
        refine ⟨j, by omega, g2, fun i a b => ?_, g4, ?_⟩
        · by_cases hi : i = c x
          · rw [hi]; exact hf
          · exact g3 i (by rw [if_pos rfl]; omega) b
        · rw [if_neg (by simpa using hf), req_pos (by rw [tab_len]; omega), w64_succ (by omega), tab_set, g5]
          exact congrArg some (tab_congr fun y _ => by by_cases h : y = x; rw [if_pos h, if_pos h]; rw [if_neg h, if_neg h, if_neg h])
end
section
theorem byte_ext {a b : Nat} (ha : a < 256) (hb : b < 256) (h : ∀ i, i < 8 → a.testBit i = b.testBit i) : a = b := by
  apply Nat.eq_of_testBit_eq
  intro i
  by_cases hi : i < 8
  · exact h i hi
  · have e : 2 ^ 8 ≤ 2 ^ i := Nat.pow_le_pow_right (by omega) (by omega)
    rw [Nat.testBit_lt_two_pow (by omega), Nat.testBit_lt_two_pow (by omega)]
structure Inv (w : Nat → Nat) (k p : Nat) (M c : Nat → Nat) : Prop where
  lt : ∀ j, M j < 256
  bit : ∀ j, j < k → ∀ y, y < 8 → (M j).testBit y = decide (y < p ∧ c y = j)
  col : ∀ y, y < p → c y < k
  ok : ∀ x, x < p → ∀ y, y < p → c x = c y → (w x).testBit y = false
structure Goes (w : Nat → Nat) (k n p : Nat) (c : Nat → Nat) (lo : Nat) (g : Nat → Nat) : Prop where
  col : ∀ y, y < n → g y < k
  ok : ∀ x, x < n → ∀ y, y < n → g x = g y → (w x).testBit y = false
  old : ∀ y, y < p → g y = c y
  low : lo ≤ g p
def Eb : Nat → Nat
  | 0 => 1
  | r + 1 => 9 * (1 + Eb r)
def Tb : Nat → Nat → Nat
  | 0, _ => 1
  | r + 1, m => (m + 1) * (1 + Eb r)
theorem Tb_le (r : Nat) {m : Nat} (h : m ≤ 8) : Tb r m ≤ Eb r := by
  cases r with
  | zero => exact Nat.le_refl _
  | succ r => exact Nat.mul_le_mul_right _ (by omega)
section
variable {w : Nat → Nat} {k n : Nat} (hw : ∀ x, w x < 256) (sy : ∀ x y, x < 8 → y < 8 → (w x).testBit y = (w y).testBit x) (irr : ∀ x, x < 8 → (w x).testBit x = false) (hk : 1 ≤ k ∧ k ≤ 8) (hn : n ≤ 8)
include hw hn in
theorem not_fits {p : Nat} {M c : Nat → Nat} (hI : Inv w k p M c) {x j : Nat} (hx : x < n) (hj : j < k) (h : ¬ fits w M x j) : ∃ y, y < p ∧ c y = j ∧ (w x).testBit y = true := by
  have _ := hn
  apply Classical.byContradiction
  intro hno
  refine h ((and_zero ⟨M j, hI.lt j⟩ ⟨w x, hw x⟩).2 fun i hi hb => ?_)
  have h1 : (M j).testBit i = true := hb.1
  rw [hI.bit j hj i hi] at h1
  have := of_decide_eq_true h1
  exact hno ⟨i, this.1, this.2, hb.2⟩
include hw hn sy irr in
theorem Inv.put {p : Nat} {M c : Nat → Nat} (hI : Inv w k p M c) (hp : p < n) {j : Nat} (hj : j < k) (hf : fits w M p j) :
    Inv w k (p + 1) (fun i => if i = j then M j ||| 2 ^ p else M i) (fun y => if y = p then j else c y) := by
  have hq : ∀ y, y < p → c y = j → (w p).testBit y = false := by
    intro y hy hc
    have h1 := (and_zero ⟨M j, hI.lt j⟩ ⟨w p, hw p⟩).1 hf y (by omega)
    have h2 : (M j).testBit y = true := by rw [hI.bit j hj y (by omega)]; exact decide_eq_true ⟨hy, hc⟩
    cases h3 : (w p).testBit y with
    | false => rfl
    | true => exact absurd ⟨h2, h3⟩ h1
  refine ⟨fun i => ?_, fun i hi y hy => ?_, fun y hy => ?_, fun x hx y hy e => ?_⟩
  · show (if i = j then M j ||| 2 ^ p else M i) < 256
    split
    · exact lt_or ⟨M j, hI.lt j⟩ ⟨p, by omega⟩
    · exact hI.lt i
  · show (if i = j then M j ||| 2 ^ p else M i).testBit y = _
    by_cases hij : i = j
    · subst hij
      rw [if_pos rfl]
      have := bits_or ⟨M i, hI.lt i⟩ ⟨p, by omega⟩ ⟨y, hy⟩
      simp only [Fin.mk.injEq] at this
      rw [this, hI.bit i hi y hy]
      by_cases hyp : y = p
      · subst hyp; simp
      · simp only [hyp, decide_false, Bool.or_false, if_false]
        exact decide_eq_decide.2 (by omega)
    · rw [if_neg hij, hI.bit i hi y hy]
      by_cases hyp : y = p
      · subst hyp
        simp only [if_true]
        exact decide_eq_decide.2 (by omega)
      · simp only [hyp, if_false]
        exact decide_eq_decide.2 (by omega)
  · show (if y = p then j else c y) < k
    by_cases h : y = p
    · rw [if_pos h]; exact hj
    · rw [if_neg h]; exact hI.col y (by omega)
  · have e2 : (if x = p then j else c x) = (if y = p then j else c y) := e
    clear e
    by_cases h1 : x = p <;> by_cases h2 : y = p
    · rw [h1, h2]; exact irr p (by omega)
    · rw [if_pos h1, if_neg h2] at e2; rw [h1]; exact hq y (by omega) e2.symm
    · rw [if_neg h1, if_pos h2] at e2; rw [h2, sy x p (by omega) (by omega)]; exact hq x (by omega) e2
    · rw [if_neg h1, if_neg h2] at e2; exact hI.ok x (by omega) y (by omega) e2
theorem round_fit {F : Nat} {p j : Nat} {M c : Nat → Nat} (hp : p < n) (hn : n ≤ 8) (hM : ∀ j, M j < 256) (hj : j < k) (e5 : f72_p5_1 F 0 k k n p (tab 8 w) (tab k M) F (tab n c) = some (tab n (fun y => if y = p then j else c y))) (fu : Nat) :
    f72_p1 F 0 k k n (tab 8 w) (fu + 1) p (tab k M) (tab n c) = f72_p1 F 0 k k n (tab 8 w) fu (p + 1 : Nat) (tab k (fun i => if i = j then M j ||| 2 ^ p else M i)) (tab n (fun y => if y = p then j else c y)) := by
  rw [f72_p1, if_pos (by simp; omega), e5, Option.bind_some, req_pos (by omega), Int.toNat_natCast, Nat.zero_add, tab_get _ hp, Option.bind_some, if_pos rfl, if_pos (by simp; omega), req_pos (by omega), Int.toNat_natCast, Nat.zero_add, tab_get _ hj, Option.bind_some, req_pos (by omega), req_pos (by rw [tab_len]; omega), w64_succ (by omega)]
  have := or_bit ⟨M j, hM j⟩ ⟨p, by omega⟩
  simp only at this
  rw [this, tab_set]
theorem round_back {F : Nat} {p : Nat} {M c : Nat → Nat} (hp : p + 1 < n) (hn : n ≤ 8) (hM : ∀ j, M j < 256) (hc : c p < k) (hk : k ≤ 8) (e5 : f72_p5_1 F 0 k k n (p + 1 : Nat) (tab 8 w) (tab k M) F (tab n c) = some (tab n (fun y => if y = p + 1 then k else c y))) (fu : Nat) :
    f72_p1 F 0 k k n (tab 8 w) (fu + 1) (p + 1 : Nat) (tab k M) (tab n c) = f72_p1 F 0 k k n (tab 8 w) fu p (tab k (fun i => if i = c p then M (c p) &&& (255 - 2 ^ p) else M i)) (tab n (fun y => if y = p then c p + 1 else if y = p + 1 then 0 else c y)) := by
  have hne : ¬ (((p + 1 : Nat) : Int) == 0) = true := by simp; omega
  have ew : w64 (((p + 1 : Nat) : Int) - 1) = (p : Int) := by rw [w64_in (by omega)]; omega
  have hset : List.set (tab n (fun y => if y = p + 1 then k else c y)) (p + 1) (0 : Int) = tab n (fun y => if y = p + 1 then 0 else c y) := by
    rw [show (0 : Int) = ((0 : Nat) : Int) from rfl, tab_set]
    exact tab_congr fun y _ => by by_cases h : y = p + 1; rw [if_pos h, if_pos h]; rw [if_neg h, if_neg h, if_neg h]
  rw [f72_p1, if_pos (by simp; omega), e5, Option.bind_some, req_pos (by omega), Int.toNat_natCast, Nat.zero_add, tab_get _ hp, Option.bind_some, if_pos rfl, if_neg (by simp), req_pos (by rw [tab_len]; omega), if_neg hne, ew, req_pos (by omega), hset, Int.toNat_natCast, Nat.zero_add, tab_get _ (by omega), Option.bind_some, if_neg (by omega), req_pos (by omega), Int.toNat_natCast, Nat.zero_add, tab_get _ hc, Option.bind_some, req_pos (by omega), req_pos (by rw [tab_len]; omega), req_pos (by rw [tab_len]; omega)]
  have := andNot_bit ⟨M (c p), hM _⟩ ⟨p, by omega⟩
  simp only at this
  rw [this, tab_set, w64_succ (by omega), tab_set]
theorem round_none {F : Nat} {M c : Nat → Nat} (hp : 0 < n) (hn : n ≤ 8) (e5 : f72_p5_1 F 0 k k n (0 : Nat) (tab 8 w) (tab k M) F (tab n c) = some (tab n (fun y => if y = 0 then k else c y))) (fu : Nat) :
    f72_p1 F 0 k k n (tab 8 w) (fu + 1) (0 : Nat) (tab k M) (tab n c) = some (.c0 (tab k M)) := by
  rw [f72_p1, if_pos (by simp; omega), e5, Option.bind_some, req_pos (by omega), Int.toNat_natCast, Nat.zero_add, tab_get _ hp, Option.bind_some, if_pos rfl, if_neg (by simp), req_pos (by rw [tab_len]; omega), if_pos (by rfl)]
end
end
section
section
variable {w : Nat → Nat} {k n : Nat} (hw : ∀ x, w x < 256) (sy : ∀ x y, x < 8 → y < 8 → (w x).testBit y = (w y).testBit x) (irr : ∀ x, x < 8 → (w x).testBit x = false) (hk : k ≤ 8) (hn : n ≤ 8)
def Ends (F : Nat) (w : Nat → Nat) (k n p : Nat) (M c : Nat → Nat) (d : Nat) : Prop :=
  (∃ M' c', Inv w k n M' c' ∧ ∀ fu, f72_p1 F 0 k k n (tab 8 w) (fu + d) p (tab k M) (tab n c) = some (.c1 (tab k M') (tab n c'))) ∨
  ((¬ ∃ g, Goes w k n p c (c p) g) ∧ p < n ∧
    ((p = 0 ∧ ∀ fu, ∃ X, f72_p1 F 0 k k n (tab 8 w) (fu + d) p (tab k M) (tab n c) = some (.c0 X)) ∨
     ∃ p', p = p' + 1 ∧ ∀ fu, f72_p1 F 0 k k n (tab 8 w) (fu + d) p (tab k M) (tab n c) = f72_p1 F 0 k k n (tab 8 w) fu p' (tab k (fun i => if i = c p' then M (c p') &&& (255 - 2 ^ p') else M i)) (tab n (fun y => if y = p' then c p' + 1 else if y = p' + 1 then 0 else c y))))
include hw sy irr hk hn in
theorem search {F : Nat} (hF : 10 ≤ F) : ∀ (r p : Nat), n = p + r → ∀ (m : Nat) (M c : Nat → Nat), Inv w k p M c → (∀ y, p < y → y < n → c y = 0) → (p < n → c p ≤ k ∧ k - c p = m) →
    ∃ d, d ≤ Tb r m ∧ Ends F w k n p M c d := by
  intro r
  induction r with
  | zero =>
    intro p hp m M c hI _ _
    refine ⟨1, Nat.le_refl _, .inl ⟨M, c, by rw [hp]; simpa using hI, fun fu => ?_⟩⟩
    rw [f72_p1, if_neg (by simp; omega)]
  | succ r ihr =>
    intro p hpr m
    have hp : p < n := by omega
    induction m using Nat.strongRecOn with
    | ind m ihm =>
    intro M c hI h0 hc
    obtain ⟨hc1, hc2⟩ := hc hp
    obtain ⟨j, a1, a2, a3, a4, a5⟩ := f72_p5_eq (F := F) (k := k) hn hw hI.lt hp m c F hc1 hc2 (by omega) hk
    have low : ∀ g, Goes w k n p c (c p) g → j ≤ g p := by
      intro g hg
      apply Classical.byContradiction
      intro hlt
      have hgk := hg.col p hp
      obtain ⟨y, y1, y2, y3⟩ := not_fits hw hn hI hp (j := g p) hgk (a3 _ hg.low (by omega))
      have := hg.ok p hp y (by omega) (by rw [hg.old y y1, y2])
      rw [this] at y3; cases y3
    have hT : Tb (r + 1) m = (m + 1) * (1 + Eb r) := rfl
    by_cases hjk : j = k
    · subst hjk
      refine ⟨1, by rw [hT]; exact Nat.le_trans (by omega : 1 ≤ 1 * (1 + Eb r)) (Nat.mul_le_mul_right _ (by omega)), .inr ⟨?_, hp, ?_⟩⟩
      · rintro ⟨g, hg⟩
        have h1 := low g hg
        have h2 := hg.col p hp
        omega
      · cases p with
        | zero => exact .inl ⟨rfl, fun fu => ⟨_, round_none hp hn a5 fu⟩⟩
        | succ p' => exact .inr ⟨p', rfl, fun fu => round_back hp hn hI.lt (hI.col p' (by omega)) hk a5 fu⟩
    · have hj : j < k := by omega
      have hI2 := hI.put hw sy irr hn hp hj (a4 hj)
      have step := fun fu => round_fit (F := F) (w := w) hp hn hI.lt hj a5 fu
      obtain ⟨d2, b1, b2⟩ := ihr (p + 1) (by omega) k _ _ hI2 (fun y h1 h2 => by rw [if_neg (by omega)]; exact h0 y (by omega) h2) (fun h => by rw [if_neg (by omega), h0 (p + 1) (by omega) h]; omega)
      have b3 := Nat.le_trans b1 (Tb_le r hk)
      rcases b2 with ⟨M', c', g1, g2⟩ | ⟨g1, g2, g3⟩
      · refine ⟨d2 + 1, ?_, .inl ⟨M', c', g1, fun fu => ?_⟩⟩
        · rw [hT]; exact Nat.le_trans (by omega : d2 + 1 ≤ 1 * (1 + Eb r)) (Nat.mul_le_mul_right _ (by omega))
        · rw [← Nat.add_assoc, step, g2]
      · rcases g3 with ⟨h, _⟩ | ⟨p', hp', g4⟩
        · omega
        obtain rfl : p' = p := by omega
        -- back at p with the next room
        let c4 : Nat → Nat := fun y => if y = p' then j + 1 else c y
        have e4 : c4 p' = j + 1 := if_pos rfl
        have o4 : ∀ y, y ≠ p' → c4 y = c y := fun y h => if_neg h
        have hI4 : Inv w k p' M c4 := ⟨hI.lt, fun i hi y hy => by
            rw [hI.bit i hi y hy]
            by_cases h : y = p'
            · subst h; simp
            · rw [o4 y h], fun y hy => by rw [o4 y (by omega)]; exact hI.col y hy, fun x hx y hy e => by
            rw [o4 x (by omega), o4 y (by omega)] at e; exact hI.ok x hx y hy e⟩
        obtain ⟨d3, fa1, fa2⟩ := ihm (k - (j + 1)) (by omega) M c4 hI4 (fun y h1 h2 => by rw [o4 y (by omega)]; exact h0 y h1 h2) (fun _ => by rw [e4]; omega)
        have hback : ∀ fu, f72_p1 F 0 k k n (tab 8 w) (fu + d2 + 1) p' (tab k M) (tab n c) = f72_p1 F 0 k k n (tab 8 w) fu p' (tab k M) (tab n c4) := by
          intro fu
          rw [step, g4]
          have t1 : tab k (fun i => if i = (if p' = p' then j else c p') then (if (if p' = p' then j else c p') = j then M j ||| 2 ^ p' else M (if p' = p' then j else c p')) &&& (255 - 2 ^ p') else if i = j then M j ||| 2 ^ p' else M i) = tab k M := by
            refine tab_congr fun i hi => ?_
            simp only [if_true]
            by_cases h : i = j
            · rw [if_pos h, h]
              refine byte_ext (lt_andNot ⟨M j ||| 2 ^ p', lt_or ⟨M j, hI.lt j⟩ ⟨p', by omega⟩⟩ ⟨p', by omega⟩) (hI.lt j) fun y hy => ?_
              have q1 := bits_andNot ⟨M j ||| 2 ^ p', lt_or ⟨M j, hI.lt j⟩ ⟨p', by omega⟩⟩ ⟨p', by omega⟩ ⟨y, hy⟩
              have q2 := bits_or ⟨M j, hI.lt j⟩ ⟨p', by omega⟩ ⟨y, hy⟩
              simp only [Fin.mk.injEq, ne_eq] at q1 q2
              rw [q1, q2, hI.bit j hj y hy]
              by_cases hyp : y = p'
              · subst hyp; simp
              · simp [hyp]
            · rw [if_neg h, if_neg h]
          have t2 : tab n (fun y => if y = p' then (if p' = p' then j else c p') + 1 else if y = p' + 1 then 0 else if y = p' then j else c y) = tab n c4 := by
            refine tab_congr fun y hy => ?_
            simp only [if_true]
            by_cases h : y = p'
            · rw [if_pos h, h, e4]
            · rw [if_neg h, o4 y h]
              by_cases h2 : y = p' + 1
              · rw [if_pos h2, h2, h0 _ (by omega) (by omega)]
              · rw [if_neg h2, if_neg h]
          rw [t1, t2]
        have hb : d3 + d2 + 1 ≤ Tb (r + 1) m := by
          rw [hT]
          have e : Tb (r + 1) (k - (j + 1)) = (k - (j + 1) + 1) * (1 + Eb r) := rfl
          rw [e] at fa1
          have h1 : (k - (j + 1) + 1) * (1 + Eb r) ≤ m * (1 + Eb r) := Nat.mul_le_mul_right _ (by omega)
          have h2 : (m + 1) * (1 + Eb r) = m * (1 + Eb r) + (1 + Eb r) := by rw [Nat.add_mul, Nat.one_mul]
          omega
        have hrun : ∀ fu, f72_p1 F 0 k k n (tab 8 w) (fu + (d3 + d2 + 1)) p' (tab k M) (tab n c) = f72_p1 F 0 k k n (tab 8 w) (fu + d3) p' (tab k M) (tab n c4) := by
          intro fu
          rw [show fu + (d3 + d2 + 1) = (fu + d3) + d2 + 1 by omega, hback]
        refine ⟨d3 + d2 + 1, hb, ?_⟩
        rcases fa2 with ⟨M', c', x1, x2⟩ | ⟨x1, x2, x3⟩
        · exact .inl ⟨M', c', x1, fun fu => by rw [hrun, x2]⟩
        · refine .inr ⟨?_, hp, ?_⟩
          · rintro ⟨g, hg⟩
            have h1 := low g hg
            by_cases hgj : g p' = j
            · refine g1 ⟨g, hg.col, hg.ok, fun y hy => ?_, ?_⟩
              · by_cases h : y = p'
                · rw [if_pos h, h]; exact hgj
                · rw [if_neg h]; exact hg.old y (by omega)
              · show (if p' + 1 = p' then j else c (p' + 1)) ≤ _
                rw [if_neg (by omega), h0 (p' + 1) (by omega) g2]; exact Nat.zero_le _
            · exact x1 ⟨g, hg.col, hg.ok, fun y hy => by rw [o4 y (by omega)]; exact hg.old y hy, by rw [e4]; omega⟩
          · rcases x3 with ⟨z1, z2⟩ | ⟨q, z1, z2⟩
            · exact .inl ⟨z1, fun fu => by obtain ⟨X, hX⟩ := z2 fu; exact ⟨X, by rw [hrun]; exact hX⟩⟩
            · refine .inr ⟨q, z1, fun fu => ?_⟩
              rw [hrun, z2, o4 q (by omega)]
              congr 1
              refine tab_congr fun y _ => ?_
              by_cases h : y = q
              · rw [if_pos h, if_pos h]
              · rw [if_neg h, if_neg h]
                by_cases h2 : y = q + 1
                · rw [if_pos h2, if_pos h2]
                · rw [if_neg h2, if_neg h2, o4 y (by omega)]
end
end
section
structure Proper (w : Nat → Nat) (n k : Nat) (g : Nat → Nat) : Prop where
  col : ∀ y, y < n → g y < k
  ok : ∀ x, x < n → ∀ y, y < n → g x = g y → (w x).testBit y = false
theorem Eb_mono : ∀ r, r ≤ 8 → Eb r ≤ 91474281 := by
  intro r hr
  match r, hr with
  | 0, _ | 1, _ | 2, _ | 3, _ | 4, _ | 5, _ | 6, _ | 7, _ | 8, _ => decide
section
variable {w : Nat → Nat} {n : Nat} (hw : ∀ x, w x < 256) (sy : ∀ x y, x < 8 → y < 8 → (w x).testBit y = (w y).testBit x) (irr : ∀ x, x < 8 → (w x).testBit x = false) (hn : 1 ≤ n ∧ n ≤ 8)
include hw sy irr hn in
theorem f72_eq {F : Nat} (hF : 100000000 ≤ F) {k : Nat} (hk : 1 ≤ k ∧ k ≤ 8) :
    (∃ c X, Proper w n k c ∧ f72 F 0 k k n (tab 8 w) (List.replicate k (0 : Int)) = some (tab n c, true, X)) ∨
    ((¬ ∃ g, Proper w n k g) ∧ ∃ X, f72 F 0 k k n (tab 8 w) (List.replicate k (0 : Int)) = some ([], false, X)) := by
  have hI : Inv w k 0 (fun _ => 0) (fun _ => 0) := ⟨fun _ => by decide, fun _ _ y _ => by simp, fun y h => by omega, fun x h => by omega⟩
  obtain ⟨d, hd, hE⟩ := search hw sy irr hk.2 hn.2 (F := F) (by omega) n 0 (by omega) k (fun _ => 0) (fun _ => 0) hI (fun _ _ _ => rfl) (fun _ => ⟨Nat.zero_le _, rfl⟩)
  have hdF : d ≤ F := by
    have h1 := Tb_le n hk.2
    have h2 := Eb_mono n hn.2
    omega
  have e : F = (F - d) + d := by omega
  have pre : f72 F 0 k k n (tab 8 w) (List.replicate k (0 : Int)) = Option.bind (f72_p1 F 0 k k n (tab 8 w) F ((0 : Nat) : Int) (tab k (fun _ => 0)) (tab n (fun _ => 0))) (fun
      | .c0 x33 => some (([] : List Int), false, x33)
      | .c1 x34 x35 => req ((0 + n) ≤ List.length x35) <| some ((List.drop 0 (List.take (0 + n) x35)), true, x34)) := by
    unfold f72
    rw [req_pos (by omega), Int.toNat_natCast, tab_zero, tab_zero]
    rfl
  rw [pre]
  rcases hE with ⟨M', c', g1, g2⟩ | ⟨g1, g2, g3⟩
  · refine .inl ⟨c', tab k M', ⟨g1.col, g1.ok⟩, ?_⟩
    have := g2 (F - d)
    rw [← e] at this
    rw [this, Option.bind_some]
    show req _ _ = _
    rw [req_pos (by rw [tab_len]; omega), List.drop_zero, Nat.zero_add, List.take_of_length_le (by rw [tab_len]; exact Nat.le_refl _)]
  · refine .inr ⟨fun ⟨g, hg⟩ => g1 ⟨g, hg.col, hg.ok, fun y h => by omega, Nat.zero_le _⟩, ?_⟩
    rcases g3 with ⟨_, g4⟩ | ⟨p', h, _⟩
    · obtain ⟨X, hX⟩ := g4 (F - d)
      rw [← e] at hX
      exact ⟨X, by rw [hX, Option.bind_some]⟩
    · omega
include hw sy irr hn in
theorem f31_p2_1_eq {F : Nat} (hF : 100000000 ≤ F) : ∀ (fu j : Nat), 1 ≤ j → j ≤ n → n < fu + j → (∀ k, k < j → ¬ ∃ g, Proper w n k g) →
    (f31_p2_1 F n (tab 8 w) fu j = some .c1 ∧ ∀ k, k < n → ¬ ∃ g, Proper w n k g) ∨
    ∃ c k, Proper w n k c ∧ (∀ i, i < k → ¬ ∃ g, Proper w n i g) ∧ f31_p2_1 F n (tab 8 w) fu j = some (.c0 (tab n c)) := by
  intro fu
  induction fu with
  | zero => intro j h1 h2 h3; omega
  | succ fu ih =>
    intro j h1 h2 h3 h4
    unfold f31_p2_1
    by_cases hj : j < n
    · rw [if_pos (by simp; omega), req_pos (by omega), Int.toNat_natCast]
      rcases f72_eq hw sy irr hn hF (k := j) (by omega) with ⟨c, X, g1, g2⟩ | ⟨g1, X, g2⟩
      · rw [g2, Option.bind_some]
        exact .inr ⟨c, j, g1, h4, rfl⟩
      · rw [g2, Option.bind_some]
        show (if false = true then _ else _) = _ ∧ _ ∨ ∃ c k, _ ∧ _ ∧ (if false = true then _ else _) = _
        rw [if_neg (by simp), w64_succ (by omega)]
        refine ih (j + 1) (by omega) (by omega) (by omega) fun k hk => ?_
        by_cases hkj : k = j
        · rw [hkj]; exact g1
        · exact h4 k (by omega)
    · rw [if_neg (by simp; omega)]
      exact .inl ⟨rfl, fun k hk => h4 k (by omega)⟩
theorem f31_p7_eq {F : Nat} (hn : n ≤ 8) : ∀ (fu j : Nat), j ≤ n → n < fu + j → f31_p7 F n fu j (tab j id) = some (tab n id) := by
  intro fu
  induction fu with
  | zero => intro j h1 h2; omega
  | succ fu ih =>
    intro j h1 h2
    unfold f31_p7
    by_cases hj : j < n
    · rw [if_pos (by simp; omega), req_pos (by rw [tab_len]; simp; omega), w64_succ (by omega)]
      have : tab j id ++ [(j : Int)] = tab (j + 1) id := by unfold tab; rw [List.range_succ, List.map_append]; rfl
      rw [this]
      exact ih (j + 1) (by omega) (by omega)
    · rw [if_neg (by simp; omega), show j = n by omega]
include hw sy irr hn in
theorem rooms_eq {F : Nat} (hF : 100000000 ≤ F) {a : Int} {q : List (Int × (Int × Unit))} (ho : f70 F a q = some (.c1 0 n (tab 8 w))) :
    ∃ c, f31 F a q = some (tab n c, 0) ∧ Proper w n n c ∧ ∀ k g, Proper w n k g → ∀ y, y < n → c y < k := by
  unfold f31
  rw [ho, Option.bind_some]
  show ∃ c, (if ((0 : Int) != 0) = true then _ else _) = _ ∧ _
  rw [if_neg (by decide)]
  have h0 : ∀ k, k < 1 → ¬ ∃ g, Proper w n k g := fun k hk ⟨g, hg⟩ => by have := hg.col 0 (by omega); omega
  rcases f31_p2_1_eq hw sy irr hn hF F 1 (Nat.le_refl _) hn.1 (by omega) h0 with ⟨g1, g2⟩ | ⟨c, k, g1, g2, g3⟩
  · have e1 : f31_p2_1 F n (tab 8 w) F 1 = some .c1 := g1
    rw [e1, Option.bind_some]
    have e2 : f31_p7 F n F 0 ([] : List Int) = some (tab n id) := f31_p7_eq hn.2 F 0 (by omega) (by omega)
    refine ⟨id, ?_, ⟨fun y hy => hy, fun x hx y hy e => ?_⟩, fun k g hg y hy => ?_⟩
    · show Option.bind (f31_p7 F n F 0 ([] : List Int)) _ = _
      rw [e2, Option.bind_some, List.drop_zero, Nat.zero_add, List.take_of_length_le (Nat.le_refl _)]
    · have e : x = y := e
      rw [e]; exact irr y (by omega)
    · apply Classical.byContradiction
      intro h
      exact g2 k (by have : y < n := hy; simp only [id] at h; omega) ⟨g, hg⟩
  · have e1 : f31_p2_1 F n (tab 8 w) F 1 = some (.c0 (tab n c)) := g3
    rw [e1, Option.bind_some]
    have hkn : k ≤ n := by
      apply Classical.byContradiction
      intro h
      exact g2 n (by omega) ⟨id, fun y hy => hy, fun x hx y hy e => by have e : x = y := e; rw [e]; exact irr y (by omega)⟩
    refine ⟨c, rfl, ⟨fun y hy => Nat.lt_of_lt_of_le (g1.col y hy) hkn, g1.ok⟩, fun k' g hg y hy => ?_⟩
    apply Classical.byContradiction
    intro h
    have h2 := g1.col y hy
    exact g2 k' (by omega) ⟨g, hg⟩
end
end
section
def els (s : Nat) : List Nat := (List.range 8).filter fun i => s.testBit i
def ints (l : List Nat) : List Int := l.map Int.ofNat
theorem ints_len (l : List Nat) : (ints l).length = l.length := by simp [ints]
theorem ints_at {l : List Nat} {i : Nat} (h : i < l.length) : at? (ints l) (i : Int) = some ((l[i] : Nat) : Int) :=
  at_of (by rw [ints, List.getElem?_map, List.getElem?_eq_getElem h]; rfl)
abbrev FF : Nat := 100000000
theorem f85_eq : ∀ s : Fin 256, f85 FF (s.val : Int) = some (ints (els s.val)) := by decide +kernel
theorem wrap_byte : ∀ s : Fin 256, IntKind.wrap .u8 (s.val : Int) = (s.val : Int) := by decide +kernel
theorem shl_pow : ∀ n : Fin 9, iShl .i64 1 (n.val : Int) = ((2 ^ n.val : Nat) : Int) := by decide +kernel
theorem shl_byte : ∀ n : Fin 8, iShl .u8 1 (n.val : Int) = ((2 ^ n.val : Nat) : Int) := by decide +kernel
theorem andNot_byte (a b : Fin 256) : iAndNot .u8 (a.val : Int) (b.val : Int) = ((a.val &&& (255 - b.val) : Nat) : Int) := by
  show IntKind.u8.wrap (((BitVec.ofInt 8 (a.val : Int) &&& ~~~BitVec.ofInt 8 (b.val : Int)).toNat : Nat) : Int) = _
  rw [BitVec.ofInt_natCast, BitVec.ofInt_natCast, BitVec.toNat_and, BitVec.toNat_not, BitVec.toNat_ofNat, BitVec.toNat_ofNat, Nat.mod_eq_of_lt (show a.val < 2 ^ 8 from a.isLt), Nat.mod_eq_of_lt (show b.val < 2 ^ 8 from b.isLt)]
  have h1 : a.val &&& (2 ^ 8 - 1 - b.val) ≤ a.val := Nat.and_le_left
  have h2 : a.val &&& (2 ^ 8 - 1 - b.val) < 256 := by have := a.isLt; omega
  rw [show 255 - b.val = 2 ^ 8 - 1 - b.val from rfl]
  generalize a.val &&& (2 ^ 8 - 1 - b.val) = q at *
  simp only [IntKind.wrap, IntKind.signed, IntKind.bits]
  simp
  omega
theorem not_bits : ∀ (b : Fin 256) (y : Fin 8), (255 - b.val).testBit y.val = !(b.val.testBit y.val) := by decide +kernel
theorem pow_bits : ∀ x y : Fin 8, (2 ^ x.val).testBit y.val = decide (y = x) := by decide +kernel
theorem pow_lt : ∀ x : Fin 8, 2 ^ x.val < 256 := by decide
theorem mem_els {s i : Nat} : i ∈ els s ↔ i < 8 ∧ s.testBit i = true := by simp [els]
section
variable {w : Nat → Nat} (hw : ∀ x, w x < 256) (irr : ∀ x, x < 8 → (w x).testBit x = false)
def Brl (w : Nat → Nat) (s : Nat) : Prop := ∀ x ∈ els s, ∀ y ∈ els s, x ≠ y → (w x).testBit y = true
include hw irr in
theorem one_is {s x : Nat} (hs : s < 256) (hx : x ∈ els s) : (s &&& (255 - w x) = 2 ^ x) ↔ ∀ y ∈ els s, x ≠ y → (w x).testBit y = true := by
  obtain ⟨hx8, hxs⟩ := mem_els.1 hx
  have hb : ∀ y, y < 8 → (s &&& (255 - w x)).testBit y = (s.testBit y && !((w x).testBit y)) := by
    intro y hy
    rw [Nat.testBit_and]
    have := not_bits ⟨w x, hw x⟩ ⟨y, hy⟩
    simp only at this
    rw [this]
  have hp : ∀ y, y < 8 → (2 ^ x).testBit y = decide (y = x) := by
    intro y hy
    have := pow_bits ⟨x, hx8⟩ ⟨y, hy⟩
    simpa only [Fin.mk.injEq] using this
  constructor
  · intro h y hy hxy
    obtain ⟨hy8, hys⟩ := mem_els.1 hy
    have h1 := hb y hy8
    rw [h, hp y hy8, hys, decide_eq_false (fun e => hxy e.symm)] at h1
    simpa using h1.symm
  · intro h
    refine byte_ext ?_ (pow_lt ⟨x, hx8⟩) fun y hy => ?_
    · have : s &&& (255 - w x) ≤ s := Nat.and_le_left
      omega
    · rw [hb y hy, hp y hy]
      by_cases hyx : y = x
      · subst hyx; rw [hxs, irr y hy]; simp
      · rw [decide_eq_false hyx]
        cases hys : s.testBit y with
        | false => rfl
        | true => rw [h y (mem_els.2 ⟨hy, hys⟩) fun e => hyx e.symm]; rfl
include hw irr in
theorem f106_p1_eq {s : Nat} (hs : s < 256) (n : Int) : ∀ (fu : Nat) (p q : List Nat), els s = p ++ q → q.length < fu → p.length + q.length ≤ 8 →
    f106_p1 FF (s : Int) (ints (els s)) n (tab 8 w) fu (p.length : Int) = some (if ∀ x ∈ q, ∀ y ∈ els s, x ≠ y → (w x).testBit y = true then .c1 else .c0) := by
  classical
  intro fu
  induction fu with
  | zero => intro p q _ h; omega
  | succ fu ih =>
    intro p q e h h8
    unfold f106_p1
    rw [ints_len]
    have el : (els s).length = p.length + q.length := by rw [e, List.length_append]
    cases q with
    | nil => rw [if_neg (by simp at el ⊢; omega), if_pos (by simp)]
    | cons x q =>
      simp only [List.length_cons] at el h h8
      have hx : x ∈ els s := by rw [e]; simp
      obtain ⟨hx8, _⟩ := mem_els.1 hx
      have hg : (els s)[p.length]? = some x := by rw [e]; simp
      have ha : at? (ints (els s)) (p.length : Int) = some (x : Int) := at_of (by rw [ints, List.getElem?_map, hg]; rfl)
      have h1 := andNot_byte ⟨s, hs⟩ ⟨w x, hw x⟩
      have h2 := shl_byte ⟨x, hx8⟩
      simp only at h1 h2
      rw [if_pos (by simp; omega), ha, Option.bind_some, req_pos (by omega), Int.toNat_natCast, Nat.mul_one, Nat.zero_add, tab_get _ hx8, Option.bind_some, req_pos (by omega), h1, h2]
      by_cases hq : s &&& (255 - w x) = 2 ^ x
      · rw [if_neg (by simp [hq]), w64_succ (by omega)]
        have := ih (p ++ [x]) q (by rw [e]; simp) (by omega) (by simp; omega)
        rw [show ((p.length + 1 : Nat) : Int) = ((p ++ [x]).length : Int) by simp, this]
        have hall := (one_is hw irr hs hx).1 hq
        congr 1
        by_cases hr : ∀ x ∈ q, ∀ y ∈ els s, x ≠ y → (w x).testBit y = true
        · rw [if_pos hr, if_pos (by intro z hz; rcases List.mem_cons.1 hz with rfl | hz; exact hall; exact hr z hz)]
        · rw [if_neg hr, if_neg (fun h => hr fun z hz => h z (by simp [hz]))]
      · have hne : ((s &&& (255 - w x) : Nat) : Int) ≠ ((2 ^ x : Nat) : Int) := by omega
        rw [if_pos (by simpa using hne), if_neg (fun h => hq ((one_is hw irr hs hx).2 (h x (by simp))))]
open Classical in
include hw irr in
theorem f106_eq {s : Nat} (hs : s < 256) (n : Int) : f106 FF (s : Int) n (tab 8 w) = some (decide (Brl w s)) := by
  unfold f106
  rw [f85_eq ⟨s, hs⟩, Option.bind_some]
  have h8 : (els s).length ≤ 8 := by
    have := List.length_filter_le (fun i => s.testBit i) (List.range 8)
    simpa [els] using this
  have := f106_p1_eq hw irr hs n FF [] (els s) rfl (show (els s).length < 100000000 by omega) (by simp; omega)
  rw [show ((([] : List Nat).length : Nat) : Int) = 0 from rfl] at this
  rw [this, Option.bind_some]
  by_cases h : Brl w s
  · rw [decide_eq_true h, if_pos (show ∀ x ∈ els s, ∀ y ∈ els s, x ≠ y → (w x).testBit y = true from h)]
  · rw [decide_eq_false h, if_neg (show ¬ ∀ x ∈ els s, ∀ y ∈ els s, x ≠ y → (w x).testBit y = true from h)]
end
end
section
theorem f136_some (F : Nat) (a b : Int) : ∃ r, f136 F a b = some r := by
  unfold f136 f147
  simp only [Option.bind_some]
  (repeat' split) <;> exact ⟨_, rfl⟩
theorem f107_p1_some {F : Nat} {a b : List Nat} (h : a.length = b.length) (h8 : a.length ≤ 8) : ∀ (fu i : Nat), i ≤ a.length → a.length < fu + i → ∃ r, f107_p1 F (ints a) (ints b) fu i = some r := by
  intro fu
  induction fu with
  | zero => intro i h1 h2; omega
  | succ fu ih =>
    intro i h1 h2
    unfold f107_p1
    rw [ints_len, ints_len]
    by_cases hi : i < a.length
    · rw [if_pos (by simp; omega), ints_at hi, Option.bind_some, if_neg (by simp; omega), ints_at (show i < b.length by omega), Option.bind_some]
      obtain ⟨r, hr⟩ := f136_some F (a[i] : Nat) (b[i] : Nat)
      rw [hr, Option.bind_some]
      split
      · exact ⟨_, rfl⟩
      · rw [w64_succ (by omega)]; exact ih (i + 1) (by omega) (by omega)
    · rw [if_neg (by simp; omega)]; exact ⟨_, rfl⟩
theorem f107_some {a b : List Nat} (h : a.length = b.length) (h8 : a.length ≤ 8) : ∃ r, f107 FF (ints a) (ints b) = some r := by
  unfold f107
  obtain ⟨r, hr⟩ := f107_p1_some (F := FF) h h8 FF 0 (Nat.zero_le _) (show a.length < 100000000 + 0 by omega)
  have hr : f107_p1 FF (ints a) (ints b) FF 0 = some r := hr
  rw [hr, Option.bind_some]
  cases r with
  | c0 x => exact ⟨_, rfl⟩
  | c1 => simp only []; split <;> exact ⟨_, rfl⟩
theorem els_len (s : Nat) : (els s).length ≤ 8 := by
  have := List.length_filter_le (fun i => s.testBit i) (List.range 8)
  simpa [els] using this
section
variable {w : Nat → Nat} {n : Nat} (hw : ∀ x, w x < 256) (irr : ∀ x, x < 8 → (w x).testBit x = false) (hn : 1 ≤ n ∧ n ≤ 8)
include hw irr hn in
theorem f71_1_p1_eq : ∀ (fu j : Nat) (best : List Nat), 1 ≤ j → j ≤ 2 ^ n → 2 ^ n < fu + j → (best = [] ∨ ∃ s, 1 ≤ s ∧ s < 2 ^ n ∧ best = els s ∧ Brl w s) → (∀ s, 1 ≤ s → s < j → Brl w s → (els s).length ≤ best.length) →
    ∃ best', f71_1_p1 FF n (tab 8 w) fu (ints best) j = some (ints best') ∧ (best' = [] ∨ ∃ s, 1 ≤ s ∧ s < 2 ^ n ∧ best' = els s ∧ Brl w s) ∧ ∀ s, 1 ≤ s → s < 2 ^ n → Brl w s → (els s).length ≤ best'.length := by
  classical
  have h256 : 2 ^ n ≤ 256 := show 2 ^ n ≤ 2 ^ 8 from Nat.pow_le_pow_right (by omega) hn.2
  intro fu
  induction fu with
  | zero => intro j best h1 h2 h3; omega
  | succ fu ih =>
    intro j best h1 h2 h3 h4 h5
    have hs := shl_pow ⟨n, by omega⟩
    simp only at hs
    unfold f71_1_p1
    rw [req_pos (by omega), hs]
    have hb8 : best.length ≤ 8 := by
      rcases h4 with rfl | ⟨s, _, _, rfl, _⟩
      · simp
      · exact els_len s
    by_cases hj : j < 2 ^ n
    · have hwr := wrap_byte ⟨j, by omega⟩
      have hel := f85_eq ⟨j, by omega⟩
      simp only at hwr hel
      have nxt : ∀ b', (b' = [] ∨ ∃ s, 1 ≤ s ∧ s < 2 ^ n ∧ b' = els s ∧ Brl w s) → best.length ≤ b'.length → (Brl w j → (els j).length ≤ b'.length) →
          ∃ best', f71_1_p1 FF n (tab 8 w) fu (ints b') (w64 ((j : Int) + 1)) = some (ints best') ∧ (best' = [] ∨ ∃ s, 1 ≤ s ∧ s < 2 ^ n ∧ best' = els s ∧ Brl w s) ∧ ∀ s, 1 ≤ s → s < 2 ^ n → Brl w s → (els s).length ≤ best'.length := by
        intro b' g1 g2 g3
        rw [w64_succ (by omega)]
        refine ih (j + 1) b' (by omega) (by omega) (by omega) g1 fun s hs1 hs2 hs3 => ?_
        by_cases hsj : s = j
        · subst hsj; exact g3 hs3
        · exact Nat.le_trans (h5 s hs1 (by omega) hs3) g2
      rw [if_pos (by simp; exact_mod_cast hj), hwr, hel, Option.bind_some, ints_len, ints_len]
      by_cases hge : best.length ≤ (els j).length
      · rw [if_pos (by simp; omega), f106_eq hw irr (by omega), Option.bind_some]
        by_cases hB : Brl w j
        · rw [decide_eq_true hB, if_pos rfl]
          by_cases hgt : best.length < (els j).length
          · rw [if_pos (by simp; omega)]
            exact nxt (els j) (.inr ⟨j, h1, hj, rfl, hB⟩) hge fun _ => Nat.le_refl _
          · rw [if_neg (by simp; omega)]
            obtain ⟨r, hr⟩ := f107_some (a := els j) (b := best) (by omega) (els_len j)
            rw [hr, Option.bind_some]
            unfold f71_1_p4
            by_cases hr0 : r < 0
            · rw [if_pos (by simpa using hr0), Option.bind_some]
              exact nxt (els j) (.inr ⟨j, h1, hj, rfl, hB⟩) hge fun _ => Nat.le_refl _
            · rw [if_neg (by simpa using hr0), Option.bind_some]
              exact nxt best h4 (Nat.le_refl _) fun _ => by omega
        · rw [decide_eq_false hB, if_neg (by simp)]
          exact nxt best h4 (Nat.le_refl _) fun h => absurd h hB
      · rw [if_neg (by simp; omega)]
        exact nxt best h4 (Nat.le_refl _) fun _ => by omega
    · rw [if_neg (by simp; exact_mod_cast (Nat.not_lt.1 hj))]
      exact ⟨best, rfl, h4, fun s hs1 hs2 hs3 => h5 s hs1 (by omega) hs3⟩
include hw irr hn in
theorem brawl_eq {a : Int} {q : List (Int × (Int × Unit))} (ho : f70 FF a q = some (.c1 0 n (tab 8 w))) :
    ∃ l, f30 FF a q = some (ints l, 0) ∧ (l = [] ∨ ∃ s, 1 ≤ s ∧ s < 2 ^ n ∧ l = els s ∧ Brl w s) ∧ ∀ s, 1 ≤ s → s < 2 ^ n → Brl w s → (els s).length ≤ l.length := by
  have h256 : 2 ^ n ≤ 256 := show 2 ^ n ≤ 2 ^ 8 from Nat.pow_le_pow_right (by omega) hn.2
  obtain ⟨l, g1, g2, g3⟩ := f71_1_p1_eq hw irr hn FF 1 [] (Nat.le_refl _) (Nat.one_le_two_pow) (show 2 ^ n < 100000000 + 1 by omega) (.inl rfl) (fun s h1 h2 => by omega)
  refine ⟨l, ?_, g2, g3⟩
  unfold f30
  rw [ho, Option.bind_some]
  show (if ((0 : Int) != 0) = true then _ else _) = _
  rw [if_neg (by decide)]
  unfold f71_1
  have g1 : f71_1_p1 FF n (tab 8 w) FF ([] : List Int) 1 = some (ints l) := g1
  rw [g1]
  rfl
end
end
section
def qs (l : List (Nat × Nat)) : List (Int × (Int × Unit)) := l.map fun p => ((p.1 : Nat), ((p.2 : Nat), ()))
def join (w : Nat → Nat) (a b : Nat) : Nat → Nat := fun x => if x = b then w b ||| 2 ^ a else if x = a then w a ||| 2 ^ b else w x
theorem has_bit : ∀ (s : Fin 256) (y : Fin 8), (iAnd .u8 (iShr .u8 (s.val : Int) (y.val : Int)) 1 == 1) = s.val.testBit y.val := by decide +kernel
theorem f104_eq {F s y : Nat} (hs : s < 256) (hy : y < 8) : f104 F s y = some (s.testBit y) := by
  unfold f104
  rw [req_pos (by omega)]
  have := has_bit ⟨s, hs⟩ ⟨y, hy⟩
  simp only at this
  rw [this]
theorem f105_eq {F : Nat} {a b : Nat} (ha : a < 8) (hb : b < 8) (hab : a ≠ b) {w : Nat → Nat} (hw : ∀ x, w x < 256) (x3 : Int) : f105 F a b x3 (tab 8 w) = some (x3, tab 8 (join w a b)) := by
  have h1 := or_bit ⟨w a, hw a⟩ ⟨b, hb⟩
  have h2 := or_bit ⟨w b, hw b⟩ ⟨a, ha⟩
  simp only at h1 h2
  unfold f105
  rw [req_pos (by omega), Int.toNat_natCast, Int.toNat_natCast, Nat.mul_one, Nat.mul_one, Nat.zero_add, Nat.zero_add, tab_get _ ha, Option.bind_some, req_pos (by omega), req_pos ha, req_pos (by omega), h1, tab_set, tab_get _ hb, Option.bind_some, if_neg (fun e => hab e.symm), req_pos (by omega), req_pos hb, h2, tab_set]
  rfl
structure Adj (w : Nat → Nat) (l : List (Nat × Nat)) : Prop where
  lt : ∀ x, w x < 256
  bit : ∀ x y, x < 8 → y < 8 → ((w x).testBit y = true ↔ (x, y) ∈ l ∨ (y, x) ∈ l)
theorem Adj.join {w : Nat → Nat} {l : List (Nat × Nat)} (h : Adj w l) {a b : Nat} (ha : a < 8) (hb : b < 8) (hab : a ≠ b) : Adj (join w a b) (l ++ [(a, b)]) := by
  refine ⟨fun x => ?_, fun x y hx hy => ?_⟩
  · unfold Top.join
    split
    · exact lt_or ⟨w b, h.lt b⟩ ⟨a, ha⟩
    · split
      · exact lt_or ⟨w a, h.lt a⟩ ⟨b, hb⟩
      · exact h.lt x
  · unfold Top.join
    have h0 := h.bit x y hx hy
    simp only [List.mem_append, List.mem_singleton, Prod.mk.injEq]
    by_cases h1 : x = b
    · subst h1
      rw [if_pos rfl]
      have q := bits_or ⟨w x, h.lt x⟩ ⟨a, ha⟩ ⟨y, hy⟩
      simp only [Fin.mk.injEq] at q
      rw [q, Bool.or_eq_true, h0, decide_eq_true_eq]
      grind
    · rw [if_neg h1]
      by_cases h2 : x = a
      · subst h2
        rw [if_pos rfl]
        have q := bits_or ⟨w x, h.lt x⟩ ⟨b, hb⟩ ⟨y, hy⟩
        simp only [Fin.mk.injEq] at q
        rw [q, Bool.or_eq_true, h0, decide_eq_true_eq]
        grind
      · rw [if_neg h2, h0]
        grind
theorem f70_p2_eq {F n : Nat} (hn : n ≤ 8) {l0 : List (Nat × Nat)} (hl : ∀ p ∈ l0, p.1 < p.2 ∧ p.2 < n) (hnd : l0.Nodup) (hlen : l0.length ≤ 1000) : ∀ (fu : Nat) (p s : List (Nat × Nat)) (w : Nat → Nat), l0 = p ++ s → s.length < fu → Adj w p →
    ∃ w', Adj w' l0 ∧ f70_p2 F (qs l0) n fu p.length n (tab 8 w) = some (.c1 n (tab 8 w')) := by
  intro fu
  induction fu with
  | zero => intro p s w _ h; omega
  | succ fu ih =>
    intro p s w e hk hA
    unfold f70_p2
    have el : l0.length = p.length + s.length := by rw [e, List.length_append]
    have eq : (qs l0).length = l0.length := by simp [qs]
    rw [eq]
    cases s with
    | nil =>
      rw [if_neg (by simp at el ⊢; omega)]
      exact ⟨w, by rw [e, List.append_nil]; exact hA, rfl⟩
    | cons x s =>
      obtain ⟨a, b⟩ := x
      simp only [List.length_cons] at el hk
      have hx := hl (a, b) (by rw [e]; simp)
      simp only at hx
      have hg : at? (qs l0) (p.length : Int) = some ((a : Int), ((b : Int), ())) := at_of (by rw [qs, List.getElem?_map, e]; simp)
      have hnot : ¬ ((a, b) ∈ p ∨ (b, a) ∈ p) := by
        rintro (h | h)
        · rw [e] at hnd
          exact (List.nodup_append.1 hnd).2.2 _ h _ (by simp) rfl
        · have := hl (b, a) (by rw [e]; simp [h])
          simp only at this; omega
      have hbit : (w a).testBit b = false := by
        cases hq : (w a).testBit b with
        | false => rfl
        | true => exact absurd ((hA.bit a b (by omega) (by omega)).1 hq) hnot
      rw [if_pos (by simp; omega), hg, Option.bind_some]
      show ∃ w', _ ∧ Option.bind (some (a : Int)) _ = _
      rw [Option.bind_some]
      show ∃ w', _ ∧ Option.bind (some (b : Int)) _ = _
      rw [Option.bind_some, if_neg (by simp; split <;> omega), if_neg (by simp; split <;> omega), if_neg (by simp; omega), req_pos (by omega), Int.toNat_natCast, Nat.mul_one, Nat.zero_add, tab_get _ (by omega), Option.bind_some, f104_eq (hA.lt a) (by omega), Option.bind_some, hbit, if_neg (by simp), f105_eq (by omega) (by omega) (by omega) hA.lt, Option.bind_some]
      rw [w64_succ (by omega)]
      have := ih (p ++ [(a, b)]) s (join w a b) (by rw [e]; simp) (by omega) (hA.join (by omega) (by omega) (by omega))
      rw [show ((p.length + 1 : Nat) : Int) = ((p ++ [(a, b)]).length : Int) by simp]
      exact this
theorem f70_eq {F n : Nat} (hF : 1001 ≤ F) (hn : 1 ≤ n ∧ n ≤ 8) {l : List (Nat × Nat)} (hl : ∀ p ∈ l, p.1 < p.2 ∧ p.2 < n) (hnd : l.Nodup) (hlen : l.length ≤ 1000) :
    ∃ w, Adj w l ∧ f70 F n (qs l) = some (.c1 0 n (tab 8 w)) := by
  have h0 : Adj (fun _ => 0) [] := ⟨fun _ => by decide, fun x y _ _ => by simp⟩
  obtain ⟨w, g1, g2⟩ := f70_p2_eq (F := F) hn.2 hl hnd hlen F [] l (fun _ => 0) rfl (by omega) h0
  refine ⟨w, g1, ?_⟩
  unfold f70 f86
  rw [if_pos (by simp; omega), Option.bind_some, if_pos (by simp; omega), show List.replicate 8 (0 : Int) = tab 8 (fun _ => 0) from tab_zero 8]
  rw [show f70_p2 F (qs l) n F 0 n (tab 8 fun _ => 0) = _ from g2, Option.bind_some]
theorem Adj.sym {w : Nat → Nat} {l : List (Nat × Nat)} (h : Adj w l) (x y : Nat) (hx : x < 8) (hy : y < 8) : (w x).testBit y = (w y).testBit x := by
  rw [Bool.eq_iff_iff, h.bit x y hx hy, h.bit y x hy hx]
  exact Or.comm
theorem Adj.irr {w : Nat → Nat} {l : List (Nat × Nat)} (h : Adj w l) (hl : ∀ p ∈ l, p.1 < p.2) (x : Nat) (hx : x < 8) : (w x).testBit x = false := by
  cases hq : (w x).testBit x with
  | false => rfl
  | true =>
    rcases (h.bit x x hx hx).1 hq with h1 | h1
    · have := hl _ h1; simp at this
    · have := hl _ h1; simp at this
end
section
section
variable (R : Nat → Nat → Prop)
variable {R} (tr : ∀ x y z, R x y → R y z → R x z) (ir : ∀ x, ¬ R x x)
include tr ir in
end
def mask : List Nat → Nat
  | [] => 0
  | x :: l => mask l ||| 2 ^ x
theorem mask_bit (y : Nat) : ∀ l : List Nat, (mask l).testBit y = decide (y ∈ l)
  | [] => by simp [mask]
  | x :: l => by
    rw [mask, Nat.testBit_or, mask_bit y l, Nat.testBit_two_pow]
    by_cases h : y = x
    · subst h; simp
    · simp [h, Ne.symm h]
theorem els_nodup (s : Nat) : (els s).Nodup := List.nodup_range.filter _
section
variable {w : Nat → Nat} {n : Nat} (hn : n ≤ 8)
include hn in
theorem clique_brawl {A : List Nat} (hA : A.Nodup) (hne : A ≠ []) (hl : ∀ x ∈ A, x < n) (hq : ∀ x ∈ A, ∀ y ∈ A, x ≠ y → (w x).testBit y = true) : ∃ s, 1 ≤ s ∧ s < 2 ^ n ∧ Brl w s ∧ A.length ≤ (els s).length := by
  have hm : ∀ x, x ∈ els (mask A) ↔ x ∈ A := fun x => by
    rw [mem_els, mask_bit, decide_eq_true_eq]
    exact ⟨fun h => h.2, fun h => ⟨by have := hl x h; omega, h⟩⟩
  refine ⟨mask A, ?_, ?_, fun x hx y hy h => hq x ((hm x).1 hx) y ((hm y).1 hy) h, nodup_sub_len hA fun x hx => (hm x).2 hx⟩
  · cases A with
    | nil => exact absurd rfl hne
    | cons x l =>
      have h1 := mask_bit x (x :: l)
      apply Nat.one_le_iff_ne_zero.2
      intro h0
      rw [h0] at h1
      simp at h1
  · apply Nat.lt_pow_two_of_testBit
    intro i hi
    rw [mask_bit]
    exact decide_eq_false fun h => by have := hl i h; omega
theorem last_room {l : List Nat} {c : Nat → Nat} (hc : Proper w n n c) (hl : l = [] ∨ ∃ s, 1 ≤ s ∧ s < 2 ^ n ∧ l = els s ∧ Brl w s) (hn1 : 1 ≤ n) (hb : ∀ y, y < n → c y < l.length) : ∃ y, y < n ∧ c y + 1 = l.length := by
  rcases hl with rfl | ⟨s, s1, s2, rfl, s4⟩
  · have := hb 0 (by omega); simp at this
  have hin : ∀ x ∈ els s, x < n := by
    intro x hx
    apply Classical.byContradiction
    intro h
    have h1 := (mem_els.1 hx).2
    rw [Nat.testBit_lt_two_pow (Nat.lt_of_lt_of_le s2 (Nat.pow_le_pow_right (by omega) (by omega)))] at h1
    cases h1
  have hpos := hb 0 (by omega)
  have := all_below (k := (els s).length) (nodup_map (c := c) (els_nodup s) fun x hx y hy e => by
    apply Classical.byContradiction
    intro h
    have h1 := s4 x hx y hy h
    rw [hc.ok x (hin x hx) y (hin y hy) e] at h1
    cases h1) (fun z hz => by obtain ⟨x, hx, rfl⟩ := List.mem_map.1 hz; exact hb x (hin x hx)) (by rw [List.length_map]; exact Nat.le_refl _) ((els s).length - 1) (by omega)
  obtain ⟨y, hy, e⟩ := List.mem_map.1 this
  exact ⟨y, hin y hy, by omega⟩
end
end
section
theorem f32_p2_eq {F n : Nat} {c : Nat → Nat} (hn : n ≤ 8) : ∀ (fu i m : Nat), i ≤ n → n < fu + i →
    ∃ r : Nat, f32_p2 F (tab n c) fu m i = some (r : Int) ∧ m ≤ r ∧ (∀ y, i ≤ y → y < n → c y ≤ r) ∧ (r = m ∨ ∃ y, i ≤ y ∧ y < n ∧ r = c y) := by
  intro fu
  induction fu with
  | zero => intro i m h1 h2; omega
  | succ fu ih =>
    intro i m h1 h2
    unfold f32_p2
    rw [tab_len]
    by_cases hi : i < n
    · have ea : at? (tab n c) (i : Int) = some (c i : Int) := at_of (tab_get _ hi)
      rw [if_pos (by simp; omega), ea, Option.bind_some, w64_succ (by omega)]
      have em : (if ((c i : Nat) : Int) > (m : Int) then ((c i : Nat) : Int) else (m : Int)) = ((if c i > m then c i else m : Nat) : Int) := by
        by_cases h : c i > m
        · rw [if_pos h, if_pos (by omega)]
        · rw [if_neg h, if_neg (by omega)]
      rw [em]
      obtain ⟨r, g1, g2, g3, g4⟩ := ih (i + 1) (if c i > m then c i else m) (by omega) (by omega)
      refine ⟨r, g1, ?_, fun y h3 h4 => ?_, ?_⟩
      · split at g2 <;> omega
      · by_cases hy : y = i
        · subst hy; split at g2 <;> omega
        · exact g3 y (by omega) h4
      · rcases g4 with g4 | ⟨y, y1, y2, y3⟩
        · by_cases h : c i > m
          · rw [if_pos h] at g4; exact .inr ⟨i, Nat.le_refl _, hi, g4⟩
          · rw [if_neg h] at g4; exact .inl g4
        · exact .inr ⟨y, by omega, y2, y3⟩
    · rw [if_neg (by simp; omega)]
      exact ⟨m, rfl, Nat.le_refl _, fun y h3 h4 => by omega, .inl rfl⟩
theorem f32_eq {F n : Nat} {c : Nat → Nat} (hF : 10 ≤ F) (hn : 1 ≤ n ∧ n ≤ 8) : ∃ r : Nat, f32 F (tab n c) = some (r : Int) ∧ (∀ y, y < n → c y ≤ r) ∧ ∃ y, y < n ∧ r = c y := by
  have ea : at? (tab n c) ((0 : Nat) : Int) = some (c 0 : Int) := at_of (tab_get _ (by omega))
  obtain ⟨r, g1, g2, g3, g4⟩ := f32_p2_eq (F := F) (c := c) hn.2 F 1 (c 0) (by omega) (by omega)
  refine ⟨r, ?_, fun y hy => ?_, ?_⟩
  · unfold f32 f32_p0
    rw [tab_len, if_neg (by simp; omega), Option.bind_some, show at? (tab n c) 0 = some (c 0 : Int) from ea, Option.bind_some, show f32_p2 F (tab n c) F (c 0) 1 = some (r : Int) from g1]
    rfl
  · by_cases h : y = 0
    · rw [h]; exact g2
    · exact g3 y (by omega) hy
  · rcases g4 with h | ⟨y, _, h1, h2⟩
    · exact ⟨0, by omega, h⟩
    · exact ⟨y, h1, h2⟩
theorem house {n : Nat} (hn : 1 ≤ n ∧ n ≤ 8) {l : List (Nat × Nat)} (hl : ∀ p ∈ l, p.1 < p.2 ∧ p.2 < n) (hnd : l.Nodup) (hlen : l.length ≤ 1000)
    (hcol : ∀ K, (∀ A : List Nat, A.Nodup → (∀ x ∈ A, x < n) → (∀ x ∈ A, ∀ y ∈ A, x ≠ y → (x, y) ∈ l ∨ (y, x) ∈ l) → A.length ≤ K) →
      ∃ g : Nat → Nat, (∀ y, y < n → g y < K) ∧ ∀ x, x < n → ∀ y, y < n → g x = g y → ¬ ((x, y) ∈ l ∨ (y, x) ∈ l)) :
    ∃ (c : Nat → Nat) (b : List Nat), f31 FF n (qs l) = some (tab n c, 0) ∧ f30 FF n (qs l) = some (ints b, 0) ∧ 1 ≤ b.length ∧ f32 FF (tab n c) = some ((b.length : Int) - 1) ∧
      (∀ x, x < n → ∀ y, y < n → c x = c y → ¬ ((x, y) ∈ l ∨ (y, x) ∈ l)) ∧ b.Nodup ∧ (∀ x ∈ b, x < n) ∧ ∀ x ∈ b, ∀ y ∈ b, x ≠ y → (x, y) ∈ l ∨ (y, x) ∈ l := by
  obtain ⟨w, hA, ho⟩ := f70_eq (F := FF) (show 1001 ≤ 100000000 by omega) hn hl hnd hlen
  have irr := hA.irr fun p hp => (hl p hp).1
  obtain ⟨c, c1, c2, c3⟩ := rooms_eq hA.lt hA.sym irr hn (F := FF) (Nat.le_refl _) ho
  obtain ⟨b, b1, b2, b3⟩ := brawl_eq hA.lt irr hn ho
  have hK : ∀ A : List Nat, A.Nodup → (∀ x ∈ A, x < n) → (∀ x ∈ A, ∀ y ∈ A, x ≠ y → (x, y) ∈ l ∨ (y, x) ∈ l) → A.length ≤ b.length := by
    intro A h1 h2 h3
    by_cases hne : A = []
    · subst hne; simp
    obtain ⟨s, s1, s2, s3, s4⟩ := clique_brawl (w := w) hn.2 h1 hne h2 fun x hx y hy h => (hA.bit x y (by have := h2 x hx; omega) (by have := h2 y hy; omega)).2 (h3 x hx y hy h)
    exact Nat.le_trans s4 (b3 s s1 s2 s3)
  obtain ⟨g, g1, g2⟩ := hcol b.length hK
  have hg : Proper w n b.length g := ⟨g1, fun x hx y hy e => by
    cases hq : (w x).testBit y with
    | false => rfl
    | true => exact absurd ((hA.bit x y (by omega) (by omega)).1 hq) (g2 x hx y hy e)⟩
  have hb := c3 b.length g hg
  obtain ⟨y, y1, y2⟩ := last_room c2 b2 hn.1 hb
  obtain ⟨r, r1, r2, y', r3, r4⟩ := f32_eq (F := FF) (c := c) (show 10 ≤ 100000000 by omega) hn
  have hr : r + 1 = b.length := by
    have h1 := hb y' r3
    have h2 := r2 y y1
    omega
  have hbs : b.Nodup ∧ (∀ x ∈ b, x < n) ∧ ∀ x ∈ b, ∀ y ∈ b, x ≠ y → (x, y) ∈ l ∨ (y, x) ∈ l := by
    rcases b2 with rfl | ⟨s, s1, s2, rfl, s4⟩
    · simp
    · have hin : ∀ x ∈ els s, x < n := by
        intro x hx
        apply Classical.byContradiction
        intro h
        have h1 := (mem_els.1 hx).2
        rw [Nat.testBit_lt_two_pow (Nat.lt_of_lt_of_le s2 (Nat.pow_le_pow_right (by omega) (by omega)))] at h1
        cases h1
      exact ⟨els_nodup s, hin, fun x hx y hy h => (hA.bit x y (mem_els.1 hx).1 (mem_els.1 hy).1).1 (s4 x hx y hy h)⟩
  refine ⟨c, b, c1, b1, by omega, ?_, fun x hx y hy e h => ?_, hbs⟩
  · rw [r1]; congr 1; omega
  · have := c2.ok x hx y hy e
    rw [(hA.bit x y (by omega) (by omega)).2 h] at this
    cases this
end
section
section
variable {R : Nat → Nat → Prop} (tr : ∀ x y z, R x y → R y z → R x z) (ir : ∀ x, ¬ R x x) {n : Nat} {l : List (Nat × Nat)}
include tr ir in
theorem col_apart (hl : ∀ x, x < n → ∀ y, y < n → ((x, y) ∈ l ∨ (y, x) ∈ l ↔ x ≠ y ∧ ¬ R x y ∧ ¬ R y x)) (K : Nat)
    (hA : ∀ A : List Nat, A.Nodup → (∀ x ∈ A, x < n) → (∀ x ∈ A, ∀ y ∈ A, x ≠ y → (x, y) ∈ l ∨ (y, x) ∈ l) → A.length ≤ K) :
    ∃ g : Nat → Nat, (∀ y, y < n → g y < K) ∧ ∀ x, x < n → ∀ y, y < n → g x = g y → ¬ ((x, y) ∈ l ∨ (y, x) ∈ l) := by
  obtain ⟨c, c1, c2⟩ := dilworth tr ir (List.range n).length (List.range n) (Nat.le_refl _) List.nodup_range K fun A h1 h2 =>
    hA A h2.1 (fun x hx => List.mem_range.1 (h1 x hx)) fun x hx y hy h => (hl x (List.mem_range.1 (h1 x hx)) y (List.mem_range.1 (h1 y hy))).2 ⟨h, h2.2 x hx y hy, h2.2 y hy x hx⟩
  refine ⟨c, fun y hy => c1 y (List.mem_range.2 hy), fun x hx y hy e h => ?_⟩
  obtain ⟨h1, h2, h3⟩ := (hl x hx y hy).1 h
  rcases c2 x (List.mem_range.2 hx) y (List.mem_range.2 hy) e with h4 | h4 | h4
  · exact h1 h4
  · exact h2 h4
  · exact h3 h4
include tr ir in
end
end
section
def rowQ (q : Nat → Nat → Bool) (a b : Nat) : List (Nat × Nat) := ((List.range' a (b - a)).filter fun i => q i b).map fun i => (i, b)
theorem rowQ_step {q : Nat → Nat → Bool} {a b : Nat} (h : a < b) : rowQ q a b = (if q a b = true then [(a, b)] else []) ++ rowQ q (a + 1) b := by
  unfold rowQ
  rw [show b - a = (b - (a + 1)) + 1 by omega, List.range'_succ, List.filter_cons]
  split <;> simp
theorem rowQ_done {q : Nat → Nat → Bool} {b : Nat} : rowQ q b b = [] := by simp [rowQ]
theorem rowQ_len (q : Nat → Nat → Bool) (a b : Nat) : (rowQ q a b).length ≤ b - a := by
  unfold rowQ
  rw [List.length_map]
  exact Nat.le_trans (List.length_filter_le _ _) (by rw [List.length_range']; exact Nat.le_refl _)
def rowsQ (q : Nat → Nat → Bool) (N b : Nat) : List (Nat × Nat) := (List.range' b (N - b)).flatMap (rowQ q 0)
theorem rowsQ_step {q : Nat → Nat → Bool} {N b : Nat} (h : b < N) : rowsQ q N b = rowQ q 0 b ++ rowsQ q N (b + 1) := by
  unfold rowsQ
  rw [show N - b = (N - (b + 1)) + 1 by omega, List.range'_succ, List.flatMap_cons]
theorem rowsQ_done {q : Nat → Nat → Bool} {N : Nat} : rowsQ q N N = [] := by simp [rowsQ]
theorem mem_rowQ {q : Nat → Nat → Bool} {b i j : Nat} : (i, j) ∈ rowQ q 0 b ↔ i < b ∧ j = b ∧ q i b = true := by
  unfold rowQ
  simp only [List.mem_map, List.mem_filter, List.mem_range'_1, Prod.mk.injEq]
  constructor
  · rintro ⟨a, ⟨⟨_, h1⟩, h2⟩, rfl, rfl⟩; exact ⟨by omega, rfl, h2⟩
  · rintro ⟨h1, rfl, h2⟩; exact ⟨i, ⟨⟨by omega, by omega⟩, h2⟩, rfl, rfl⟩
theorem mem_rowsQ {q : Nat → Nat → Bool} {N i j : Nat} : (i, j) ∈ rowsQ q N 0 ↔ i < j ∧ j < N ∧ q i j = true := by
  unfold rowsQ
  simp only [List.mem_flatMap, List.mem_range'_1, mem_rowQ]
  constructor
  · rintro ⟨b, ⟨_, h1⟩, h2, rfl, h3⟩; exact ⟨h2, by omega, h3⟩
  · rintro ⟨h1, h2, h3⟩; exact ⟨j, ⟨by omega, by omega⟩, h1, rfl, h3⟩
theorem rowQ_nodup (q : Nat → Nat → Bool) (b : Nat) : (rowQ q 0 b).Nodup := by
  unfold rowQ
  have h : ((List.range' 0 (b - 0)).filter fun i => q i b).Nodup := List.Pairwise.filter _ (List.nodup_range' ..)
  generalize ((List.range' 0 (b - 0)).filter fun i => q i b) = m at h
  induction m with
  | nil => simp
  | cons x m ih =>
    rw [List.map_cons, List.nodup_cons]
    refine ⟨fun hm => ?_, ih (List.nodup_cons.1 h).2⟩
    obtain ⟨y, hy, e⟩ := List.mem_map.1 hm
    simp only [Prod.mk.injEq, and_true] at e
    exact (List.nodup_cons.1 h).1 (e ▸ hy)
theorem rowsQ_facts (q : Nat → Nat → Bool) (N : Nat) : ∀ (d b : Nat), N - b = d → b ≤ N → (rowsQ q N b).Nodup ∧ (∀ p ∈ rowsQ q N b, b ≤ p.2) ∧ (N ≤ 8 → (rowsQ q N b).length ≤ 8 * d) := by
  intro d
  induction d with
  | zero =>
    intro b h1 h2
    obtain rfl : b = N := by omega
    rw [rowsQ_done]; simp
  | succ d ih =>
    intro b h1 h2
    obtain ⟨g1, g2, g3⟩ := ih (b + 1) (by omega) (by omega)
    rw [rowsQ_step (by omega)]
    refine ⟨List.nodup_append.2 ⟨rowQ_nodup .., g1, fun p hp r hr e => ?_⟩, fun p hp => ?_, fun h8 => ?_⟩
    · have h3 := g2 r hr
      obtain ⟨i, j⟩ := p
      have h4 := (mem_rowQ.1 hp).2.1
      rw [← e] at h3; simp only at h3; omega
    · rcases List.mem_append.1 hp with h | h
      · obtain ⟨i, j⟩ := p
        have := (mem_rowQ.1 h).2.1
        simp only; omega
      · have := g2 p h; omega
    · have := g3 h8
      have hr := rowQ_len q 0 b
      rw [List.length_append]; omega
theorem qs_app (l : List (Nat × Nat)) (a b : Nat) : qs l ++ [((a : Int), ((b : Int), ()))] = qs (l ++ [(a, b)]) := by
  unfold qs; rw [List.map_append]; rfl
theorem qs_len (l : List (Nat × Nat)) : (qs l).length = l.length := by simp [qs]
theorem inj_len {c : Nat → Nat} : ∀ (K : Nat) (A : List Nat), A.Nodup → (∀ x ∈ A, c x < K) → (∀ x ∈ A, ∀ y ∈ A, x ≠ y → c x ≠ c y) → A.length ≤ K := by
  intro K
  induction K with
  | zero =>
    intro A _ h2 _
    cases A with
    | nil => simp
    | cons x A => have := h2 x (List.mem_cons_self ..); omega
  | succ K ih =>
    intro A h1 h2 h3
    by_cases h : ∃ x ∈ A, c x = K
    · obtain ⟨x, hx, e⟩ := h
      have := ih (A.erase x) (h1.erase x) (fun y hy => by
        have hm := List.mem_of_mem_erase hy
        have hne : y ≠ x := fun e => by rw [e] at hy; exact (List.Nodup.not_mem_erase h1) hy
        have q1 := h2 y hm
        have q2 := h3 y hm x hx hne
        omega) fun y hy z hz => h3 y (List.mem_of_mem_erase hy) z (List.mem_of_mem_erase hz)
      rw [List.length_erase_of_mem hx] at this
      omega
    · have := ih A h1 (fun y hy => by
        have q1 := h2 y hy
        have q2 : c y ≠ K := fun e => h ⟨y, hy, e⟩
        omega) h3
      omega
theorem sub_len : ∀ (A C : List Nat), A.Nodup → (∀ x ∈ A, x ∈ C) → A.length ≤ C.length
  | [], _, _, _ => by simp
  | x :: A, C, h, hs => by
    have hx := hs x (List.mem_cons_self ..)
    have := sub_len A (C.erase x) (List.nodup_cons.1 h).2 fun y hy => by
      have hne : y ≠ x := fun e => (List.nodup_cons.1 h).1 (e ▸ hy)
      exact (List.mem_erase_of_ne hne).2 (hs y (List.mem_cons_of_mem _ hy))
    rw [List.length_erase_of_mem hx] at this
    have := List.length_pos_of_mem hx
    rw [List.length_cons]; omega
def openAt (B E : Nat → Nat) (N p : Nat) : List Nat := (List.range N).filter fun i => decide (B i ≤ p ∧ p < E i)
theorem most_first {B : Nat → Nat} : ∀ (A : List Nat), A ≠ [] → ∃ x ∈ A, ∀ y ∈ A, B y ≤ B x
  | [x], _ => ⟨x, List.mem_cons_self .., fun y hy => by simp at hy; rw [hy]; exact Nat.le_refl _⟩
  | x :: y :: A, _ => by
    obtain ⟨z, hz, h⟩ := most_first (y :: A) (by simp)
    by_cases hx : B z ≤ B x
    · refine ⟨x, List.mem_cons_self .., fun u hu => ?_⟩
      rcases List.mem_cons.1 hu with rfl | hu
      · exact Nat.le_refl _
      · exact Nat.le_trans (h u hu) hx
    · refine ⟨z, List.mem_cons_of_mem _ hz, fun u hu => ?_⟩
      rcases List.mem_cons.1 hu with rfl | hu
      · omega
      · exact h u hu
theorem spans {N : Nat} (hN : 1 ≤ N ∧ N ≤ 8) {B E : Nat → Nat} (hBE : ∀ i, i < N → B i < E i) {T r : Nat} (hT : ∀ i, i < N → B i < T)
    (r1 : ∀ p, p < T → (openAt B E N p).length ≤ r) (r2 : r = 0 ∨ ∃ p, p < T ∧ r = (openAt B E N p).length) {l : List (Nat × Nat)} (hl : l = rowsQ (fun i j => decide (B i < E j ∧ B j < E i)) N 0) :
    ∃ (c : Nat → Nat) (b : List Nat), f31 FF N (qs l) = some (tab N c, 0) ∧ f30 FF N (qs l) = some (ints b, 0) ∧ b.length = r ∧ 1 ≤ r ∧ f32 FF (tab N c) = some ((r : Int) - 1) := by
  have hmem : ∀ i j, (i, j) ∈ l ↔ i < j ∧ j < N ∧ B i < E j ∧ B j < E i := by
    intro i j; rw [hl, mem_rowsQ, decide_eq_true_eq]
  have hin : ∀ x, x < N → ∀ y, y < N → ((x, y) ∈ l ∨ (y, x) ∈ l ↔ x ≠ y ∧ B x < E y ∧ B y < E x) := by
    intro x hx y hy
    rw [hmem, hmem]
    constructor
    · rintro (⟨a, _, b, c⟩ | ⟨a, _, b, c⟩)
      · exact ⟨by omega, b, c⟩
      · exact ⟨by omega, c, b⟩
    · rintro ⟨a, b, c⟩
      by_cases h : x < y
      · exact .inl ⟨h, hy, b, c⟩
      · exact .inr ⟨by omega, hx, c, b⟩
  obtain ⟨q1, q2, q3⟩ := rowsQ_facts (fun i j => decide (B i < E j ∧ B j < E i)) N N 0 (by omega) (by omega)
  have q3 := q3 hN.2
  rw [← hl] at q1 q2 q3
  -- before: an order on those that are there
  have hcol : ∀ K, (∀ A : List Nat, A.Nodup → (∀ x ∈ A, x < N) → (∀ x ∈ A, ∀ y ∈ A, x ≠ y → (x, y) ∈ l ∨ (y, x) ∈ l) → A.length ≤ K) →
      ∃ g : Nat → Nat, (∀ y, y < N → g y < K) ∧ ∀ x, x < N → ∀ y, y < N → g x = g y → ¬ ((x, y) ∈ l ∨ (y, x) ∈ l) := by
    refine fun K hK => col_apart (R := fun x y => x < N ∧ y < N ∧ E x ≤ B y) (fun x y z h1 h2 => ?_) (fun x h => ?_) (fun x hx y hy => ?_) K hK
    · have := hBE y h1.2.1
      exact ⟨h1.1, h2.2.1, by omega⟩
    · have := hBE x h.1; omega
    · rw [hin x hx y hy]
      constructor
      · rintro ⟨a, b, c⟩; exact ⟨a, fun h => by omega, fun h => by omega⟩
      · rintro ⟨a, b, c⟩
        exact ⟨a, Nat.lt_of_not_le fun h => c ⟨hy, hx, h⟩, Nat.lt_of_not_le fun h => b ⟨hx, hy, h⟩⟩
  obtain ⟨c, b, g1, g2, g3, g4, g5, g6, g7, g8⟩ := house hN (l := l) (fun p hp => by obtain ⟨i, j⟩ := p; have := (hmem i j).1 hp; exact ⟨this.1, this.2.1⟩) q1 (by omega) hcol
  -- rooms are below the number of the brawl
  have hc : ∀ y, y < N → c y < b.length := by
    obtain ⟨m, m1, m2, _⟩ := f32_eq (F := FF) (c := c) (show 10 ≤ 100000000 by omega) hN
    rw [m1] at g4
    have := Option.some.inj g4
    intro y hy
    have := m2 y hy
    omega
  -- no more are open than quarrel
  have hle : r ≤ b.length := by
    rcases r2 with rfl | ⟨p, p1, rfl⟩
    · omega
    · refine inj_len (c := c) b.length _ (List.nodup_range.filter _) (fun x hx => hc x ?_) fun x hx y hy hne e => ?_
      · exact List.mem_range.1 (List.mem_filter.1 hx).1
      · have a1 := List.mem_range.1 (List.mem_filter.1 hx).1
        have a2 := List.mem_range.1 (List.mem_filter.1 hy).1
        have b1 := of_decide_eq_true (List.mem_filter.1 hx).2
        have b2 := of_decide_eq_true (List.mem_filter.1 hy).2
        exact g5 x a1 y a2 e ((hin x a1 y a2).2 ⟨hne, by omega, by omega⟩)
  -- those who quarrel are open where the last one of them begins
  have hge : b.length ≤ r := by
    have hb0 : b ≠ [] := fun e => by rw [e] at g3; simp at g3
    obtain ⟨x, hx, hm⟩ := most_first (B := B) b hb0
    have hx2 := g7 x hx
    refine Nat.le_trans ?_ (r1 (B x) (hT x hx2))
    refine sub_len _ _ g6 fun y hy => ?_
    have hy2 := g7 y hy
    refine List.mem_filter.2 ⟨List.mem_range.2 hy2, decide_eq_true ⟨hm y hy, ?_⟩⟩
    by_cases e : x = y
    · rw [← e]; exact hBE x hx2
    · exact ((hin x hx2 y hy2).1 (g8 x hx y hy e)).2.1
  have e : b.length = r := by omega
  exact ⟨c, b, g1, g2, e, by omega, by rw [g4, e]⟩
theorem getD_mem {L : List Nat} {x : Nat} (h : x < L.length) : L.getD x 0 ∈ L := by
  rw [List.getD_eq_getElem?_getD, List.getElem?_eq_getElem h]; exact List.getElem_mem h

theorem f78_p1_eq {F : Nat} (l0 : List (Nat × Nat)) (a b : Nat) : ∀ (fu : Nat) (p s : List (Nat × Nat)), l0 = p ++ s → s.length < fu → p.length + s.length ≤ 1000 →
    ((a, b) ∈ s → ∃ j : Int, 0 ≤ j ∧ f78_p1 F (qs l0) [(a : Int), (b : Int)] fu p.length = some (.c0 j)) := by
  intro fu
  induction fu with
  | zero => intro p s _ h; omega
  | succ fu ih =>
    intro p s e h1 h2 hm
    cases s with
    | nil => cases hm
    | cons x s =>
      obtain ⟨i, j⟩ := x
      have hl : (qs l0).length = p.length + (s.length + 1) := by rw [qs_len, e, List.length_append, List.length_cons]
      have hat : at? (qs l0) (p.length : Int) = some ((i : Int), ((j : Int), ())) := by
        apply at_of
        unfold qs
        rw [List.getElem?_map, e, List.getElem?_append_right (Nat.le_refl _), Nat.sub_self]
        rfl
      unfold f78_p1
      rw [hl, if_pos (by simp; omega), hat, Option.bind_some]
      by_cases h : a = i ∧ b = j
      · rw [if_pos (by unfold eqL; rw [h.1, h.2]; simp)]
        exact ⟨_, by omega, rfl⟩
      · rw [if_neg (by unfold eqL; simp; omega), w64_succ (by omega)]
        have hm2 : (a, b) ∈ s := by
          rcases List.mem_cons.1 hm with h' | h'
          · simp at h'; exact absurd h' h
          · exact h'
        have := ih (p ++ [(i, j)]) s (by rw [e]; simp) (by simp at h1; omega) (by simp at h2 ⊢; omega) hm2
        rw [List.length_append, List.length_singleton] at this
        exact this
theorem f38_mem {F : Nat} {l : List (Nat × Nat)} (hF : 1000 < F) (hl : l.length ≤ 1000) {a b : Nat} (h : (a, b) ∈ l) : f38 F (qs l) [(a : Int), (b : Int)] = some true := by
  obtain ⟨j, h1, h2⟩ := f78_p1_eq (F := F) l a b F [] l rfl (by omega) (by simpa using hl) h
  have h2 : f78_p1 F (qs l) [(a : Int), (b : Int)] F 0 = some (.c0 j) := h2
  unfold f38 f78
  rw [h2]
  show some (decide (j ≥ 0)) = _
  rw [decide_eq_true h1]
end
section
def kin (l : List Int) : Nat → Nat → List Nat
  | 0, _ => []
  | m + 1, k => (if posF 0 l k = [] then [] else [k]) ++ kin l m (k + 1)
theorem mem_kin {l : List Int} : ∀ {m k j : Nat}, j ∈ kin l m k ↔ k ≤ j ∧ j < k + m ∧ posF 0 l j ≠ []
  | 0, k, j => by simp [kin]; omega
  | m + 1, k, j => by
    rw [kin, List.mem_append, mem_kin]
    by_cases h : posF 0 l k = []
    · rw [if_pos h]
      constructor
      · rintro (h1 | h1)
        · cases h1
        · exact ⟨by omega, by omega, h1.2.2⟩
      · rintro ⟨h1, h2, h3⟩
        by_cases e : j = k
        · rw [e] at h3; exact absurd h h3
        · exact .inr ⟨by omega, by omega, h3⟩
    · rw [if_neg h]
      constructor
      · rintro (h1 | h1)
        · simp at h1; rw [h1]; exact ⟨by omega, by omega, h⟩
        · exact ⟨by omega, by omega, h1.2.2⟩
      · rintro ⟨h1, h2, h3⟩
        by_cases e : j = k
        · rw [e]; exact .inl (by simp)
        · exact .inr ⟨by omega, by omega, h3⟩
theorem kin_nodup {l : List Int} : ∀ {m k : Nat}, (kin l m k).Nodup
  | 0, k => by simp [kin]
  | m + 1, k => by
    rw [kin]
    by_cases h : posF 0 l k = []
    · rw [if_pos h]; exact kin_nodup
    · rw [if_neg h]
      refine List.nodup_cons.2 ⟨fun hm => ?_, kin_nodup⟩
      have := (mem_kin.1 hm).1; omega
theorem kin_len {l : List Int} : ∀ {m k : Nat}, (kin l m k).length ≤ m
  | 0, k => by simp [kin]
  | m + 1, k => by
    have := @kin_len l m (k + 1)
    rw [kin, List.length_append]
    split <;> simp <;> omega
def bg (l : List Int) (i : Nat) : Nat := ((posF 0 l i).headD 0).toNat
def en (w : Bool) (l : List Int) (i : Nat) : Nat := bg l i + dN w i
def bT (l : List Int) (k i : Nat) : Nat := if i < k ∧ 1 ≤ i ∧ posF 0 l i ≠ [] then bg l i else 0
def eT (w : Bool) (l : List Int) (k i : Nat) : Nat := if i < k ∧ 1 ≤ i ∧ posF 0 l i ≠ [] then en w l i else 0
theorem btw_len {n : Nat} {w : Bool} {l : List Int} {k a : Nat} (hk : 1 ≤ k) (ha : posF 0 l k = [(a : Int), ((a + dN w k : Nat) : Int)]) (hlt : a + dN w k < l.length) : (btwL w l k).length = dN w k - 1 := by
  have hd := Fnn.dN_pos (w := w) hk
  unfold btwL
  rw [ha, List.length_take, List.length_drop]
  simp only [List.headD_cons, Int.toNat_natCast]
  omega
theorem f7_p2_eq {n : Nat} (hn : 1 ≤ n ∧ n ≤ 8) {x1 : Int} (h1 : w64 (1 + Int.tmod (w64 x1) 8) = (n : Int)) {w : Bool} {l : List Int} (v : Val n w l) :
    ∀ (m k f : Nat) (out : List Nat), m < f → k + m = n + 1 → 1 ≤ k → out.length ≤ k →
    f7_p2 FF x1 n w l f k (tab 9 (bT l k)) (tab 9 (eT w l k)) (ints out) = some (.c1 (tab 9 (bT l (n + 1))) (tab 9 (eT w l (n + 1))) (ints (out ++ kin l m k)))
  | 0, k, f + 1, out, _, hk, _, _ => by
    obtain rfl : k = n + 1 := by omega
    rw [f7_p2, h1, if_neg (by simp only [decide_eq_true_eq]; omega), kin, List.append_nil]
  | m + 1, k, f + 1, out, hf, hk, hk1, ho => by
    have hlen := v.len
    have hc := code_zero.2 v
    have hd := Fnn.dN_pos (w := w) hk1
    have ih := fun out' ho' => f7_p2_eq hn h1 v m (k + 1) f out' (by omega) (by omega) (by omega) ho'
    rw [f7_p2, h1, if_pos (by simp; omega), Fnn.f35_eq (show 100 ≤ 100000000 by omega) (by omega), Option.bind_some]
    unfold betwS
    rw [if_pos hc, if_pos ⟨by omega, by omega⟩, Int.toNat_natCast, w64_succ (by omega), kin]
    by_cases h0 : posF 0 l k = []
    · have e1 : tab 9 (bT l k) = tab 9 (bT l (k + 1)) := tab_congr fun i _ => by
        unfold bT
        by_cases e : i = k
        · subst e; rw [if_neg (by omega), if_neg (by simp [h0])]
        · by_cases hik : i < k
          · simp [show i < k + 1 by omega, hik]
          · simp [show ¬ i < k + 1 by omega, hik]
      have e2 : tab 9 (eT w l k) = tab 9 (eT w l (k + 1)) := tab_congr fun i _ => by
        unfold eT
        by_cases e : i = k
        · subst e; rw [if_neg (by omega), if_neg (by simp [h0])]
        · by_cases hik : i < k
          · simp [show i < k + 1 by omega, hik]
          · simp [show ¬ i < k + 1 by omega, hik]
      rw [if_pos h0, if_pos h0]
      simp only []
      rw [if_pos (by decide), e1, e2, ih out (by omega), List.nil_append]
    · obtain ⟨a, ha, hlt, _⟩ := v.both ⟨hk1, by omega⟩ h0
      have hbl := btw_len (n := n) hk1 ha hlt
      rw [if_neg h0, if_neg h0]
      simp only []
      rw [if_neg (by decide), Fnn.f36_eq (show l.length < 100000000 by omega) (by omega), Option.bind_some, ha, if_neg (by decide), List.headD_cons, if_neg (by simp), w64_in (n := 2 * (n : Int)) (by omega), if_neg (by simp; omega), hbl]
      rw [req_pos (by rw [ints_len]; simp; omega), req_pos (by omega)]
      rw [req_pos (by omega), Nat.zero_add, Nat.mul_one, w64_succ (by omega), w64_in (by omega), show ((a + 1 : Nat) : Int) + ((dN w k - 1 : Nat) : Int) = ((a + dN w k : Nat) : Int) by omega, tab_set, tab_set]
      have hb : bg l k = a := by unfold bg; rw [ha]; rfl
      have e1 : tab 9 (fun y => if y = k then a else bT l k y) = tab 9 (bT l (k + 1)) := tab_congr fun i _ => by
        unfold bT
        by_cases e : i = k
        · subst e; rw [if_pos rfl, if_pos ⟨by omega, hk1, h0⟩, hb]
        · rw [if_neg e]
          by_cases hik : i < k
          · simp [show i < k + 1 by omega, hik]
          · simp [show ¬ i < k + 1 by omega, hik]
      have e2 : tab 9 (fun y => if y = k then a + dN w k else eT w l k y) = tab 9 (eT w l (k + 1)) := tab_congr fun i _ => by
        unfold eT
        by_cases e : i = k
        · subst e; rw [if_pos rfl, if_pos ⟨by omega, hk1, h0⟩, en, hb]
        · rw [if_neg e]
          by_cases hik : i < k
          · simp [show i < k + 1 by omega, hik]
          · simp [show ¬ i < k + 1 by omega, hik]
      have e3 : ints out ++ [(k : Int)] = ints (out ++ [k]) := by unfold ints; rw [List.map_append]; rfl
      rw [e1, e2, e3, ih (out ++ [k]) (by simp; omega), List.append_assoc]
section
variable {IN : List Nat} (h8 : IN.length ≤ 8) (h9 : ∀ k ∈ IN, k < 9) (bt et : Nat → Nat) (hbt : ∀ i, bt i ≤ 1000) (het : ∀ i, et i ≤ 1000)
def qb (IN : List Nat) (bt et : Nat → Nat) (i j : Nat) : Bool := decide (bt (IN.getD i 0) < et (IN.getD j 0) ∧ bt (IN.getD j 0) < et (IN.getD i 0))
theorem ints_get {L : List Nat} {i : Nat} (h : i < L.length) : (ints L)[i]? = some ((L.getD i 0 : Nat) : Int) := by
  rw [ints, List.getElem?_map, List.getElem?_eq_getElem h, List.getD_eq_getElem?_getD, List.getElem?_eq_getElem h]; rfl
include h8 h9 in
theorem f7_p13_eq (x1 : Int) (w : Bool) (l : List Int) (x4 x95 : Int) {b : Nat} (hb : b < IN.length) :
    ∀ (fu a : Nat) (Q : List (Nat × Nat)), a ≤ b → b < fu + a → Q.length ≤ 100 + a →
    f7_p13_2 FF x1 (ints IN) b ((IN.getD b 0 : Nat) : Int) x4 w l (tab 9 bt) (tab 9 et) fu a x95 (qs Q) = some (x95, qs (Q ++ rowQ (qb IN bt et) a b)) := by
  intro fu
  induction fu with
  | zero => intro a Q h2 h3; omega
  | succ fu ih =>
    intro a Q h2 h3 h4
    unfold f7_p13_2
    rw [Int.toNat_natCast]
    by_cases ha : a < b
    · have ka : IN.getD a 0 < 9 := h9 _ (getD_mem (by omega))
      have kb : IN.getD b 0 < 9 := h9 _ (getD_mem hb)
      rw [if_pos (by simp only [decide_eq_true_eq]; omega), req_pos (by omega), Int.toNat_natCast, Nat.zero_add, ints_get (by omega), Option.bind_some, req_pos (by omega), Int.toNat_natCast, Nat.mul_one, Nat.zero_add, tab_get _ ka, Option.bind_some, req_pos (by omega), Int.toNat_natCast, Nat.mul_one, Nat.zero_add, tab_get _ kb, Option.bind_some, rowQ_step ha, w64_succ (by omega)]
      by_cases c1 : bt (IN.getD a 0) < et (IN.getD b 0)
      · rw [if_pos (by simp only [decide_eq_true_eq]; omega), tab_get _ kb, Option.bind_some, tab_get _ ka, Option.bind_some]
        unfold f7_p16_7
        by_cases c2 : bt (IN.getD b 0) < et (IN.getD a 0)
        · rw [if_pos (by simp only [decide_eq_true_eq]; omega), req_pos (by rw [qs_len]; simp; omega), Option.bind_some, qs_app, ih (a + 1) _ (by omega) (by omega) (by rw [List.length_append, List.length_singleton]; omega), if_pos (by unfold qb; exact decide_eq_true ⟨c1, c2⟩), List.append_assoc]
        · rw [if_neg (by simp only [decide_eq_true_eq]; omega), Option.bind_some, ih (a + 1) _ (by omega) (by omega) (by omega), if_neg (by unfold qb; rw [decide_eq_true_eq]; omega), List.nil_append]
      · rw [if_neg (by simp only [decide_eq_true_eq]; omega), ih (a + 1) _ (by omega) (by omega) (by omega), if_neg (by unfold qb; rw [decide_eq_true_eq]; omega), List.nil_append]
    · obtain rfl : a = b := by omega
      rw [if_neg (by simp), rowQ_done, List.append_nil]
include h8 h9 in
theorem f7_p9_eq (x1 : Int) (w : Bool) (l : List Int) (x4 x84 : Int) :
    ∀ (fu b : Nat) (Q : List (Nat × Nat)), b ≤ IN.length → IN.length < fu + b → Q.length ≤ 8 * b →
    f7_p9 FF x1 (ints IN) x4 w l (tab 9 bt) (tab 9 et) fu b x84 (qs Q) = some (x84, qs (Q ++ rowsQ (qb IN bt et) IN.length b)) := by
  intro fu
  induction fu with
  | zero => intro b Q h2 h3; omega
  | succ fu ih =>
    intro b Q h2 h3 h4
    unfold f7_p9
    rw [ints_len]
    by_cases hb : b < IN.length
    · have e := f7_p13_eq h8 h9 bt et x1 w l x4 x84 hb FF 0 Q (by omega) (show b < 100000000 + 0 by omega) (by omega)
      have e : f7_p13_2 FF x1 (ints IN) b ((IN.getD b 0 : Nat) : Int) x4 w l (tab 9 bt) (tab 9 et) FF 0 x84 (qs Q) = _ := e
      have hr := rowQ_len (qb IN bt et) 0 b
      rw [if_pos (by simp only [decide_eq_true_eq]; omega), req_pos (by omega), Int.toNat_natCast, Nat.zero_add, ints_get hb, Option.bind_some, req_pos (by omega), e, Option.bind_some]
      simp only []
      rw [w64_succ (by omega), ih (b + 1) _ (by omega) (by omega) (by rw [List.length_append]; omega), rowsQ_step hb, List.append_assoc]
    · obtain rfl : b = IN.length := by omega
      rw [if_neg (by simp), rowsQ_done, List.append_nil]
def cntO (IN : List Nat) (bt et : Nat → Nat) (p i : Nat) : Nat := ((List.range' i (IN.length - i)).filter fun j => decide (bt (IN.getD j 0) ≤ p ∧ p < et (IN.getD j 0))).length
theorem cntO_step {IN : List Nat} {bt et : Nat → Nat} {p i : Nat} (h : i < IN.length) : cntO IN bt et p i = (if bt (IN.getD i 0) ≤ p ∧ p < et (IN.getD i 0) then 1 else 0) + cntO IN bt et p (i + 1) := by
  unfold cntO
  rw [show IN.length - i = (IN.length - (i + 1)) + 1 by omega, List.range'_succ, List.filter_cons]
  by_cases c : bt (IN.getD i 0) ≤ p ∧ p < et (IN.getD i 0)
  · rw [if_pos (decide_eq_true c), if_pos c, List.length_cons]; omega
  · rw [if_neg (by rw [decide_eq_true_eq]; exact c), if_neg c]; omega
theorem cntO_open {IN : List Nat} {bt et : Nat → Nat} {p : Nat} : cntO IN bt et p 0 = (openAt (fun i => bt (IN.getD i 0)) (fun i => et (IN.getD i 0)) IN.length p).length := by
  unfold cntO openAt
  rw [Nat.sub_zero, List.range_eq_range']
theorem cntO_le {IN : List Nat} {bt et : Nat → Nat} {p i : Nat} : cntO IN bt et p i ≤ IN.length - i := by
  unfold cntO
  exact Nat.le_trans (List.length_filter_le _ _) (by rw [List.length_range']; exact Nat.le_refl _)
include h8 h9 in
theorem f7_p22_eq (x1 : Int) (w : Bool) (l : List Int) (x4 x104 x106 : Int) (x105 : List (Int × (Int × Unit))) (p : Nat) :
    ∀ (fu i c : Nat), i ≤ IN.length → IN.length < fu + i → c ≤ 100 + i →
    f7_p22 FF (ints IN) x106 p x1 x4 w l (tab 9 bt) (tab 9 et) x104 x105 fu c i = some ((c + cntO IN bt et p i : Nat) : Int) := by
  intro fu
  induction fu with
  | zero => intro i c h2 h3; omega
  | succ fu ih =>
    intro i c h2 h3 h4
    unfold f7_p22
    rw [ints_len]
    by_cases hi : i < IN.length
    · have ki : IN.getD i 0 < 9 := h9 _ (getD_mem hi)
      rw [if_pos (by simp only [decide_eq_true_eq]; omega), req_pos (by omega), Int.toNat_natCast, Nat.zero_add, ints_get hi, Option.bind_some, req_pos (by omega), Int.toNat_natCast, Nat.mul_one, Nat.zero_add, tab_get _ ki, Option.bind_some, cntO_step hi, w64_succ (show i < 1000000000 by omega)]
      by_cases c1 : bt (IN.getD i 0) ≤ p
      · rw [if_pos (by simp only [decide_eq_true_eq]; omega), tab_get _ ki, Option.bind_some]
        unfold f7_p25
        by_cases c2 : p < et (IN.getD i 0)
        · rw [if_pos (by simp only [decide_eq_true_eq]; omega), Option.bind_some, w64_succ (by omega), ih (i + 1) (c + 1) (by omega) (by omega) (by omega), if_pos ⟨c1, c2⟩]
          congr 2; omega
        · rw [if_neg (by simp only [decide_eq_true_eq]; omega), Option.bind_some, ih (i + 1) c (by omega) (by omega) (by omega), if_neg (by omega), Nat.zero_add]
      · rw [if_neg (by simp only [decide_eq_true_eq]; omega), ih (i + 1) c (by omega) (by omega) (by omega), if_neg (by omega), Nat.zero_add]
    · obtain rfl : i = IN.length := by omega
      rw [if_neg (by simp)]
      unfold cntO
      simp
include h8 h9 in
theorem f7_p18_eq {n : Nat} (hn : 1 ≤ n ∧ n ≤ 8) {x1 : Int} (h1 : w64 (1 + Int.tmod (w64 x1) 8) = (n : Int)) (w : Bool) (l : List Int) (x4 x104 : Int) (x105 : List (Int × (Int × Unit))) :
    ∀ (fu p m : Nat), p ≤ 2 * n → 2 * n < fu + p →
    ∃ r : Nat, f7_p18 FF (ints IN) x1 x4 w l (tab 9 bt) (tab 9 et) x104 x105 fu m p = some (r : Int) ∧ m ≤ r ∧ (∀ y, p ≤ y → y < 2 * n → cntO IN bt et y 0 ≤ r) ∧ (r = m ∨ ∃ y, p ≤ y ∧ y < 2 * n ∧ r = cntO IN bt et y 0) := by
  intro fu
  induction fu with
  | zero => intro p m h2 h3; omega
  | succ fu ih =>
    intro p m h2 h3
    unfold f7_p18
    rw [h1, w64_in (n := 2 * (n : Int)) (by omega)]
    by_cases hp : p < 2 * n
    · have e := f7_p22_eq h8 h9 bt et x1 w l x4 x104 m x105 p FF 0 0 (by omega) (show IN.length < 100000000 + 0 by omega) (by omega)
      have e : f7_p22 FF (ints IN) m p x1 x4 w l (tab 9 bt) (tab 9 et) x104 x105 FF 0 0 = _ := e
      rw [if_pos (by simp only [decide_eq_true_eq]; omega), e, Option.bind_some, Nat.zero_add, w64_succ (by omega)]
      have em : (if ((cntO IN bt et p 0 : Nat) : Int) > (m : Int) then ((cntO IN bt et p 0 : Nat) : Int) else (m : Int)) = ((if cntO IN bt et p 0 > m then cntO IN bt et p 0 else m : Nat) : Int) := by
        by_cases h : cntO IN bt et p 0 > m
        · rw [if_pos h, if_pos (by omega)]
        · rw [if_neg h, if_neg (by omega)]
      rw [em]
      obtain ⟨r, g1, g2, g3, g4⟩ := ih (p + 1) (if cntO IN bt et p 0 > m then cntO IN bt et p 0 else m) (by omega) (by omega)
      refine ⟨r, g1, ?_, fun y h4 h5 => ?_, ?_⟩
      · split at g2 <;> omega
      · by_cases hy : y = p
        · subst hy; split at g2 <;> omega
        · exact g3 y (by omega) h5
      · rcases g4 with g4 | ⟨y, y1, y2, y3⟩
        · by_cases h : cntO IN bt et p 0 > m
          · rw [if_pos h] at g4; exact .inr ⟨p, Nat.le_refl _, hp, g4⟩
          · rw [if_neg h] at g4; exact .inl g4
        · exact .inr ⟨y, by omega, y2, y3⟩
    · rw [if_neg (by simp only [decide_eq_true_eq]; omega)]
      exact ⟨m, rfl, Nat.le_refl _, fun y h4 h5 => by omega, .inl rfl⟩
include h8 in
theorem f7_p33_eq {a : Nat} {l0 : List Int} (w : Bool) (l : List Int) (x4 x104 : Int) {Q : List (Nat × Nat)} (hQ : Q.length ≤ 1000) (hl0 : l0.length ≤ 100)
    (hy : ∀ y ∈ l0, ∃ j : Nat, (posF 0 (ints IN) y).headD (-1) = (j : Int) ∧ j ≠ a ∧ ((j, a) ∈ Q ∨ (a, j) ∈ Q)) (hlt : ∀ p ∈ Q, p.1 < p.2) :
    ∀ (fu i : Nat), i ≤ l0.length → l0.length < fu + i → f7_p33 FF (ints IN) a l0 x4 w l x104 (qs Q) fu i = some .c1 := by
  intro fu
  induction fu with
  | zero => intro i h2 h3; omega
  | succ fu ih =>
    intro i h2 h3
    unfold f7_p33
    by_cases hi : i < l0.length
    · have hat : at? l0 (i : Int) = some l0[i] := at_of (List.getElem?_eq_getElem hi)
      obtain ⟨j, j1, j2, j3⟩ := hy _ (List.getElem_mem hi)
      rw [if_pos (by simp only [decide_eq_true_eq]; omega), hat, Option.bind_some, List.drop_zero, List.drop_zero, Nat.zero_add, Nat.zero_add, List.take_of_length_le (Nat.le_refl _), List.take_of_length_le (Nat.le_refl _), Fnn.f36_eq (show (ints IN).length < 100000000 by rw [ints_len]; omega) (by rw [ints_len]; omega), Option.bind_some, j1, if_neg (by simp), if_neg (by simp; omega )]
      have hf : f38 FF (qs Q) [(if (j : Int) < (a : Int) then (j : Int) else (a : Int)), (if (j : Int) > (a : Int) then (j : Int) else (a : Int))] = some true := by
        by_cases h : j < a
        · rw [if_pos (by omega), if_neg (by omega)]
          refine f38_mem (show 1000 < 100000000 by omega) hQ ?_
          rcases j3 with j3 | j3
          · exact j3
          · have := hlt _ j3; simp at this; omega
        · rw [if_neg (by omega), if_pos (by omega)]
          refine f38_mem (show 1000 < 100000000 by omega) hQ ?_
          rcases j3 with j3 | j3
          · have := hlt _ j3; simp at this; omega
          · exact j3
      rw [hf, Option.bind_some, if_pos rfl, w64_succ (by omega), ih (i + 1) (by omega) (by omega)]
    · rw [if_neg (by simp only [decide_eq_true_eq]; omega)]
include h8 in
theorem f7_p28_eq {n : Nat} (hn : 1 ≤ n ∧ n ≤ 8) {w : Bool} {l : List Int} (v : Val n w l) (hin : ∀ k ∈ IN, 1 ≤ k ∧ k ≤ n ∧ posF 0 l k ≠ []) (x104 : Int) {Q : List (Nat × Nat)} (hQ : Q.length ≤ 1000) (hlt : ∀ p ∈ Q, p.1 < p.2)
    (hy : ∀ a, a < IN.length → ∀ y ∈ Fnn.crs w l (IN.getD a 0) n 1, ∃ j : Nat, (posF 0 (ints IN) y).headD (-1) = (j : Int) ∧ j ≠ a ∧ ((j, a) ∈ Q ∨ (a, j) ∈ Q)) :
    ∀ (fu i : Nat), i ≤ IN.length → IN.length < fu + i → f7_p28 FF (ints IN) n w l x104 (qs Q) fu i = some .c1 := by
  have hlen := v.len
  intro fu
  induction fu with
  | zero => intro i h2 h3; omega
  | succ fu ih =>
    intro i h2 h3
    unfold f7_p28
    rw [ints_len]
    by_cases hi : i < IN.length
    · obtain ⟨k1, k2, k3⟩ := hin _ (getD_mem hi)
      have hcl := Fnn.crs_len w l (IN.getD i 0) n 1
      have e := f7_p33_eq h8 w l n x104 hQ (show (Fnn.crs w l (IN.getD i 0) n 1).length ≤ 100 by omega) (hy i hi) hlt FF 0 (by omega) (show _ < 100000000 + 0 by omega)
      have e : f7_p33 FF (ints IN) i (Fnn.crs w l (IN.getD i 0) n 1) n w l x104 (qs Q) FF 0 = _ := e
      have hc : Fnn.crossS n w l (IN.getD i 0) = (Fnn.crs w l (IN.getD i 0) n 1, 0) := by
        unfold Fnn.crossS
        rw [if_pos (code_zero.2 v), if_pos ⟨by omega, by omega⟩, if_neg k3, Int.toNat_natCast, Int.toNat_natCast]
      rw [if_pos (by simp only [decide_eq_true_eq]; omega), req_pos (by omega), Int.toNat_natCast, Nat.zero_add, ints_get hi, Option.bind_some, Fnn.f37_eq (show 100 ≤ 100000000 by omega) (by omega), Option.bind_some, hc]
      simp only []
      rw [if_neg (by decide), e, Option.bind_some]
      simp only []
      rw [w64_succ (by omega), ih (i + 1) (by omega) (by omega)]
    · obtain rfl : i = IN.length := by omega
      rw [if_neg (by simp)]
end
end
section
theorem works_is : f33 FF = some true := by decide +kernel
theorem mem_crs {w : Bool} {l : List Int} {k : Nat} {y : Int} : ∀ {m j : Nat}, y ∈ crs w l k m j → ∃ i : Nat, y = (i : Int) ∧ j ≤ i ∧ i < j + m ∧ crossB w l k i = true
  | 0, j, h => by simp [crs] at h
  | m + 1, j, h => by
    rw [crs, List.mem_append] at h
    rcases h with h | h
    · by_cases g : crossB w l k j = true
      · rw [if_pos g] at h
        exact ⟨j, by simpa using h, by omega, by omega, g⟩
      · rw [if_neg g] at h; cases h
    · obtain ⟨i, h1, h2, h3, h4⟩ := mem_crs h
      exact ⟨i, h1, by omega, by omega, h4⟩
theorem pos_ints {L : List Nat} {j : Nat} (h : j ∈ L) : ∃ i : Nat, (posF 0 (ints L) (j : Int)).headD (-1) = (i : Int) ∧ i < L.length ∧ L.getD i 0 = j := by
  obtain ⟨m, hm, e⟩ := List.getElem_of_mem h
  have h1 : (ints L)[m]? = some (j : Int) := by rw [ints_get hm, List.getD_eq_getElem?_getD, List.getElem?_eq_getElem hm, Option.getD_some, e]
  have h2 := Fnn.posF_of (i := 0) h1
  cases hp : posF 0 (ints L) (j : Int) with
  | nil => rw [hp] at h2; cases h2
  | cons i s =>
    obtain ⟨g1, g2, g3⟩ := Fnn.posF_mem (l := ints L) (i := 0) (j := i) (k := (j : Int)) (by rw [hp]; simp)
    rw [ints_len] at g2
    rw [ints_get (by omega)] at g3
    have g4 := Option.some.inj g3
    exact ⟨i.toNat, by simp; omega, by omega, by rw [show i.toNat = (i - 0).toNat by omega]; omega⟩
theorem f7_plain (x1 : Int) (x2 : Bool) (x3 : List Int) (h1 : 0 ≤ x1 ∧ x1 ≤ 255) (h8 : x3.length = 8) (hb : ∀ b ∈ x3, 0 ≤ b ∧ b ≤ 255) : f7 FF x1 x2 x3 = some true := by
  have t0 : 0 ≤ x1.tmod 8 := Int.tmod_nonneg _ h1.1
  have t1 : x1.tmod 8 < 8 := Int.tmod_lt_of_pos _ (by omega)
  obtain ⟨n, hn, e⟩ : ∃ n : Nat, (1 ≤ n ∧ n ≤ 8) ∧ w64 (1 + Int.tmod (w64 x1) 8) = (n : Int) := by
    refine ⟨(1 + x1.tmod 8).toNat, by omega, ?_⟩
    rw [w64_in (n := x1) (by omega), w64_in (by omega)]; omega
  obtain ⟨l, hl, v⟩ := Fnn.f34_eq (F := FF) (show 100 ≤ 100000000 by omega) hn x2 h8 hb
  have hlen := v.len
  have p2 := f7_p2_eq hn e v n 1 FF [] (show n < 100000000 by omega) (by omega) (by omega) (by simp)
  rw [show tab 9 (bT l 1) = List.replicate 9 (0 : Int) by rw [tab_zero]; exact tab_congr fun i _ => by unfold bT; rw [if_neg (by omega)],
    show tab 9 (eT x2 l 1) = List.replicate 9 (0 : Int) by rw [tab_zero]; exact tab_congr fun i _ => by unfold eT; rw [if_neg (by omega)], List.nil_append] at p2
  have p2 : f7_p2 FF x1 n x2 l FF 1 (List.replicate 9 0) (List.replicate 9 0) ([] : List Int) = _ := p2
  have hIN : ∀ k ∈ kin l n 1, 1 ≤ k ∧ k ≤ n ∧ posF 0 l k ≠ [] := fun k hk => by
    have := mem_kin.1 hk
    exact ⟨this.1, by omega, this.2.2⟩
  have hnd : (kin l n 1).Nodup := kin_nodup
  have hlen8 : (kin l n 1).length ≤ n := kin_len
  have hall : ∀ j : Nat, 1 ≤ j → j ≤ n → posF 0 l j ≠ [] → j ∈ kin l n 1 := fun j a b c => mem_kin.2 ⟨a, by omega, c⟩
  generalize kin l n 1 = IN at p2 hIN hnd hlen8 hall
  -- where they begin and end
  have hbe : ∀ k ∈ IN, ∃ a : Nat, posF 0 l k = [(a : Int), ((a + dN x2 k : Nat) : Int)] ∧ a + dN x2 k < l.length ∧ bT l (n + 1) k = a ∧ eT x2 l (n + 1) k = a + dN x2 k := by
    intro k hk
    obtain ⟨k1, k2, k3⟩ := hIN k hk
    obtain ⟨a, ha, hlt, _⟩ := v.both ⟨k1, by omega⟩ k3
    have hbg : bg l k = a := by unfold bg; rw [ha]; rfl
    exact ⟨a, ha, hlt, by unfold bT; rw [if_pos ⟨by omega, k1, k3⟩, hbg], by unfold eT; rw [if_pos ⟨by omega, k1, k3⟩, en, hbg]⟩
  unfold f7
  rw [e, hl, Option.bind_some]
  simp only [if_true]
  rw [p2, Option.bind_some]
  simp only []
  rw [ints_len]
  by_cases h0 : IN.length = 0
  · rw [if_pos (by simp; exact List.length_eq_zero_iff.1 h0), works_is]; rfl
  · have h9 : ∀ k ∈ IN, k < 9 := fun k hk => by have := hIN k hk; omega
    have p9 := f7_p9_eq (by omega) h9 (bT l (n + 1)) (eT x2 l (n + 1)) x1 x2 l n (IN.length : Int) FF 0 [] (by omega) (show IN.length < 100000000 + 0 by omega) (by simp)
    rw [List.nil_append] at p9
    have p9 : f7_p9 FF x1 (ints IN) n x2 l (tab 9 (bT l (n + 1))) (tab 9 (eT x2 l (n + 1))) FF 0 (IN.length : Int) ([] : List (Int × (Int × Unit))) = _ := p9
    obtain ⟨Q, hQ⟩ : ∃ Q, Q = rowsQ (qb IN (bT l (n + 1)) (eT x2 l (n + 1))) IN.length 0 := ⟨_, rfl⟩
    rw [← hQ] at p9
    obtain ⟨r, p18, _, r1, r2⟩ := f7_p18_eq (by omega) h9 (bT l (n + 1)) (eT x2 l (n + 1)) hn e x2 l n (IN.length : Int) (qs Q) FF 0 0 (by omega) (show 2 * n < 100000000 + 0 by omega)
    have p18 : f7_p18 FF (ints IN) x1 n x2 l (tab 9 (bT l (n + 1))) (tab 9 (eT x2 l (n + 1))) IN.length (qs Q) FF 0 0 = some (r : Int) := p18
    have hBE : ∀ i, i < IN.length → bT l (n + 1) (IN.getD i 0) < eT x2 l (n + 1) (IN.getD i 0) := fun i hi => by
      obtain ⟨a, _, _, q1, q2⟩ := hbe _ (getD_mem hi)
      have := Fnn.dN_pos (w := x2) (hIN _ (getD_mem hi)).1
      omega
    have hT : ∀ i, i < IN.length → bT l (n + 1) (IN.getD i 0) < 2 * n := fun i hi => by
      obtain ⟨a, _, _, q1, q2⟩ := hbe _ (getD_mem hi)
      omega
    obtain ⟨c, b, s1, s2, s3, s4, s5⟩ := spans (r := r) (T := 2 * n) (l := Q) ⟨by omega, by omega⟩ hBE hT (fun p hp => by rw [← cntO_open]; exact r1 p (by omega) hp) (by
      rcases r2 with r2 | ⟨y, _, y1, y2⟩
      · exact .inl r2
      · exact .inr ⟨y, y1, by rw [← cntO_open]; exact y2⟩) hQ
    have hr : r ≤ 100 := by
      rcases r2 with rfl | ⟨y, _, _, rfl⟩
      · omega
      · exact Nat.le_trans cntO_le (by omega)
    obtain ⟨q1, _, q3⟩ := rowsQ_facts (qb IN (bT l (n + 1)) (eT x2 l (n + 1))) IN.length IN.length 0 (by omega) (by omega)
    have q3 := q3 (by omega)
    rw [← hQ] at q1 q3
    have hmem : ∀ i j, (i, j) ∈ Q ↔ i < j ∧ j < IN.length ∧ bT l (n + 1) (IN.getD i 0) < eT x2 l (n + 1) (IN.getD j 0) ∧ bT l (n + 1) (IN.getD j 0) < eT x2 l (n + 1) (IN.getD i 0) := by
      intro i j; rw [hQ, mem_rowsQ, qb, decide_eq_true_eq]
    have hy : ∀ a, a < IN.length → ∀ y ∈ crs x2 l (IN.getD a 0) n 1, ∃ j : Nat, (posF 0 (ints IN) y).headD (-1) = (j : Int) ∧ j ≠ a ∧ ((j, a) ∈ Q ∨ (a, j) ∈ Q) := by
      intro a ha y hy
      obtain ⟨i, rfl, i1, i2, i3⟩ := mem_crs hy
      obtain ⟨k1, k2, k3⟩ := hIN _ (getD_mem ha)
      obtain ⟨s, z1, z2, z3, z4⟩ := hbe _ (getD_mem ha)
      obtain ⟨t, w1, w2⟩ := (Fnn.cross_iff v ⟨k1, by omega⟩ ⟨i1, by omega⟩ z1).1 i3
      have him : i ∈ IN := hall i i1 (by omega) (by rw [w1]; simp)
      obtain ⟨t', u1, u2, u3, u4⟩ := hbe i him
      obtain rfl : t = t' := by rw [w1] at u1; have := (List.cons.inj u1).1; omega
      obtain ⟨j, j1, j2, j3⟩ := pos_ints him
      have d1 := Fnn.dN_pos (w := x2) k1
      have d2 := Fnn.dN_pos (w := x2) i1
      have hov : t < s + dN x2 (IN.getD a 0) ∧ s < t + dN x2 i ∧ s ≠ t := by
        by_cases c : s < t ∧ t < s + dN x2 (IN.getD a 0)
        · exact ⟨by omega, by omega, by omega⟩
        · have c2 : s < t + dN x2 i ∧ t + dN x2 i < s + dN x2 (IN.getD a 0) := Classical.byContradiction fun h => c (w2.2 h)
          refine ⟨by omega, by omega, fun est => ?_⟩
          have : i = IN.getD a 0 := by
            have hp : (s : Int) ∈ posF 0 l (i : Int) := by rw [w1, est]; simp
            have hp2 : (s : Int) ∈ posF 0 l (IN.getD a 0 : Nat) := by rw [z1]; simp
            have := Fnn.pos_apart hp hp2
            omega
          rw [this] at c2; omega
      have hja : j ≠ a := fun h => by
        rw [h] at j3
        rw [j3] at z1
        rw [z1] at w1
        have := (List.cons.inj w1).1
        omega
      refine ⟨j, j1, hja, ?_⟩
      rw [hmem, hmem, j3, u3, u4, z3, z4]
      rcases Nat.lt_or_gt_of_ne hja with h | h
      · exact .inl ⟨h, ha, by omega, by omega⟩
      · exact .inr ⟨h, j2, by omega, by omega⟩
    have p28 := f7_p28_eq (by omega) hn v hIN (IN.length : Int) (Q := Q) (by omega) (fun p hp => by obtain ⟨i, j⟩ := p; exact ((hmem i j).1 hp).1) hy FF 0 (by omega) (show IN.length < 100000000 + 0 by omega)
    have p28 : f7_p28 FF (ints IN) n x2 l IN.length (qs Q) FF 0 = some .c1 := p28
    rw [if_neg (by simp; intro h; exact h0 (by rw [h]; rfl)), p9, Option.bind_some]
    simp only []
    rw [p18, Option.bind_some, List.drop_zero, Nat.zero_add, List.take_of_length_le (Nat.le_refl _), s2, Option.bind_some]
    simp only []
    rw [s1, Option.bind_some]
    simp only []
    rw [if_neg (by decide), if_neg (by decide), if_neg (by rw [ints_len, s3]; simp), if_neg (by rw [tab_len]; simp), s5, Option.bind_some, if_neg (by rw [show w64 ((r : Int) - 1 + 1) = (r : Int) by rw [w64_in (by omega)]; omega]; simp), p28, Option.bind_some]
    simp only []
    rw [works_is]; rfl
end

end Go.Gh.Top
