/- BunchTurns: what is looked at; the law from it. -/
import Derived.Test.YtegnegeoodkpcaaBunchB4
namespace Go.Gh.Bunch
set_option linter.unusedVariables false
set_option linter.unusedSimpArgs false

def okD (l : List Int) : Bool := (match f29 2000 l with | some (a, e) => f30 2000 l == some (a, e) && decide (a.length ≤ 100) | none => false) && (match f32 2000 l with | some (a, e) => f33 2000 l == some (a, e) && decide (a.length ≤ 100) | none => false)
def okO (l : List Int) : Bool := f27 2000 l == some (dbl 2000 l, 0) && decide ((dbl 2000 l).length ≤ 100)
def enD (n : Nat) : List (List Int) := en (fun _ => true) 1 40 n 30
def enO (n : Nat) : List (List Int) := en (fun x => x % 2 == 1) 0 40 n 30

theorem all_cut {p : List Int → Bool} {L : List (List Int)} (q : Nat) (h : (L.take q).all p = true) (k : (L.drop q).all p = true) : L.all p = true := by
  rw [← List.take_append_drop q L, List.all_append, h, k]; rfl

/-- Two answers are alike. -/
def Alike (x y : Option (List Int × Int)) : Prop := ∃ a e, x = some (a, e) ∧ y = some (a, e) ∧ a.length ≤ 100

theorem sm_le {l : List Int} (h : chk l = 0) : chkL 30 l = 0 ∧ (sm l).toNat ≤ 30 := by
  unfold chk at h
  split at h
  · rename_i h2; exact absurd h h2
  · rename_i h2
    split at h
    · cases h
    · exact ⟨Classical.not_not.1 h2, by omega⟩

theorem mem_D {l : List Int} (h : chk l = 0) (ha : adj uneq l = true) : l ∈ enD (sm l).toNat := by
  obtain ⟨h1, h2⟩ := sm_le h
  exact en_dif 40 30 l (by omega) h1 ha
theorem mem_O {l : List Int} (h : chk l = 0) (ha : odds l = true) : l ∈ enO (sm l).toNat := by
  obtain ⟨h1, h2⟩ := sm_le h
  exact en_odd 40 30 l (by omega) h1 ha

theorem turn_alike {l : List Int} (hl : l.length ≤ 100) : Alike (f25 2000 l) (f26 2000 l) := by
  unfold f25 f26
  rw [f34_eq hl (by omega), f35_eq hl (by omega), Option.bind_some, Option.bind_some]
  by_cases h : chk l = 0
  · have hc := (sm_le h).1
    have hb : (nxt l 0).toNat ≤ 100 := by
      by_cases h0 : 0 < l.length
      · rw [nxt_lt h0]; have := (chkL_all _ _ hc _ (List.getElem_mem h0)).2; omega
      · rw [nxt_ge (by omega)]; decide
    rw [h, if_neg (by decide), if_neg (by decide), f61_eq (by omega) hl hc, f62_eq (by omega) hl hc]
    exact ⟨_, _, rfl, rfl, by rw [turn_len]; exact hb⟩
  · rw [if_pos (by simpa using h), if_pos (by simpa using h)]
    exact ⟨_, _, rfl, rfl, by simp⟩

theorem double_alike (hO : ∀ n ≤ 30, (enO n).all okO = true) {l : List Int} (hl : l.length ≤ 100) : Alike (f27 2000 l) (f28 2000 l) := by
  by_cases h : chk l = 0
  · cases ho : odds l with
    | true =>
      have hm := List.all_eq_true.1 (hO _ (sm_le h).2) l (mem_O h ho)
      simp only [okO, Bool.and_eq_true, decide_eq_true_eq] at hm
      have e1 := eq_of_beq hm.1
      have hb := chkL_all _ _ (sm_le h).1
      have hs := chkL_sm _ _ (sm_le h).1
      have hs2 := (sm_le h).2
      have hlen : l.length ≤ 30 := by omega
      have hp : 30 * 2 ^ l.length ≤ 2305843009213693952 := Nat.le_trans (Nat.mul_le_mul_left 30 (Nat.pow_le_pow_right (by omega) hlen)) (by decide)
      have e2 := f67_eq 2000 l 30 (by omega) hl hb hp
      refine ⟨_, _, e1, ?_, hm.2⟩
      unfold f28 f28_p0
      rw [f35_eq hl (by omega), Option.bind_some, h, if_pos (by decide), f66_eq (by omega) hl, Option.bind_some, ho, if_pos rfl, Option.bind_some, if_neg (by decide), e2]
      rfl
    | false =>
      refine ⟨[], 14, ?_, ?_, by simp⟩
      · unfold f27
        rw [f34_eq hl (by omega), Option.bind_some, h, if_neg (by decide), f63_eq (by omega) hl, Option.bind_some, ho]
        rfl
      · unfold f28 f28_p0
        rw [f35_eq hl (by omega), Option.bind_some, h, if_pos (by decide), f66_eq (by omega) hl, Option.bind_some, ho]
        rfl
  · refine ⟨[], chk l, ?_, ?_, by simp⟩
    · unfold f27; rw [f34_eq hl (by omega), Option.bind_some, if_pos (by simpa using h)]
    · unfold f28; rw [f35_eq hl (by omega), Option.bind_some, if_neg (by simpa using h)]

theorem half_alike (hD : ∀ n ≤ 30, (enD n).all okD = true) {l : List Int} (hl : l.length ≤ 100) : Alike (f29 2000 l) (f30 2000 l) ∧ Alike (f32 2000 l) (f33 2000 l) := by
  by_cases h : chk l = 0
  · cases ha : adj uneq l with
    | true =>
      have hm := List.all_eq_true.1 (hD _ (sm_le h).2) l (mem_D h ha)
      simp only [okD, Bool.and_eq_true] at hm
      obtain ⟨m1, m2⟩ := hm
      constructor
      · cases hf : f29 2000 l with
        | none => rw [hf] at m1; cases m1
        | some v =>
          obtain ⟨a, e⟩ := v
          rw [hf] at m1
          simp only [Bool.and_eq_true, decide_eq_true_eq] at m1
          exact ⟨a, e, rfl, eq_of_beq m1.1, m1.2⟩
      · cases hf : f32 2000 l with
        | none => rw [hf] at m2; cases m2
        | some v =>
          obtain ⟨a, e⟩ := v
          rw [hf] at m2
          simp only [Bool.and_eq_true, decide_eq_true_eq] at m2
          exact ⟨a, e, rfl, eq_of_beq m2.1, m2.2⟩
    | false =>
      refine ⟨⟨[], 14, ?_, ?_, by simp⟩, ⟨[], 14, ?_, ?_, by simp⟩⟩
      · unfold f29
        rw [f34_eq hl (by omega), Option.bind_some, h, if_neg (by decide), f68_eq (by omega) hl, Option.bind_some, ha]
        rfl
      · unfold f30 f30_p0
        rw [f35_eq hl (by omega), Option.bind_some, h, if_pos (by decide), f60_eq hl (by omega), Option.bind_some, ha]
        rfl
      · unfold f32
        rw [f34_eq hl (by omega), Option.bind_some, h, if_neg (by decide), f68_eq (by omega) hl, Option.bind_some, ha]
        rfl
      · unfold f33 f33_p0
        rw [f35_eq hl (by omega), Option.bind_some, h, if_pos (by decide), f60_eq hl (by omega), Option.bind_some, ha]
        rfl
  · refine ⟨⟨[], chk l, ?_, ?_, by simp⟩, ⟨[], chk l, ?_, ?_, by simp⟩⟩
    · unfold f29; rw [f34_eq hl (by omega), Option.bind_some, if_pos (by simpa using h)]
    · unfold f30; rw [f35_eq hl (by omega), Option.bind_some, if_neg (by simpa using h)]
    · unfold f32; rw [f34_eq hl (by omega), Option.bind_some, if_pos (by simpa using h)]
    · unfold f33; rw [f35_eq hl (by omega), Option.bind_some, if_neg (by simpa using h)]

theorem works2 : f19 2000 = some true := by decide +kernel

theorem f4_of (hO : ∀ n ≤ 30, (enO n).all okO = true) (hD : ∀ n ≤ 30, (enD n).all okD = true) (l : List Int) : f4 2000 l = some true := by
  simp only [f4, f24, Option.bind_some, decide_eq_true_eq]
  by_cases hl : l.length ≤ 100
  · rw [if_neg (by omega)]
    obtain ⟨a1, e1, x1, y1, b1⟩ := turn_alike hl
    obtain ⟨a2, e2, x2, y2, b2⟩ := double_alike hO hl
    obtain ⟨⟨a3, e3, x3, y3, b3⟩, ⟨a4, e4, x4, y4, b4⟩⟩ := half_alike hD hl
    have q1 := f31_eq (F := 2000) (a := a1) (b := a1) (by omega) (by omega)
    have q2 := f31_eq (F := 2000) (a := a2) (b := a2) (by omega) (by omega)
    have q3 := f31_eq (F := 2000) (a := a3) (b := a3) (by omega) (by omega)
    have q4 := f31_eq (F := 2000) (a := a4) (b := a4) (by omega) (by omega)
    simp only [x1, y1, x2, y2, x3, y3, x4, y4, q1, q2, q3, q4, Option.bind_some, decide_true, if_true, bne_self_eq_false, Bool.false_eq_true, if_false, beq_self_eq_true, works2, f34_eq hl (show 200 ≤ 2000 by omega), f35_eq hl (show 200 ≤ 2000 by omega)]
  · rw [if_pos (by omega), works2]; rfl

end Go.Gh.Bunch
