/- The plain law of PacketGaps. -/
import Derived.Test.YtkjlgbnbpeijbaaPackB4
namespace Go.Gh.Pack
set_option linter.unusedVariables false
set_option linter.unusedSimpArgs false

theorem f4_plain (a : List Int) : f4 2100 a = some true := by
  have ew := works
  obtain ⟨z, e, hz⟩ := f15_eq (F := 2100) a [] []
  unfold f4
  rw [e, Option.bind_some]
  cases z with
  | true => rw [if_pos rfl, ew]; rfl
  | false =>
    obtain ⟨hl, _⟩ := hz rfl
    rw [if_neg (by decide)]
    by_cases hck : ck a = 0
    · obtain ⟨l, e, h1, h2, h3, _, h5⟩ := gaps_both hck
      obtain ⟨v, e', g1, g2⟩ := greatest_both h1 h2 h3
      obtain ⟨w, e'', k1, k2⟩ := even_both h1 h2 h3 h5
      obtain ⟨z, hz⟩ := exFlags a
      have n1 := f34_eq hck hz
      have n2 := f35_eq hck hz
      have hnl := need_len z a.length
      have hf28 : f28 2100 a = some (l, e) := by unfold f28; rw [h1]; rfl
      rw [hf28, Option.bind_some]
      dsimp only
      rw [h2, Option.bind_some]
      dsimp only
      rw [g1, Option.bind_some]
      dsimp only
      rw [g2, Option.bind_some]
      dsimp only
      rw [k1, Option.bind_some]
      dsimp only
      rw [k2, Option.bind_some]
      dsimp only
      rw [n1, Option.bind_some]
      dsimp only
      rw [n2, Option.bind_some]
      dsimp only
      rw [f23_eq (by omega) (by omega), decide_eq_true rfl, Option.bind_some, if_pos rfl, f23_eq (by omega) (by omega), decide_eq_true rfl]
      simp only [beq_self_eq_true, if_true, Option.bind_some, ew]
    · have p1 : f70 2100 a = some ([], ck a) := by
        unfold f70
        rw [f26_eq (by omega), Option.bind_some, if_pos (by simpa using hck)]
      have p2 : f29 2100 a = some ([], ck a) := by
        unfold f29
        rw [f27_eq (by omega), Option.bind_some, if_neg (by simpa using hck)]
      obtain ⟨v, e', g1, g2⟩ := greatest_both p1 p2 (by simp)
      obtain ⟨w, e'', k1, k2⟩ := even_both p1 p2 (by simp) (by simp)
      have n1 : f34 2100 a = some ([], ck a) := by
        unfold f34
        rw [f26_eq (by omega), Option.bind_some, if_pos (by simpa using hck)]
      have n2 : f35 2100 a = some ([], ck a) := by
        unfold f35
        rw [f27_eq (by omega), Option.bind_some, if_pos (by simpa using hck)]
      have hf28 : f28 2100 a = some ([], ck a) := by unfold f28; rw [p1]; rfl
      rw [hf28, Option.bind_some]
      dsimp only
      rw [p2, Option.bind_some]
      dsimp only
      rw [g1, Option.bind_some]
      dsimp only
      rw [g2, Option.bind_some]
      dsimp only
      rw [k1, Option.bind_some]
      dsimp only
      rw [k2, Option.bind_some]
      dsimp only
      rw [n1, Option.bind_some]
      dsimp only
      rw [n2, Option.bind_some]
      dsimp only
      rw [f23_eq (by simp) (by omega), decide_eq_true rfl]
      simp only [beq_self_eq_true, if_true, Option.bind_some, ew]

end Go.Gh.Pack
