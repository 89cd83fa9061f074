/- What an operation says it has read it has read. -/
import Derived.Test.YtcaphjiiaclndaaGreatDoorGhR
namespace Go.Gh
set_option linter.unusedVariables false
set_option linter.unusedSimpArgs false

section
variable {T : Tbl} {H : Heap} {R : OR} {es es' : List En}
theorem gLoad_rd {t : TypeId} {x : GA} (h : gLoad T H t x es = some (R, es')) : ∀ x ∈ R.rd, H x.1 = some x.2 := by
 unfold gLoad at h
 (repeat' split at h)
 all_goals (first | (cases h; done) | skip)
 all_goals (simp only [Option.some.injEq, Prod.mk.injEq] at h)
 all_goals (first | (have h1 := And.left h; subst h1) | subst h)
 all_goals (intro x hx)
 all_goals (try simp only [List.not_mem_nil, List.mem_cons, or_false, false_or] at hx)
 all_goals (first | (cases hx; done) | (subst hx; assumption) | (simp_all; done))
theorem gStore_rd {t : TypeId} {x : GA} {y : G} (h : gStore T H t x y = some R) : ∀ x ∈ R.rd, H x.1 = some x.2 := by
 unfold gStore at h
 (repeat' split at h)
 all_goals (first | (cases h; done) | skip)
 all_goals (simp only [Option.some.injEq, Prod.mk.injEq] at h)
 all_goals (first | (have h1 := And.left h; subst h1) | subst h)
 all_goals (intro x hx)
 all_goals (try simp only [List.not_mem_nil, List.mem_cons, or_false, false_or] at hx)
 all_goals (first | (cases hx; done) | (subst hx; assumption) | (simp_all; done))
theorem gSlice_rd {t : TypeId} {x : GA} {l m k : Option Int} (h : gSlice T H t x l m k = some R) : ∀ x ∈ R.rd, H x.1 = some x.2 := by
 unfold gSlice at h
 (repeat' split at h)
 all_goals (first | (cases h; done) | skip)
 all_goals (simp only [Option.some.injEq, Prod.mk.injEq] at h)
 all_goals (first | (have h1 := And.left h; subst h1) | subst h)
 all_goals (intro x hx)
 all_goals (try simp only [List.not_mem_nil, List.mem_cons, or_false, false_or] at hx)
 all_goals (first | (cases hx; done) | (subst hx; assumption) | (simp_all; done))
theorem gLen_rd {t : TypeId} {x : GA} (h : gLen T H t x = some R) : ∀ x ∈ R.rd, H x.1 = some x.2 := by
 unfold gLen at h
 (repeat' split at h)
 all_goals (first | (cases h; done) | skip)
 all_goals (simp only [Option.some.injEq, Prod.mk.injEq] at h)
 all_goals (first | (have h1 := And.left h; subst h1) | subst h)
 all_goals (intro x hx)
 all_goals (try simp only [List.not_mem_nil, List.mem_cons, or_false, false_or] at hx)
 all_goals (first | (cases hx; done) | (subst hx; assumption) | (simp_all; done))
theorem gIndexAddr_rd {t : TypeId} {x : GA} {i : Int} (h : gIndexAddr T H t x i es = some (R, es')) : ∀ x ∈ R.rd, H x.1 = some x.2 := by
 unfold gIndexAddr at h
 (repeat' split at h)
 all_goals (first | (cases h; done) | skip)
 all_goals (simp only [Option.some.injEq, Prod.mk.injEq] at h)
 all_goals (first | (have h1 := And.left h; subst h1) | subst h)
 all_goals (intro x hx)
 all_goals (try simp only [List.not_mem_nil, List.mem_cons, or_false, false_or] at hx)
 all_goals (first | (cases hx; done) | (subst hx; assumption) | (simp_all; done))
theorem gMakeS_rd {t : TypeId} {x y : GA} (h : gMakeS T t x y es = some (R, es')) : R.rd = [] := by
 unfold gMakeS at h; (repeat' split at h) <;> first | (cases h; done) | (simp only [Option.some.injEq, Prod.mk.injEq] at h; obtain ⟨rfl, rfl⟩ := h; rfl)
theorem gMakeV_rd {t : TypeId} {x y : GA} {L n : Nat} (h : gMakeV T t x y L n es = some (R, es')) : R.rd = [] := by
 unfold gMakeV at h; (repeat' split at h) <;> first | (cases h; done) | (simp only [Option.some.injEq, Prod.mk.injEq] at h; obtain ⟨rfl, rfl⟩ := h; rfl)
theorem gMake_rd {t : TypeId} {x y : GA} (h : gMake T t x y es = some (R, es')) : R.rd = [] := by
 unfold gMake at h
 split at h
 ·exact gMakeV_rd h
 ·obtain ⟨n, len, rd, τ, e, xs, b, cs, h1, rfl⟩ := gFz_spec h
  have k := gMakeS_rd h1
  exact k
 ·exact gMakeS_rd h
theorem gAlloc_rd {t : TypeId} (h : gAlloc T t es = some (R, es')) : R.rd = [] := by
 unfold gAlloc at h; (repeat' split at h) <;> first | (cases h; done) | (simp only [Option.some.injEq, Prod.mk.injEq] at h; obtain ⟨rfl, rfl⟩ := h; rfl)
theorem gBox_rd {t : TypeId} {x : G} (h : gBox T t x es = some (R, es')) : R.rd = [] := by
 unfold gBox at h; (repeat' split at h) <;> first | (cases h; done) | (simp only [Option.some.injEq, Prod.mk.injEq] at h; obtain ⟨rfl, rfl⟩ := h; rfl)

theorem listSrc_rd {τ : Ty} {y : GA} {ys : List τ.den} {rd : List (Nat × Blk)} {cs : List Prop} (h : listSrc H τ y = some (ys, rd, cs)) : ∀ x ∈ rd, H x.1 = some x.2 := by
 unfold listSrc at h
 (repeat' split at h)
 all_goals (first | (cases h; done) | skip)
 all_goals (simp only [Option.some.injEq, Prod.mk.injEq] at h; obtain ⟨_, rfl, _⟩ := h)
 all_goals (intro x hx)
 all_goals (simp only [List.not_mem_nil, List.mem_cons, or_false, false_or] at hx)
 all_goals (subst hx; assumption)

theorem gAppendS_rd {t t2 : TypeId} {x y : GA} (h : gAppendS T H t t2 x y es = some (R, es')) : ∀ x ∈ R.rd, H x.1 = some x.2 := by
 unfold gAppendS at h
 (repeat' split at h)
 all_goals (first | (cases h; done) | skip)
 all_goals (simp only [Option.some.injEq, Prod.mk.injEq] at h; obtain ⟨rfl, rfl⟩ := h)
 ·rename_i hs; exact listSrc_rd hs
 ·rename_i hs; exact listSrc_rd hs
 ·rename_i hs
  intro x hx
  rcases List.mem_cons.1 hx with rfl | hx
  ·assumption
  ·exact listSrc_rd hs x hx

theorem gAppendL_rd {t t2 : TypeId} {x y : GA} (h : gAppendL T H t t2 x y es = some (R, es')) : ∀ x ∈ R.rd, H x.1 = some x.2 := by
 unfold gAppendL at h
 (repeat' split at h)
 all_goals (first | (cases h; done) | skip)
 all_goals (simp only [Option.some.injEq, Prod.mk.injEq] at h; obtain ⟨rfl, rfl⟩ := h)
 all_goals (rename_i hs; exact listSrc_rd hs)

theorem gAppend_rd {t t2 : TypeId} {x y : GA} (h : gAppend T H t t2 x y es = some (R, es')) : ∀ x ∈ R.rd, H x.1 = some x.2 := by
 unfold gAppend at h
 split at h
 ·obtain ⟨n, len, rd, τ, e, xs, b, cs, h1, rfl⟩ := gFz_spec h
  have k := gAppendS_rd h1
  exact k
 ·exact gAppendL_rd h
 ·split at h
  ·exact gAppendS_rd h
  ·exact gAppendS_rd h
 ·exact gAppendS_rd h

theorem gBuildV_rd {t : TypeId} {L n : Nat} {ps : List (Nat × G)} (h : gBuildV T t L n ps es = some (R, es')) : R.rd = [] := by
 unfold gBuildV at h; (repeat' split at h) <;> first | (cases h; done) | (simp only [Option.some.injEq, Prod.mk.injEq] at h; obtain ⟨rfl, rfl⟩ := h; rfl)
theorem gOp_rd {o : Oper} {ev : Operand → G} (h : gOp T o ev H es = some (R, es')) : ∀ x ∈ R.rd, H x.1 = some x.2 := by
 unfold gOp at h
 (repeat' split at h)
 all_goals (first | (cases h; done) | skip)
 all_goals first
  | exact gLoad_rd h
  | exact gAppend_rd h
  | exact gIndexAddr_rd h
  | (rw [gMake_rd h]; simp; done)
  | (rw [gBuildV_rd h]; simp; done)
  | (rw [gAlloc_rd h]; simp; done)
  | (rw [gBox_rd h]; simp; done)
  | skip
 all_goals (simp only [Option.some.injEq, Prod.mk.injEq] at h; obtain ⟨rfl, rfl⟩ := h)
 all_goals first
  | (intro x hx; cases hx; done)
  | (rename_i hs; exact gStore_rd hs)
  | (rename_i hs; exact gSlice_rd hs)
  | (rename_i hs; exact gLen_rd hs)

theorem gX_rd {o : Oper} {ev : Operand → G} {R : OR} (h : gX T o ev H = some R) : ∀ x ∈ R.rd, H x.1 = some x.2 := by
 unfold gX at h
 split at h
 ·(repeat' split at h) <;> first | (cases h; done) | (simp only [Option.some.injEq] at h; subst h; intro x hx; cases hx)
 ·split at h
  ·(repeat' split at h) <;> first | (cases h; done) | (simp only [Option.some.injEq] at h; subst h; intro x hx; cases hx)
  ·(repeat' split at h) <;> first | (cases h; done) | (simp only [Option.some.injEq] at h; subst h; intro x hx; cases hx)
  ·split at h
   rotate_left
   ·cases h
   unfold gCopy at h
   split at h
   rotate_left
   ·cases h
   split at h
   rotate_left
   ·cases h
   split at h
   rotate_left
   ·cases h
   rename_i hHn
   split at h
   rotate_left
   ·cases h
   split at h
   rotate_left
   ·cases h
   rename_i hsrc
   simp only [Option.some.injEq] at h; subst h
   intro x hx
   rcases List.mem_cons.1 hx with rfl | hx
   ·exact hHn
   ·exact listSrc_rd hsrc x hx
  ·split at h
   rotate_left
   ·cases h
   unfold gClear at h
   (repeat' split at h) <;> first | (cases h; done) | (rename_i hHn _; simp only [Option.some.injEq] at h; subst h; intro x hx; rcases List.mem_cons.1 hx with rfl | hx <;> first | exact hHn | cases hx)
  ·cases h
 ·cases h

theorem gOpX_rd {o : Oper} {ev : Operand → G} (h : gOpX T o ev H es = some (R, es')) : ∀ x ∈ R.rd, H x.1 = some x.2 := by
 unfold gOpX at h
 split at h
 ·(repeat' split at h) <;> try (cases h; done)
  all_goals rename_i R' hs
  all_goals simp only [Option.some.injEq, Prod.mk.injEq] at h
  all_goals obtain ⟨rfl, rfl⟩ := h
  all_goals first | unfold gSliceC at hs | unfold gSliceK at hs
  all_goals ((repeat' split at hs) <;> first | (cases hs; done) | (rename_i hHn _; simp only [Option.some.injEq] at hs; subst hs; intro x hx; rcases List.mem_cons.1 hx with rfl | hx <;> first | exact hHn | cases hx))
 ·(repeat' split at h) <;> try (cases h; done)
  rename_i R' hs
  simp only [Option.some.injEq, Prod.mk.injEq] at h
  obtain ⟨rfl, rfl⟩ := h
  unfold gSliceB at hs
  (repeat' split at hs) <;> first | (cases hs; done) | (rename_i hHn _; simp only [Option.some.injEq] at hs; subst hs; intro x hx; rcases List.mem_cons.1 hx with rfl | hx <;> first | exact hHn | cases hx)
 ·(repeat' split at h) <;> try (cases h; done)
  rename_i R' hs
  simp only [Option.some.injEq, Prod.mk.injEq] at h
  obtain ⟨rfl, rfl⟩ := h
  unfold gAppendI at hs
  split at hs
  ·cases hs
  split at hs
  rotate_left
  ·cases hs
  split at hs
  rotate_left
  ·cases hs
  split at hs
  rotate_left
  ·cases hs
  rename_i hHn
  split at hs
  rotate_left
  ·cases hs
  split at hs
  rotate_left
  ·cases hs
  rename_i hsrc
  simp only [Option.some.injEq] at hs; subst hs
  intro x hx
  rcases List.mem_cons.1 hx with rfl | hx
  ·exact hHn
  ·exact listSrc_rd hsrc x hx
 ·split at h
  ·rename_i r hr
   cases h
   exact gOp_rd hr
  ·split at h
   ·rename_i R' hr
    cases h
    exact gX_rd hr
   ·cases h

theorem gArg_rd {c : ArgCo} {g g' : G} {l : List Nat} {rd : List (Nat × Blk)} {cs : List Prop} (h : gArg H c g = some (g', l, rd, cs)) : ∀ x ∈ rd, H x.1 = some x.2 := by
 unfold gArg at h
 (repeat' split at h)
 all_goals (first | (cases h; done) | skip)
 all_goals (simp only [Option.some.injEq, Prod.mk.injEq] at h; obtain ⟨_, _, rfl, _⟩ := h)
 all_goals (intro x hx)
 all_goals (simp only [List.not_mem_nil, List.mem_cons, or_false, false_or] at hx)
 all_goals (subst hx; assumption)

theorem gArgs_rd : {cos : List ArgCo} → {gs gs' : List G} → {l : List Nat} → {rd : List (Nat × Blk)} → {cs : List Prop} → gArgs H cos gs = some (gs', l, rd, cs) → ∀ x ∈ rd, H x.1 = some x.2
 | [], _, _, _, _, _, h => by simp only [gArgs, Option.some.injEq, Prod.mk.injEq] at h; obtain ⟨_, _, rfl, _⟩ := h; simp
 | _ :: _, [], _, _, _, _, h => by simp [gArgs] at h
 | _ :: _, _ :: _, _, _, _, _, h => by
  simp only [gArgs] at h
  split at h
  ·rename_i h1 h2
   simp only [Option.some.injEq, Prod.mk.injEq] at h; obtain ⟨_, _, rfl, _⟩ := h
   intro x hx
   rcases List.mem_append.1 hx with hx | hx
   ·exact gArg_rd h1 x hx
   ·exact gArgs_rd h2 x hx
  ·cases h

theorem gCall_rd {cx : Cx} {c : Call} {ev : Operand → G} (h : gCall cx c ev H es = some (R, es')) : ∀ x ∈ R.rd, H x.1 = some x.2 := by
 unfold gCall at h
 split at h
 rotate_left
 ·cases h
 split at h
 rotate_left
 ·cases h
 split at h
 rotate_left
 ·cases h
 split at h
 rotate_left
 ·cases h
 rename_i hargs
 simp only [] at h
 split at h
 rotate_left
 ·cases h
 simp only [Option.some.injEq, Prod.mk.injEq] at h; obtain ⟨rfl, rfl⟩ := h
 intro x hx
 rcases List.mem_append.1 hx with hx | hx
 ·exact gArgs_rd hargs x hx
 ·simp only [subK, List.mem_filterMap] at hx
  obtain ⟨n, _, hn⟩ := hx
  cases hH : H n with
  | none => rw [hH] at hn; cases hn
  | some b => rw [hH] at hn; simp only [Option.map_some, Option.some.injEq] at hn; subst hn; exact hH

theorem gYield_rd {cx : Cx} {c : Call} {ev : Operand → G} (h : gYield cx c ev H es = some (R, es')) : ∀ x ∈ R.rd, H x.1 = some x.2 := by
 unfold gYield at h
 split at h
 rotate_left
 ·cases h
 split at h
 rotate_left
 ·cases h
 split at h
 rotate_left
 ·cases h
 rename_i hHm
 split at h
 rotate_left
 ·cases h
 rename_i hargs
 simp only [] at h
 split at h
 rotate_left
 ·cases h
 simp only [Option.some.injEq, Prod.mk.injEq] at h; obtain ⟨rfl, rfl⟩ := h
 intro x hx
 rcases List.mem_cons.1 hx with rfl | hx
 ·exact hHm
 rcases List.mem_append.1 hx with hx | hx
 ·exact gArgs_rd hargs x hx
 ·simp only [subK, List.mem_filterMap] at hx
  obtain ⟨n, _, hn⟩ := hx
  cases hH : H n with
  | none => rw [hH] at hn; cases hn
  | some b => rw [hH] at hn; simp only [Option.map_some, Option.some.injEq] at hn; subst hn; exact hH

theorem gAny_rd {cx : Cx} {o : Oper} {ev : Operand → G} (h : gAny cx o ev H es = some (R, es')) : ∀ x ∈ R.rd, H x.1 = some x.2 := by
 unfold gAny at h
 split at h
 ·split at h
  ·split at h
   ·rename_i r hr
    cases h
    exact gCall_rd hr
   ·exact gYield_rd h
  ·exact gOpX_rd h
 ·split at h
  ·rename_i r hr
   cases h
   exact gOpX_rd hr
  ·exact gMap_rd h
end
end Go.Gh
