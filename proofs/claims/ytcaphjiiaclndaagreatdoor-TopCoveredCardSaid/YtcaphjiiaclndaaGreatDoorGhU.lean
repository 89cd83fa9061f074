/- A region that draws its order. -/
import Derived.Test.YtcaphjiiaclndaaGreatDoorGhT
namespace Go.Gh
set_option linter.unusedVariables false
set_option linter.unusedSimpArgs false

section
variable {α : Type}

def up (w : List (Nat × α)) (F : Nat → α) : Nat → α := fun t => match w.find? (·.1 == t) with | some x => x.2 | none => F t

def stF (S : Nat → Bool) : List (List (Nat × α)) → Nat → (Nat → α) → (Nat → α)
 | [], _, F => F
 | w :: ws, k, F => stF S ws (k + 1) (if S k = true then up w F else F)

def keys (w : List (Nat × α)) : List Nat := w.map (·.1)

theorem up_not {w : List (Nat × α)} {F : Nat → α} {t : Nat} (h : t ∉ keys w) : up w F t = F t := by
 unfold up
 have : w.find? (·.1 == t) = none := by
  rw [List.find?_eq_none]
  intro x hx
  simp only [beq_iff_eq]
  exact fun e => h (List.mem_map.2 ⟨x, hx, e⟩)
 rw [this]

theorem up_some {w : List (Nat × α)} {t : Nat} (h : t ∈ keys w) : ∃ g, (t, g) ∈ w ∧ ∀ F, up w F t = g := by
 obtain ⟨x, hx, e⟩ := List.mem_map.1 h
 cases hf : w.find? (·.1 == t) with
 | none =>
  rw [List.find?_eq_none] at hf
  exact absurd (by simpa using e) (hf x hx)
 | some y =>
  have h1 := List.mem_of_find?_eq_some hf
  have h2 := List.find?_some hf
  simp only [beq_iff_eq] at h2
  exact ⟨y.2, by rw [← h2]; exact h1, fun F => by unfold up; rw [hf]⟩

theorem up_congr {w : List (Nat × α)} {F F' : Nat → α} {t : Nat} (h : F t = F' t) : up w F t = up w F' t := by
 by_cases hk : t ∈ keys w
 ·obtain ⟨g, _, hg⟩ := up_some hk; rw [hg, hg]
 ·rw [up_not hk, up_not hk, h]

theorem stF_congr {S S' : Nat → Bool} {t : Nat} : {ws : List (List (Nat × α))} → {k : Nat} → {F F' : Nat → α} → (∀ j w, ws[j]? = some w → t ∈ keys w → S (k + j) = S' (k + j)) → F t = F' t → stF S ws k F t = stF S' ws k F' t
 | [], _, _, _, _, h => h
 | w :: ws, k, F, F', hw, h => by
  rw [stF, stF]
  refine stF_congr (ws := ws) (k := k + 1) (fun j w' hj hk => by have := hw (j + 1) w' (by simpa using hj) hk; rw [show k + 1 + j = k + (j + 1) by omega]; exact this) ?_
  by_cases hk : t ∈ keys w
  ·have := hw 0 w (by simp) hk
   simp only [Nat.add_zero] at this
   rw [this]
   split
   ·exact up_congr h
   ·exact h
  ·have e : ∀ b : Prop, ∀ [Decidable b] (F : Nat → α), (if b then up w F else F) t = F t := by
    intro b _ F; split
    ·exact up_not hk
    ·rfl
   rw [e, e, h]

theorem stF_false : ∀ (ws : List (List (Nat × α))) (k : Nat) (F : Nat → α), stF (fun _ => false) ws k F = F
 | [], _, _ => rfl
 | w :: ws, k, F => stF_false ws (k + 1) F

theorem stF_none {S : Nat → Bool} {t : Nat} {ws : List (List (Nat × α))} {k : Nat} {F : Nat → α} (h : ∀ j w, ws[j]? = some w → t ∈ keys w → S (k + j) = false) : stF S ws k F t = F t := by
 rw [stF_congr (S' := fun _ => false) (F' := F) h rfl, stF_false]

theorem stF_last {S : Nat → Bool} {t : Nat} {w : List (Nat × α)} (F0 : Nat → α) : {ws : List (List (Nat × α))} → {k i : Nat} → {F : Nat → α} → ws[i]? = some w → S (k + i) = true → t ∈ keys w → (∀ j w', i < j → ws[j]? = some w' → t ∈ keys w' → S (k + j) = false) →
  stF S ws k F t = up w F0 t
 | [], _, _, _, h, _, _, _ => by simp at h
 | w0 :: ws, k, 0, F, h, hS, ht, hl => by
  simp only [List.getElem?_cons_zero, Option.some.injEq] at h; subst h
  rw [Nat.add_zero] at hS
  rw [stF, stF_none fun j w' hj hk => by have := hl (j + 1) w' (by omega) (by simpa using hj) hk; rw [show k + 1 + j = k + (j + 1) by omega]; exact this, if_pos hS]
  obtain ⟨g, _, hg⟩ := up_some ht; rw [hg, hg]
 | w0 :: ws, k, i + 1, F, h, hS, ht, hl => by
  rw [stF]
  exact stF_last F0 (i := i) (by simpa using h) (by rw [show k + 1 + i = k + (i + 1) by omega]; exact hS) ht fun j w' hj h1 hk => by
   have := hl (j + 1) w' (by omega) (by simpa using h1) hk; rw [show k + 1 + j = k + (j + 1) by omega]; exact this

theorem stF_cases {S : Nat → Bool} {t : Nat} : {ws : List (List (Nat × α))} → {k : Nat} → {F : Nat → α} → stF S ws k F t = F t ∨ ∃ j w g, ws[j]? = some w ∧ S (k + j) = true ∧ (t, g) ∈ w ∧ stF S ws k F t = g
 | [], _, _ => .inl rfl
 | w :: ws, k, F => by
  rw [stF]
  rcases stF_cases (S := S) (t := t) (ws := ws) (k := k + 1) (F := if S k = true then up w F else F) with h | ⟨j, w', g, h1, h2, h3, h4⟩
  ·by_cases hS : S k = true
   ·rw [if_pos hS] at h ⊢
    by_cases hk : t ∈ keys w
    ·obtain ⟨g, hg, he⟩ := up_some hk
     exact .inr ⟨0, w, g, by simp, by simpa using hS, hg, by rw [h, he]⟩
    ·rw [up_not hk] at h; exact .inl h
   ·rw [if_neg hS] at h ⊢; exact .inl h
  ·exact .inr ⟨j + 1, w', g, by simpa using h1, by rw [show k + (j + 1) = k + 1 + j by omega]; exact h2, h3, h4⟩

end

def maskOf : List Nat → Nat
 | [] => 0
 | t :: l => maskOf l ||| (1 <<< t)

theorem maskOf_spec {l : List Nat} {t : Nat} (h : t ∈ l) : (maskOf l).testBit t = true := by
 induction l with
 | nil => cases h
 | cons x l ih =>
  rw [maskOf, Nat.testBit_or]
  rcases List.mem_cons.1 h with rfl | h
  ·simp [Nat.testBit_shiftLeft]
  ·rw [ih h]; rfl

theorem mask_apart {l m : List Nat} (h : maskOf l &&& maskOf m = 0) : ∀ t, t ∈ l → t ∈ m → False := by
 intro t h1 h2
 have : (maskOf l &&& maskOf m).testBit t = true := by rw [Nat.testBit_and, maskOf_spec h1, maskOf_spec h2]; rfl
 rw [h] at this
 simp at this

structure Rec where
 us : List Nat
 rd : List Nat
 wE : List (Nat × G)
 wH : List (Nat × Option Blk)
 mv : List Nat
 pre : Nat

def preOf (pres : List Nat) : List Edge → Nat
 | [] => 0
 | e :: es => if Region.binds .any e then preOf pres es ||| (1 <<< e.on) ||| (pres.getD e.on 0) else preOf pres es

theorem preOf_spec {pres : List Nat} {k : Nat} : {es : List Edge} → (preOf pres es).testBit k = true → ∃ e ∈ es, Region.binds .any e = true ∧ (k = e.on ∨ (pres.getD e.on 0).testBit k = true)
 | [], h => by simp [preOf] at h
 | e :: es, h => by
  rw [preOf] at h
  split at h
  ·rename_i hb
   rw [Nat.testBit_or, Nat.testBit_or, Bool.or_eq_true, Bool.or_eq_true] at h
   rcases h with (h | h) | h
   ·obtain ⟨e', h1, h2, h3⟩ := preOf_spec h; exact ⟨e', by simp [h1], h2, h3⟩
   ·refine ⟨e, by simp, hb, .inl ?_⟩
    rw [Nat.one_shiftLeft, Nat.testBit_two_pow] at h
    exact (of_decide_eq_true h).symm
   ·exact ⟨e, by simp, hb, .inr h⟩
  ·obtain ⟨e', h1, h2, h3⟩ := preOf_spec h; exact ⟨e', by simp [h1], h2, h3⟩

def RecOK (cx : Cx) (M : List Nat) (n : Nat) (ops : Array Oper) (o : Oper) (E : Nat → G) (H : Heap) (r : Rec) : Prop :=
 ∀ (μ : Map) (a : Act) (w : World) (E' : Nat → G) (H' : Heap) (K : Act → World → Prop) (Q : Exit → Act → World → Prop), SR cx n E' H' μ a w → (∀ t, t ∈ r.us ∨ t ∈ keys r.wE → E' t = E t) → (∀ m, m ∈ r.rd ∨ m ∈ keys r.wH → H' m = H m) →
  (∀ t, t ∉ keys r.wE → ∀ m ∈ (E' t).men, m ∉ r.mv) → (∀ t b, t ∉ keys r.wH → H' t = some b → ∀ m ∈ b.men, m ∉ r.mv) →
  (∀ μ' a' w', SR cx n (up r.wE E') (up r.wH H') μ' a' w' → Ev μ H' w μ' (up r.wH H') w' → (∀ m, m ∉ M → μ' m = μ m) → K a' w') →
  if Region.wanted o (yielded ops a.tmps) then o.wpIn cx.F 0 cx.P a w K Q else (∀ f, o.about cx.P w a.eval = some f → cx.F.fn f) ∧ K (a.put o.dst undef) w

end Go.Gh
