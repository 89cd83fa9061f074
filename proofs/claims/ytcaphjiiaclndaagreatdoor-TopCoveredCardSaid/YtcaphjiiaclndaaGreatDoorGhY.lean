/- Weaker forms of a state. -/
import Derived.Test.YtcaphjiiaclndaaGreatDoorGhX
namespace Go.Gh
set_option linter.unusedVariables false
set_option linter.unusedSimpArgs false

def mapSlots (φ : GA → GA × List Prop) : List Slot → List Slot × List Prop
 | [] => ([], [])
 | .cell a :: ss => (.cell (φ a).1 :: (mapSlots φ ss).1, (φ a).2 ++ (mapSlots φ ss).2)
 | s :: ss => (s :: (mapSlots φ ss).1, (mapSlots φ ss).2)
def mapGR (φ : GA → GA × List Prop) : GR → GR × List Prop
 | .at a => (.at (φ a).1, (φ a).2)
 | .agg ss => (.agg (mapSlots φ ss).1, (mapSlots φ ss).2)
def mapGRs (φ : GA → GA × List Prop) : List GR → List GR × List Prop
 | [] => ([], [])
 | g :: gs => ((mapGR φ g).1 :: (mapGRs φ gs).1, (mapGR φ g).2 ++ (mapGRs φ gs).2)
def mapG (φ : GA → GA × List Prop) : G → G × List Prop
 | .r g => (.r (mapGR φ g).1, (mapGR φ g).2)
 | .tup gs => (.tup (mapGRs φ gs).1, (mapGRs φ gs).2)
def mapBlk (φ : GA → GA × List Prop) : Blk → Blk × List Prop
 | .var ss => (.var (mapSlots φ ss).1, (mapSlots φ ss).2)
 | b => (b, [])
def mapEnv (φ : GA → GA × List Prop) : List (Nat × G) → List (Nat × G) × List Prop
 | [] => ([], [])
 | x :: env => ((x.1, (mapG φ x.2).1) :: (mapEnv φ env).1, (mapG φ x.2).2 ++ (mapEnv φ env).2)
def mapHp (φ : GA → GA × List Prop) : List (Nat × Blk) → List (Nat × Blk) × List Prop
 | [] => ([], [])
 | x :: env => ((x.1, (mapBlk φ x.2).1) :: (mapHp φ env).1, (mapBlk φ x.2).2 ++ (mapHp φ env).2)

section
variable {μ : Map} {w : World} {own own' : Nat → Prop} {φ : GA → GA × List Prop}

theorem mapSlots_rel (ext : Ext own w own' w) (hφ : Turns μ w own own' φ) : {ss : List Slot} → {vs : List Value} → AllP (mapSlots φ ss).2 → VS μ w own ss vs → VS μ w own' (mapSlots φ ss).1 vs
 | [], _, _, h => h
 | .cell a :: ss, _, hc, h => by
  obtain ⟨v, vs', rfl, h1, h2, h3⟩ := h
  obtain ⟨c1, c2⟩ := AllP.append hc
  exact ⟨v, vs', rfl, h1, hφ _ _ c1 h2, mapSlots_rel ext hφ c2 h3⟩
 | .arr t n xs :: ss, _, hc, h => by
  obtain ⟨h0, h1, c1, vs', rfl, h2, h3⟩ := h
  exact ⟨h0, h1, c1, vs', rfl, h2.ext ext h0, mapSlots_rel ext hφ hc h3⟩

theorem mapGR_rel (ext : Ext own w own' w) (hφ : Turns μ w own own' φ) {g : GR} {v : Value} (hc : AllP (mapGR φ g).2) (h : VR μ w own g v) : VR μ w own' (mapGR φ g).1 v := by
 cases g with
 | «at» a => exact hφ _ _ hc h
 | agg ss => obtain ⟨cs, rfl, h1⟩ := h; exact ⟨cs, rfl, mapSlots_rel ext hφ hc h1⟩

theorem mapGRs_rel (ext : Ext own w own' w) (hφ : Turns μ w own own' φ) : {gs : List GR} → {vs : List Value} → AllP (mapGRs φ gs).2 → VL μ w own gs vs → VL μ w own' (mapGRs φ gs).1 vs
 | [], _, _, h => h
 | g :: gs, _, hc, h => by
  obtain ⟨v, vs', rfl, h1, h2⟩ := h
  obtain ⟨c1, c2⟩ := AllP.append hc
  exact ⟨v, vs', rfl, mapGR_rel ext hφ c1 h1, mapGRs_rel ext hφ c2 h2⟩

theorem mapG_rel (ext : Ext own w own' w) (hφ : Turns μ w own own' φ) {g : G} {v : Value} (hc : AllP (mapG φ g).2) (h : VG μ w own g v) : VG μ w own' (mapG φ g).1 v := by
 cases g with
 | r g => exact mapGR_rel ext hφ hc h
 | tup gs => obtain ⟨vs, rfl, h1⟩ := h; exact ⟨vs, rfl, mapGRs_rel ext hφ hc h1⟩

theorem mapBlk_rel (ext : Ext own w own' w) (hφ : Turns μ w own own' φ) {n : Nat} {b : Blk} (hc : AllP (mapBlk φ b).2) (h : BRel μ w own n b) : BRel μ w own' n (mapBlk φ b).1 := by
 cases b with
 | var ss => obtain ⟨l, c, e, h1, h2, h3⟩ := h; exact ⟨l, c, e, h1, h2, mapSlots_rel ext hφ hc h3⟩
 | gr t e xs mv => exact BRel.ext (b := .gr t e xs mv) (μ := μ) ext rfl (fun _ _ => rfl) (fun _ _ => rfl) h
 | mpb k v es => exact BRel.ext (b := .mpb k v es) (μ := μ) ext rfl (fun _ _ => rfl) (fun _ _ => rfl) h
 | itb s p => exact h
 | lpb R => exact BRel.ext (b := .lpb R) (μ := μ) ext rfl (fun _ _ => rfl) (fun _ _ => rfl) h

theorem mapEnv_spec : {env : List (Nat × G)} → AllP (mapEnv φ env).2 → ∀ t, envOf (mapEnv φ env).1 t = .undef ∨ AllP (mapG φ (envOf env t)).2 ∧ envOf (mapEnv φ env).1 t = (mapG φ (envOf env t)).1
 | [], _, t => .inl rfl
 | x :: env, hc, t => by
  obtain ⟨c1, c2⟩ := AllP.append hc
  rw [mapEnv, envOf_cons, envOf_cons]
  by_cases h : x.1 = t
  ·simp only [h, if_true]; exact .inr ⟨c1, trivial⟩
  ·simp only [h, if_false]; exact mapEnv_spec c2 t

theorem mapHp_spec : {hp : List (Nat × Blk)} → AllP (mapHp φ hp).2 → ∀ n b', mapOf (mapHp φ hp).1 n = some b' → ∃ b, mapOf hp n = some b ∧ AllP (mapBlk φ b).2 ∧ b' = (mapBlk φ b).1
 | [], _, n, b', h => by simp [mapHp, mapOf] at h
 | x :: hp, hc, n, b', h => by
  obtain ⟨c1, c2⟩ := AllP.append hc
  rw [mapHp, mapOf_cons] at h
  rw [mapOf_cons]
  by_cases hn : x.1 = n
  ·simp only [hn, if_true, Option.some.injEq] at h ⊢; exact ⟨_, rfl, c1, h.symm⟩
  ·simp only [hn, if_false] at h ⊢; exact mapHp_spec c2 n b' h
end

theorem SR.map {cx : Cx} {n : Nat} {s s' : GS} {μ : Map} {a : Act} {w : World} {φ : GA → GA × List Prop} {hp : List (Nat × Blk)} (hcx : CxOK cx) (h : SRL cx n s μ a w) (hs' : s' = ⟨(mapEnv φ s.env).1, (mapHp φ hp).1⟩) (hsub : ∀ m b, mapOf hp m = some b → mapOf s.hp m = some b)
  (hc1 : AllP (mapEnv φ s.env).2) (hc2 : AllP (mapHp φ hp).2) (hφ : Turns μ w (ownOf μ (mapOf s.hp)) (ownOf μ (mapOf s'.hp)) φ) : SRL cx n s' μ a w ∧ Ev μ (mapOf s.hp) w μ (mapOf s'.hp) w := by
 have hd : ∀ m, mapOf s'.hp m ≠ none → mapOf s.hp m ≠ none := by
  intro m hm
  cases hb : mapOf s'.hp m with
  | none => exact absurd hb hm
  | some b' =>
   rw [hs'] at hb
   obtain ⟨b, h1, _⟩ := mapHp_spec hc2 m b' hb
   rw [hsub m b h1]; simp
 have ev : Ev μ (mapOf s.hp) w μ (mapOf s'.hp) w := Ev.drop hd
 refine ⟨⟨h.heap.weaken hd fun m b' hb' b hb hbr => ?_, fun t => ?_, h.defers.ext ev, h.size, fun g => VA.ext (μ := μ) ev.ext (fun _ _ => rfl) (h.glob g)⟩, ev⟩
 ·have hb2 := hb'
  rw [hs'] at hb2
  obtain ⟨b0, h1, h2, h3⟩ := mapHp_spec hc2 m b' hb2
  have := hsub m b0 h1
  rw [hb] at this; cases this
  rw [h3]
  exact mapBlk_rel ev.ext hφ h2 hbr
 ·have h0 := h.env t
  rcases mapEnv_spec hc1 t with h1 | ⟨h1, h2⟩
  ·rw [hs']; show VG _ _ _ (envOf (mapEnv φ s.env).1 t) _; rw [h1]; trivial
  ·have := mapG_rel ev.ext hφ h1 h0
   rw [← h2] at this
   rw [hs'] at this ⊢; exact this

end Go.Gh
