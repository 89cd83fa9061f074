/- Coercions. -/
import Derived.Test.YtcaphjiiaclndaaGreatDoorGhY
namespace Go.Gh
set_option linter.unusedVariables false
set_option linter.unusedSimpArgs false

def promA (n : Nat) : GA → Option GA
 | .nils => some (.sl n 0 0)
 | .lst _ [] true => some (.sl n 0 0)
 | _ => none

def promSlots (n : Nat) : Nat → List Slot → Option (List Slot)
 | 0, .cell g :: ss => (match promA n g with | some g' => some (.cell g' :: ss) | none => none)
 | j + 1, s :: ss => (match promSlots n j ss with | some ss' => some (s :: ss') | none => none)
 | _, _ => none

def promG (n : Nat) (j : Option Nat) : G → Option G
 | .r (.at g) => (match j, promA n g with | none, some g' => some (.r (.at g')) | _, _ => none)
 | .r (.agg ss) => (match j with
  | some j => (match promSlots n j ss with | some ss' => some (.r (.agg ss')) | none => none)
  | none => none)
 | _ => none

def promOK (t : Ty) : Bool := t.okB && Nat.blt 0 t.size

def gCo (M : List Nat) (s : GS) : Co → Option (GS × List Prop)
 | .live is => some (⟨is.map fun i => (i, envOf s.env i), s.hp⟩, [])
 | .keep ns => some (⟨s.env, subK (mapOf s.hp) ns⟩, [])
 | .cast i c => (match coG c none (envOf s.env i) with | some (g, cs) => some (⟨setE s.env (some i) g, s.hp⟩, cs) | none => none)
 | .castAt i j c => (match coG c (some j) (envOf s.env i) with | some (g, cs) => some (⟨setE s.env (some i) g, s.hp⟩, cs) | none => none)
 | .castB n j c => (match mapOf s.hp n with
  | some (.var ss) => (match coSlots c j ss with | some (ss', cs) => some (⟨s.env, putH n (some (.var ss')) s.hp⟩, cs) | none => none)
  | _ => none)
 | .freeze n => (match mapOf s.hp n with
  | some (.gr τ _ xs _) => some (⟨(mapEnv (frz n τ xs) s.env).1, (mapHp (frz n τ xs) (putH n none s.hp)).1⟩, (mapEnv (frz n τ xs) s.env).2 ++ (mapHp (frz n τ xs) (putH n none s.hp)).2)
  | _ => none)
 | .freezeV n τ => (match mapOf s.hp n with
  | some (.var ss) => (match toDenS τ ss with
   | some (x, []) => if τ.okB then some (⟨(mapEnv (frzV n τ x) s.env).1, (mapHp (frzV n τ x) (putH n none s.hp)).1⟩, (mapEnv (frzV n τ x) s.env).2 ++ (mapHp (frzV n τ x) (putH n none s.hp)).2) else none
   | _ => none)
  | _ => none)
 | .freezeW n τ k => (match mapOf s.hp n with
  | some (.var ss) => (match takeDen τ k ss with
   | some (xs, []) => if promOK τ then some (⟨(mapEnv (frzW n τ xs) s.env).1, (mapHp (frzW n τ xs) (putH n none s.hp)).1⟩, (mapEnv (frzW n τ xs) s.env).2 ++ (mapHp (frzW n τ xs) (putH n none s.hp)).2) else none
   | _ => none)
  | _ => none)
 | .prom i n t e => (match promG n none ((envOf s.env i).scrub [n]) with
  | some g => if promOK t && M.contains n then some (⟨setE (scrubE [n] s.env) (some i) g, wrsH [(n, some (.gr t e [] true))] (scrubH [n] s.hp)⟩, []) else none
  | none => none)
 | .promAt i j n t e => (match promG n (some j) ((envOf s.env i).scrub [n]) with
  | some g => if promOK t && M.contains n then some (⟨setE (scrubE [n] s.env) (some i) g, wrsH [(n, some (.gr t e [] true))] (scrubH [n] s.hp)⟩, []) else none
  | none => none)
 | .promB m j n t e => (match mapOf (scrubH [n] s.hp) m with
  | some (.var ss) => (match promSlots n j ss with
   | some ss' => if promOK t && M.contains n && !Nat.beq m n then some (⟨scrubE [n] s.env, putH m (some (.var ss')) (wrsH [(n, some (.gr t e [] true))] (scrubH [n] s.hp))⟩, []) else none
   | none => none)
  | _ => none)
 | _ => none

section
variable {μ : Map} {w : World} {own : Nat → Prop} {n : Nat}

theorem promA_rel {g g' : GA} {v : Value} (h0 : μ n = none) (h : promA n g = some g') (hv : VA μ w own g v) : VA μ w own g' v := by
 unfold promA at h
 split at h
 ·simp only [Option.some.injEq] at h; subst h
  exact .inl ⟨h0, rfl, rfl, none, hv⟩
 ·simp only [Option.some.injEq] at h; subst h
  obtain ⟨a, cap, rfl, _, hcl⟩ := hv
  have := hcl rfl
  exact .inl ⟨h0, rfl, rfl, a, by rw [this]; rfl⟩
 ·cases h

theorem promSlots_rel (h0 : μ n = none) : {j : Nat} → {ss ss' : List Slot} → {vs : List Value} → promSlots n j ss = some ss' → VS μ w own ss vs → VS μ w own ss' vs
 | 0, .cell g :: ss, ss', vs, h, hv => by
  simp only [promSlots] at h
  split at h
  ·rename_i g' hg
   simp only [Option.some.injEq] at h; subst h
   obtain ⟨v, vs', rfl, h1, h2, h3⟩ := hv
   exact ⟨v, vs', rfl, h1, promA_rel h0 hg h2, h3⟩
  ·cases h
 | 0, .arr .. :: _, _, _, h, _ => by simp [promSlots] at h
 | 0, [], _, _, h, _ => by simp [promSlots] at h
 | _ + 1, [], _, _, h, _ => by simp [promSlots] at h
 | j + 1, s :: ss, ss', vs, h, hv => by
  simp only [promSlots] at h
  split at h
  ·rename_i ss1 h1
   simp only [Option.some.injEq] at h; subst h
   cases s with
   | cell g =>
    obtain ⟨v, vs', rfl, k1, k2, k3⟩ := hv
    exact ⟨v, vs', rfl, k1, k2, promSlots_rel h0 h1 k3⟩
   | arr t n xs =>
    obtain ⟨k0, k1, c1, vs', rfl, k2, k3⟩ := hv
    exact ⟨k0, k1, c1, vs', rfl, k2, promSlots_rel h0 h1 k3⟩
  ·cases h

theorem promG_rel {j : Option Nat} {g g' : G} {v : Value} (h0 : μ n = none) (h : promG n j g = some g') (hv : VG μ w own g v) : VG μ w own g' v := by
 unfold promG at h
 split at h
 ·split at h
  ·rename_i h1
   simp only [Option.some.injEq] at h; subst h
   exact promA_rel h0 h1 hv
  ·cases h
 ·split at h
  ·split at h
   ·rename_i h1
    simp only [Option.some.injEq] at h; subst h
    obtain ⟨vs, rfl, hs⟩ := hv
    exact ⟨vs, rfl, promSlots_rel h0 h1 hs⟩
   ·cases h
  ·cases h
 ·cases h
end

theorem promOK_spec {t : Ty} (h : promOK t = true) : 0 < t.size ∧ t.ok := by
 simp only [promOK, Bool.and_eq_true] at h
 have : 0 + 1 ≤ t.size := by simpa [Nat.blt] using h.2
 exact ⟨this, Ty.ok_of_okB h.1⟩

theorem SR.setE {cx : Cx} {n : Nat} {s : GS} {μ : Map} {a : Act} {w : World} (h : SRL cx n s μ a w) {i : Nat} {g : G} (hg : VG μ w (ownOf μ (mapOf s.hp)) g (a.eval (.tmp i))) : SRL cx n ⟨Gh.setE s.env (some i) g, s.hp⟩ μ a w := by
 refine ⟨h.heap, fun t => ?_, h.defers, h.size, h.glob⟩
 show VG μ w _ (envOf (Gh.setE s.env (some i) g) t) _
 rw [envOf_setE]
 by_cases ht : some i = some t
 ·rw [if_pos ht]; cases ht; exact hg
 ·rw [if_neg ht]; exact h.env t

theorem SR.unplaced {cx : Cx} (hcx : CxOK cx) {n : Nat} {s : GS} {μ : Map} {a : Act} {w : World} (h : SRL cx n s μ a w) (m : Nat) {t : Ty} (e : TypeId) (ht : promOK t = true) :
  SRL cx n ⟨scrubE [m] s.env, wrsH [(m, some (.gr t e [] true))] (scrubH [m] s.hp)⟩ (upd μ m none) a w ∧ Ev μ (mapOf s.hp) w (upd μ m none) (mapOf (wrsH [(m, some (.gr t e [] true))] (scrubH [m] s.hp))) w := by
 obtain ⟨h1, h2⟩ := promOK_spec ht
 obtain ⟨g1, g2⟩ := h.heap.unplaced m t e h1 h2
 rw [← mapOf_after] at g1 g2
 refine ⟨⟨g1, fun i => ?_, h.defers.ext g2, h.size, fun g => VA.ext g2.ext (by rw [hcx.gl]; simp) (h.glob g)⟩, g2⟩
 show VG _ w _ (envOf (scrubE [m] s.env) i) _
 rw [envOf_scrubE]
 exact VG.scrub g2.ext (fun k hk => upd_other _ _ _ (by simpa using hk)) (h.env i)

theorem gCo_ok {cx : Cx} (hcx : CxOK cx) {M : List Nat} {n : Nat} {s s' : GS} {c : Co} {cs : List Prop} (h : gCo M s c = some (s', cs)) (hc : AllP cs) {μ : Map} {a : Act} {w : World} (hs : SRL cx n s μ a w) :
  ∃ μ', SRL cx n s' μ' a w ∧ Ev μ (mapOf s.hp) w μ' (mapOf s'.hp) w ∧ ∀ m, m ∉ M → μ' m = μ m := by
 cases c with
 | live is =>
  simp only [gCo, Option.some.injEq, Prod.mk.injEq] at h; obtain ⟨rfl, rfl⟩ := h
  refine ⟨μ, ⟨hs.heap, fun t => ?_, hs.defers, hs.size, hs.glob⟩, .refl, fun _ _ => rfl⟩
  show VG μ w _ (envOf (is.map fun i => (i, envOf s.env i)) t) _
  induction is with
  | nil => exact trivial
  | cons i is ih =>
   rw [List.map_cons, envOf_cons]
   by_cases h : i = t
   ·simp only [h, if_true]; exact hs.env t
   ·simp only [h, if_false]; exact ih
 | keep ns =>
  simp only [gCo, Option.some.injEq, Prod.mk.injEq] at h; obtain ⟨rfl, rfl⟩ := h
  have hm : ∀ m, mapOf (subK (mapOf s.hp) ns) m = if m ∈ ns then mapOf s.hp m else none := mapOf_subK _ _
  have hd : ∀ m, mapOf (subK (mapOf s.hp) ns) m ≠ none → mapOf s.hp m ≠ none := by
   intro m h; rw [hm] at h
   split at h
   ·exact h
   ·exact absurd rfl h
  have ev : Ev μ (mapOf s.hp) w μ (mapOf (subK (mapOf s.hp) ns)) w := Ev.drop hd
  refine ⟨μ, ⟨hs.heap.weaken hd fun m b' hb' b hb hbr => ?_, fun t => VG.ext (μ := μ) ev.ext (fun _ _ => rfl) (hs.env t), hs.defers.ext ev, hs.size, fun g => VA.ext (μ := μ) ev.ext (fun _ _ => rfl) (hs.glob g)⟩, ev, fun _ _ => rfl⟩
  change mapOf (subK (mapOf s.hp) ns) m = some b' at hb'
  rw [hm] at hb'
  split at hb'
  ·rw [hb] at hb'; cases hb'
   exact BRel.ext (μ := μ) ev.ext rfl (fun _ _ => rfl) (fun _ _ => rfl) hbr
  ·cases hb'
 | cast i c =>
  simp only [gCo] at h
  split at h
  ·rename_i g cs' hg
   simp only [Option.some.injEq, Prod.mk.injEq] at h; obtain ⟨rfl, rfl⟩ := h
   exact ⟨μ, hs.setE (coG_rel hg hc (hs.env i)), .refl, fun _ _ => rfl⟩
  ·cases h
 | castAt i j c =>
  simp only [gCo] at h
  split at h
  ·rename_i g cs' hg
   simp only [Option.some.injEq, Prod.mk.injEq] at h; obtain ⟨rfl, rfl⟩ := h
   exact ⟨μ, hs.setE (coG_rel hg hc (hs.env i)), .refl, fun _ _ => rfl⟩
  ·cases h
 | castB m j c =>
  simp only [gCo] at h
  split at h
  ·rename_i ss hm
   split at h
   ·rename_i ss' cs' hss
    simp only [Option.some.injEq, Prod.mk.injEq] at h; obtain ⟨rfl, rfl⟩ := h
    have e : ∀ k, mapOf (putH m (some (.var ss')) s.hp) k = if m = k then some (.var ss') else mapOf s.hp k := mapOf_putH _ _ _
    have hd : ∀ k, mapOf (putH m (some (.var ss')) s.hp) k ≠ none → mapOf s.hp k ≠ none := by
     intro k hk; rw [e] at hk
     split at hk
     ·rename_i h; subst h; rw [hm]; simp
     ·exact hk
    have ev : Ev μ (mapOf s.hp) w μ (mapOf (putH m (some (.var ss')) s.hp)) w := Ev.drop hd
    refine ⟨μ, ⟨hs.heap.weaken hd fun k b' hb' b hb hbr => ?_, fun t => VG.ext (μ := μ) ev.ext (fun _ _ => rfl) (hs.env t), hs.defers.ext ev, hs.size, fun g => VA.ext (μ := μ) ev.ext (fun _ _ => rfl) (hs.glob g)⟩, ev, fun _ _ => rfl⟩
    change mapOf (putH m (some (.var ss')) s.hp) k = some b' at hb'
    rw [e] at hb'
    have hbr' := BRel.ext (μ := μ) ev.ext rfl (fun _ _ => rfl) (fun _ _ => rfl) hbr
    split at hb'
    ·rename_i h; subst h
     rw [hm] at hb; cases hb; cases hb'
     obtain ⟨l, c, e, h1, h2, h3⟩ := hbr'
     exact ⟨l, c, e, h1, h2, coSlots_rel hss hc h3⟩
    ·rw [hb] at hb'; cases hb'; exact hbr'
   ·cases h
  ·cases h
 | freeze m =>
  simp only [gCo] at h
  split at h
  ·rename_i τ e xs mv hm
   simp only [Option.some.injEq, Prod.mk.injEq] at h; obtain ⟨rfl, rfl⟩ := h
   obtain ⟨hc1, hc2⟩ := AllP.append hc
   have e : ∀ k, mapOf (putH m none s.hp) k = if m = k then none else mapOf s.hp k := mapOf_putH _ _ _
   have hsub : ∀ k b, mapOf (putH m none s.hp) k = some b → mapOf s.hp k = some b := by
    intro k b hb; rw [e] at hb
    split at hb
    ·cases hb
    ·exact hb
   refine ⟨μ, ?_⟩
   have := SR.map hcx hs rfl hsub hc1 hc2 (frz_turns hs.heap hm fun k hk => ?_)
   ·exact ⟨this.1, this.2, fun _ _ => rfl⟩
   ·cases hb : mapOf (mapHp (frz m τ xs) (putH m none s.hp)).1 k with
    | none => exact absurd hb hk
    | some b' =>
     obtain ⟨b, h1, _⟩ := mapHp_spec hc2 k b' hb
     refine ⟨by rw [hsub k b h1]; simp, fun hkm => ?_⟩
     rw [e, if_pos hkm.symm] at h1; cases h1
  ·cases h
 | freezeV m τ =>
  simp only [gCo] at h
  split at h
  ·rename_i ss hm
   split at h
   ·rename_i x hx
    split at h
    ·rename_i hok
     simp only [Option.some.injEq, Prod.mk.injEq] at h; obtain ⟨rfl, rfl⟩ := h
     obtain ⟨hc1, hc2⟩ := AllP.append hc
     have e : ∀ k, mapOf (putH m none s.hp) k = if m = k then none else mapOf s.hp k := mapOf_putH _ _ _
     have hsub : ∀ k b, mapOf (putH m none s.hp) k = some b → mapOf s.hp k = some b := by
      intro k b hb; rw [e] at hb
      split at hb
      ·cases hb
      ·exact hb
     refine ⟨μ, ?_⟩
     have := SR.map hcx hs rfl hsub hc1 hc2 (frzV_turns hs.heap hm hx (Ty.ok_of_okB hok) fun k hk => ?_)
     ·exact ⟨this.1, this.2, fun _ _ => rfl⟩
     ·cases hb : mapOf (mapHp (frzV m τ x) (putH m none s.hp)).1 k with
      | none => exact absurd hb hk
      | some b' =>
       obtain ⟨b, h1, _⟩ := mapHp_spec hc2 k b' hb
       refine ⟨by rw [hsub k b h1]; simp, fun hkm => ?_⟩
       rw [e, if_pos hkm.symm] at h1; cases h1
    ·cases h
   ·cases h
  ·cases h
 | freezeW m τ k0 =>
  simp only [gCo] at h
  split at h
  ·rename_i ss hm
   split at h
   ·rename_i x hx
    split at h
    ·rename_i hok
     simp only [Option.some.injEq, Prod.mk.injEq] at h; obtain ⟨rfl, rfl⟩ := h
     obtain ⟨hc1, hc2⟩ := AllP.append hc
     have e : ∀ k, mapOf (putH m none s.hp) k = if m = k then none else mapOf s.hp k := mapOf_putH _ _ _
     have hsub : ∀ k b, mapOf (putH m none s.hp) k = some b → mapOf s.hp k = some b := by
      intro k b hb; rw [e] at hb
      split at hb
      ·cases hb
      ·exact hb
     refine ⟨μ, ?_⟩
     have := SR.map hcx hs rfl hsub hc1 hc2 (frzW_turns hs.heap hm hx (promOK_spec hok) fun k hk => ?_)
     ·exact ⟨this.1, this.2, fun _ _ => rfl⟩
     ·cases hb : mapOf (mapHp (frzW m τ x) (putH m none s.hp)).1 k with
      | none => exact absurd hb hk
      | some b' =>
       obtain ⟨b, h1, _⟩ := mapHp_spec hc2 k b' hb
       refine ⟨by rw [hsub k b h1]; simp, fun hkm => ?_⟩
       rw [e, if_pos hkm.symm] at h1; cases h1
    ·cases h
   ·cases h
  ·cases h
 | prom i m t e =>
  simp only [gCo] at h
  split at h
  ·rename_i g hg
   split at h
   ·rename_i hcond
    simp only [Option.some.injEq, Prod.mk.injEq] at h; obtain ⟨rfl, rfl⟩ := h
    simp only [Bool.and_eq_true] at hcond
    obtain ⟨g1, g2⟩ := hs.unplaced hcx m e hcond.1
    refine ⟨upd μ m none, SR.setE g1 (promG_rel (upd_same ..) hg ?_), g2, fun k hk => upd_other _ _ _ (fun h => hk (by subst h; simpa using hcond.2))⟩
    have := g1.env i
    rw [envOf_scrubE] at this
    exact this
   ·cases h
  ·cases h
 | promAt i j m t e =>
  simp only [gCo] at h
  split at h
  ·rename_i g hg
   split at h
   ·rename_i hcond
    simp only [Option.some.injEq, Prod.mk.injEq] at h; obtain ⟨rfl, rfl⟩ := h
    simp only [Bool.and_eq_true] at hcond
    obtain ⟨g1, g2⟩ := hs.unplaced hcx m e hcond.1
    refine ⟨upd μ m none, SR.setE g1 (promG_rel (upd_same ..) hg ?_), g2, fun k hk => upd_other _ _ _ (fun h => hk (by subst h; simpa using hcond.2))⟩
    have := g1.env i
    rw [envOf_scrubE] at this
    exact this
   ·cases h
  ·cases h
 | promB k j m t e =>
  simp only [gCo] at h
  split at h
  ·rename_i ss hk
   split at h
   ·rename_i ss' hss
    split at h
    ·rename_i hcond
     simp only [Option.some.injEq, Prod.mk.injEq] at h; obtain ⟨rfl, rfl⟩ := h
     simp only [Bool.and_eq_true] at hcond
     obtain ⟨⟨hcond, hM⟩, hkm⟩ := hcond
     have hkm : k ≠ m := by intro h; subst h; simp [Nat.beq_refl] at hkm
     obtain ⟨g1, g2⟩ := hs.unplaced hcx m e hcond
     let hp1 := wrsH [(m, some (.gr t e [] true))] (scrubH [m] s.hp)
     have hk1 : mapOf hp1 k = some (.var ss) := by
      show mapOf (putH m _ (wrsH [] (scrubH [m] s.hp))) k = _
      rw [mapOf_putH, if_neg (Ne.symm hkm)]; exact hk
     have ee : ∀ q, mapOf (putH k (some (.var ss')) hp1) q = if k = q then some (.var ss') else mapOf hp1 q := mapOf_putH _ _ _
     have hd : ∀ q, mapOf (putH k (some (.var ss')) hp1) q ≠ none → mapOf hp1 q ≠ none := by
      intro q hq; rw [ee] at hq
      split at hq
      ·rename_i h; subst h; rw [hk1]; simp
      ·exact hq
     have ev : Ev (upd μ m none) (mapOf hp1) w (upd μ m none) (mapOf (putH k (some (.var ss')) hp1)) w := Ev.drop hd
     refine ⟨upd μ m none, ⟨g1.heap.weaken hd fun q b' hb' b hb hbr => ?_, fun t => VG.ext (μ := upd μ m none) ev.ext (fun _ _ => rfl) (g1.env t), g1.defers.ext ev, hs.size, fun g => VA.ext (μ := upd μ m none) ev.ext (fun _ _ => rfl) (g1.glob g)⟩, g2.trans ev, fun q hq => upd_other _ _ _ (fun h => hq (by subst h; simpa using hM))⟩
     change mapOf (putH k (some (.var ss')) hp1) q = some b' at hb'
     rw [ee] at hb'
     have hbr' := BRel.ext (μ := upd μ m none) ev.ext rfl (fun _ _ => rfl) (fun _ _ => rfl) hbr
     split at hb'
     ·rename_i h; subst h
      change mapOf hp1 k = some b at hb
      rw [hk1] at hb; cases hb; cases hb'
      obtain ⟨l, c, e, h1, h2, h3⟩ := hbr'
      exact ⟨l, c, e, h1, h2, promSlots_rel (upd_same ..) hss h3⟩
     ·change mapOf hp1 q = some b at hb
      rw [hb] at hb'; cases hb'; exact hbr'
    ·cases h
   ·cases h
  ·cases h
 | _ => simp [gCo] at h

end Go.Gh
