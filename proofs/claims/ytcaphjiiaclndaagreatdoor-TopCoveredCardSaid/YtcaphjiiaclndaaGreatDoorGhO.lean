/- Calls: a callee sees some of the caller's blocks, and whatever it is lent. -/
import Derived.Test.YtcaphjiiaclndaaGreatDoorGhNc
import Derived.CallsIn

namespace Go.Gh
set_option linter.unusedVariables false
set_option linter.unusedSimpArgs false

structure Cx where
 P : Program
 T : Tbl
 gl : Nat → GA
 F : Fence := Fence.wide

def Cx.atRound (cx : Cx) (l : Nat) : Cx := { cx with F := Fence.wide.inRound l }

structure CxOK (cx : Cx) : Prop where
 tok : TOK cx.P cx.T
 mix : cx.P.follows .mixedOrders = true
 gl : ∀ g, (cx.gl g).men = []
 fen : cx.F = Fence.wide ∨ ∃ l, cx.F = Fence.wide.inRound l

def mapOf (K : List (Nat × Blk)) : Heap := fun n => (K.find? (·.1 == n)).map (·.2)

def VGs (μ : Map) (w : World) (own : Nat → Prop) : List G → List Value → Prop
 | [], vs => vs = []
 | g :: gs, vs => ∃ v vs', vs = v :: vs' ∧ VG μ w own g v ∧ VGs μ w own gs vs'

def Glob (cx : Cx) (μ : Map) (w : World) (H : Heap) : Prop := ∀ g, VA μ w (ownOf μ H) (cx.gl g) (.pointer (some ⟨g, 0, none⟩))

def Enters (P : Program) (f : FuncId) : Prop := ∃ fn c, P.funcs[f]? = some fn ∧ (fn.name == "runtime.NumGoroutine") = false ∧ fn.body = some c

theorem CxOK.fn {cx : Cx} (h : CxOK cx) (f : FuncId) : cx.F.fn f := by
 rcases h.fen with h | ⟨l, h⟩ <;> rw [h] <;> trivial
theorem CxOK.dep {cx : Cx} (h : CxOK cx) : cx.F.depth = none := by
 rcases h.fen with h | ⟨l, h⟩ <;> rw [h] <;> rfl
theorem CxOK.calls {cx : Cx} (h : CxOK cx) {f : FuncId} {args : Array Value} {w : World} {R : Ending → World → Prop} (hc : Calls cx.P f args w R) : CallsIn cx.F 0 cx.P f args w R := by
 rcases h.fen with h | ⟨l, h⟩ <;> rw [h]
 ·exact callsIn_wide.2 hc
 ·exact (show CallsIn Fence.wide 0 cx.P f args w R from callsIn_wide.2 hc)
theorem CxOK.round {cx : Cx} (h : CxOK cx) {l : Nat} {f : FuncId} {tmps : Array Value} {assign body : Code} {w : World} {R : Ending → World → Prop} (hc : RoundIn Fence.wide 0 cx.P l f tmps assign body w R) : RoundIn cx.F 0 cx.P l f tmps assign body w R := by
 rcases h.fen with h | ⟨l, h⟩ <;> rw [h]
 ·exact hc
 ·exact hc
theorem CxOK.atRound {cx : Cx} (h : CxOK cx) (l : Nat) : CxOK (cx.atRound l) := ⟨h.tok, h.mix, h.gl, .inr ⟨l, rfl⟩⟩

def CallOK (cx : Cx) (f : FuncId) (args : List G) (K : List (Nat × Blk)) (mvd : List Nat) (v : G) (K' : List (Nat × Blk)) : Prop :=
 Enters cx.P f ∧ ∀ (μ : Map) (w : World) (cargs : List Value), HRel μ w (mapOf K) → VGs μ w (ownOf μ (mapOf K)) args cargs → Glob cx μ w (mapOf K) →
  Calls cx.P f cargs.toArray w fun e w' => ∃ cv μ', e = .returned cv ∧ HRel μ' w' (mapOf K') ∧ VG μ' w' (ownOf μ' (mapOf K')) v cv ∧ Ev μ (mapOf K) w μ' (mapOf K') w' ∧
   ∀ n, mapOf K n ≠ none → n ∉ mvd → μ' n = μ n

def YOK (cx : Cx) (R : LpRec) (gs : List G) (K : List (Nat × Blk)) (mvd : List Nat) (K' : List (Nat × Blk)) : Prop :=
 gs.length = R.ps.size ∧ ∀ (μ : Map) (w : World) (tmps : Array Value) (cargs : List Value) (l : Nat) (fn : FuncId) (df : Nat),
  w.heap[l]? = some (.loop { state := .ready, pending := none, fn, tmps, params := R.ps, assign := R.asg, body := R.body, defers := df }) → μ.X l → HRel μ w (mapOf K) → VGs μ w (ownOf μ (mapOf K)) gs cargs →
  (∀ t, VG μ w (ownOf μ (mapOf K)) (envOf R.env t) (tmps.getD t undef)) → tmps.size = R.nt → Glob cx μ w (mapOf K) →
  RoundIn Fence.wide 0 cx.P l fn ((R.ps.zip cargs.toArray).foldl (fun t (p, v) => t.setIfInBounds p v) tmps) R.asg R.body w fun e w' => ∃ μ', e = .returned (.bool true) ∧ HRel μ' w' (mapOf K') ∧ Ev μ (mapOf K) w μ' (mapOf K') w' ∧
   ∀ n, mapOf K n ≠ none → n ∉ mvd → μ' n = μ n


def Ty.prim : Ty → Bool
 | .list _ | .opt _ => false
 | .pair a b => a.prim && b.prim
 | _ => true

def GA.bare : GA → Bool
 | .lst .. | .olst .. | .ipt .. | .ipa .. => false
 | .app1 g c | .app2 g c => g.bare && c.bare
 | _ => true

def Slot.bare : Slot → Bool
 | .cell a => a.bare
 | .arr t _ _ => t.prim

def GR.bare : GR → Bool
 | .at a => a.bare
 | .agg ss => ss.all Slot.bare

def G.bare : G → Bool
 | .r g => g.bare
 | .tup gs => gs.all GR.bare

def Blk.bare : Blk → Bool
 | .var ss => ss.all Slot.bare
 | .gr t _ _ _ => t.prim
 | .mpb k v _ => k.prim && v.prim
 | .itb _ _ => true
 | .lpb _ => false

section
variable {μ : Map} {w : World} {own own' : Nat → Prop}

theorem Rep.bare : {t : Ty} → t.prim = true → {x : t.den} → {cs : List Value} → Rep w own t x cs → Rep w own' t x cs
 | .int _, _, _, _, h | .bool, _, _, _, h | .str, _, _, _, h | .unit, _, _, _, h => h
 | .list _, h, _, _, _ | .opt _, h, _, _, _ => by simp [Ty.prim] at h
 | .pair a b, h, _, _, hr => by
  simp [Ty.prim] at h
  obtain ⟨c1, c2, rfl, h1, h2⟩ := hr
  exact ⟨c1, c2, rfl, Rep.bare h.1 h1, Rep.bare h.2 h2⟩

theorem RepAll.bare {t : Ty} (ht : t.prim = true) : {xs : List t.den} → {cs : List Value} → RepAll w own t xs cs → RepAll w own' t xs cs
 | [], _, h => h
 | _ :: xs, _, h => by
  obtain ⟨c1, c2, rfl, h1, h2⟩ := h
  exact ⟨c1, c2, rfl, h1.bare ht, RepAll.bare ht h2⟩

theorem VA.bare : {g : GA} → {v : Value} → g.bare = true → VA μ w own g v → VA μ w own' g v
 | .undef, _, _, h | .unit0, _, _, h | .int .., _, _, h | .bool _, _, _, h | .str _, _, _, h | .nils, _, _, h | .nilp, _, _, h | .fn _, _, _, h | .nilf, _, _, h | .nilm, _, _, h
 | .sl .., _, _, h | .ptr .., _, _, h | .ptg .., _, _, h | .vw .., _, _, h | .mp _, _, _, h | .yl _, _, _, h => h
 | .lst .., _, hb, _ | .olst .., _, hb, _ | .ipt .., _, hb, _ | .ipa .., _, hb, _ => by simp [GA.bare] at hb
 | .app1 g c, _, hb, h => by
  simp [GA.bare] at hb
  obtain ⟨fn, first, caps, cv, rfl, h1, h2⟩ := h
  exact ⟨fn, first, caps, cv, rfl, VA.bare hb.1 h1, VA.bare hb.2 h2⟩
 | .app2 g c, _, hb, h => by
  simp [GA.bare] at hb
  obtain ⟨fn, first, caps, cv, rfl, h1, h2⟩ := h
  exact ⟨fn, first, caps, cv, rfl, VA.bare hb.1 h1, VA.bare hb.2 h2⟩

theorem VS.bare : {ss : List Slot} → {cs : List Value} → ss.all Slot.bare = true → VS μ w own ss cs → VS μ w own' ss cs
 | [], _, _, h => h
 | .cell a :: ss, _, hb, h => by
  simp only [List.all_cons, Bool.and_eq_true] at hb
  obtain ⟨v, cs', rfl, h1, h2, h3⟩ := h
  exact ⟨v, cs', rfl, h1, h2.bare hb.1, VS.bare hb.2 h3⟩
 | .arr t n xs :: ss, _, hb, h => by
  simp only [List.all_cons, Bool.and_eq_true] at hb
  obtain ⟨h0, h1, c1, cs', rfl, h2, h3⟩ := h
  exact ⟨h0, h1, c1, cs', rfl, h2.bare hb.1, VS.bare hb.2 h3⟩

theorem VR.bare {g : GR} {v : Value} (hb : g.bare = true) (h : VR μ w own g v) : VR μ w own' g v := by
 cases g with
 | «at» a => exact VA.bare hb h
 | agg ss => obtain ⟨cs, rfl, hs⟩ := h; exact ⟨cs, rfl, hs.bare hb⟩

theorem VL.bare : {gs : List GR} → {vs : List Value} → gs.all GR.bare = true → VL μ w own gs vs → VL μ w own' gs vs
 | [], _, _, h => h
 | g :: gs, _, hb, h => by
  simp only [List.all_cons, Bool.and_eq_true] at hb
  obtain ⟨v, vs', rfl, h1, h2⟩ := h
  exact ⟨v, vs', rfl, h1.bare hb.1, VL.bare hb.2 h2⟩

theorem VG.bare {g : G} {v : Value} (hb : g.bare = true) (h : VG μ w own g v) : VG μ w own' g v := by
 cases g with
 | r g => exact VR.bare hb h
 | tup gs => obtain ⟨vs, rfl, hs⟩ := h; exact ⟨vs, rfl, hs.bare hb⟩

theorem EntsRel.bare {kt vt : Ty} (hk : kt.prim = true) (hv : vt.prim = true) : {xs : List (kt.den × vt.den)} → {es : List MapEntry} → EntsRel w own kt vt xs es → EntsRel w own' kt vt xs es
 | [], _, h => h
 | _ :: xs, _, h => by
  obtain ⟨e, es', kv, vv, rfl, h1, h2, h3, h4, h5⟩ := h
  exact ⟨e, es', kv, vv, rfl, h1, h2, h3.bare hk, h4.bare hv, EntsRel.bare hk hv h5⟩

theorem BRel.bare {n : Nat} {b : Blk} (hb : b.bare = true) (h : BRel μ w own n b) : BRel μ w own' n b := by
 cases b with
 | var ss => obtain ⟨l, c, e, h1, h2, h3⟩ := h; exact ⟨l, c, e, h1, h2, h3.bare hb⟩
 | gr t e xs mv =>
  obtain ⟨ho, h⟩ := h
  refine ⟨ho, ?_⟩
  rcases h with h | ⟨l, c, h1, h2, h3, h4, h5, h6, h7⟩
  ·exact .inl h
  ·exact .inr ⟨l, c, h1, h2, h3, h4, h5, h6, h7.bare hb⟩
 | mpb k v es =>
  simp [Blk.bare] at hb
  obtain ⟨l, ents, clock, h1, h2, h3, h4, h5⟩ := h
  exact ⟨l, ents, clock, h1, h2, h3, h4, h5.bare hb.1 hb.2⟩
 | itb s p => exact h
 | lpb R => simp [Blk.bare] at hb
end

def sideX (μ : Map) (H : Heap) (ns L : List Nat) (b : Nat) : Prop := μ.X b ∨ ∃ n l, H n ≠ none ∧ n ∉ ns ∧ n ∉ L ∧ μ n = some l ∧ l.blk = b

theorem HRel.enter {μ : Map} {w : World} {H HK : Heap} (hH : HRel μ w H) (ns L : List Nat) (hK : ∀ n, HK n = if n ∈ ns then H n else none) :
  HRel ⟨μ.f, sideX μ H ns L, μ.B⟩ w HK ∧ (∀ b, ownOf ⟨μ.f, sideX μ H ns L, μ.B⟩ HK b → ownOf μ H b) ∧ Ext (ownOf μ H) w (ownOf ⟨μ.f, sideX μ H ns L, μ.B⟩ HK) w := by
 have dom : ∀ n, HK n ≠ none → n ∈ ns ∧ H n ≠ none := by
  intro n hn
  rw [hK] at hn
  by_cases h : n ∈ ns
  ·rw [if_pos h] at hn; exact ⟨h, hn⟩
  ·rw [if_neg h] at hn; exact absurd rfl hn
 have sub : ∀ b, ownOf ⟨μ.f, sideX μ H ns L, μ.B⟩ HK b → ownOf μ H b := by
  rintro b ((h | ⟨n, l, h1, _, _, h4, h5⟩) | ⟨n, l, h1, h2, h3⟩)
  ·exact .inl h
  ·exact .inr ⟨n, l, h1, h4, h5⟩
  ·exact .inr ⟨n, l, (dom n h1).2, h2, h3⟩
 have ext : Ext (ownOf μ H) w (ownOf ⟨μ.f, sideX μ H ns L, μ.B⟩ HK) w := ⟨Nat.le_refl _, fun _ _ _ => rfl, fun b _ h h' => h (sub b h'), rfl, rfl, rfl⟩
 refine ⟨⟨fun n b hn => ?_, fun n m ln lm h1 h2 h3 h4 h5 => hH.inj n m ln lm (dom n h1).2 (dom m h2).2 h3 h4 h5, fun n l h1 h2 => ?_, fun b hb => ?_⟩, sub, ext⟩
 ·have h1 := dom n (by simp [hn])
  rw [hK, if_pos h1.1] at hn
  exact BRel.ext (μ := μ) (μ' := ⟨μ.f, sideX μ H ns L, μ.B⟩) ext rfl (fun _ _ => rfl) (fun _ _ => rfl) (hH.blk n b hn)
 ·rintro (hx | ⟨m, l', g1, g2, _, g4, g5⟩)
  ·exact hH.dis n l (dom n h1).2 h2 hx
  ·have := hH.inj m n l' l g1 (dom n h1).2 g4 h2 g5
   exact g2 (this ▸ (dom n h1).1)
 ·rcases hb with hx | ⟨n, l, g1, _, _, g4, g5⟩
  ·exact hH.xlt b hx
  ·cases hb' : H n with
   | none => exact absurd hb' g1
   | some b' => have := (hH.blk n b' hb').lt l g4; omega

theorem HRel.leave {μ μc' : Map} {w w' : World} {H HK HK' : Heap} (hH : HRel μ w H) (ns L mv : List Nat) (hK : ∀ n, HK n = if n ∈ ns then H n else none)
  (hc : HRel μc' w' HK') (he : Ev ⟨μ.f, sideX μ H ns L, μ.B⟩ HK w μc' HK' w') (hmv : ∀ n, HK' n ≠ none → n ∉ mv → μc' n = μ n) (hnew : ∀ n, HK' n ≠ none → n ∉ ns → n ∈ mv)
  (hL : ∀ n ∈ L, n ∉ ns) (hwf : ∀ n b, HK' n = some b → ∀ m ∈ b.men, HK' m ≠ none) (hbare : L ≠ [] → ∀ n b, HK' n = some b → b.bare = true)
  {H' : Heap} (hH' : ∀ n, H' n = if n ∈ ns ∨ HK' n ≠ none then HK' n else (H n).map (·.scrub mv)) (hmv' : ∀ n ∈ mv, HK' n ≠ none)
  {μ' : Map} (hμ' : ∀ n, (HK' n ≠ none → μ' n = μc' n) ∧ (HK' n = none → μ' n = μ n)) (hX : μ'.X = μ.X) (hB : μ'.B = μ.B) :
  HRel μ' w' H' ∧ Ev μ H w μ' H' w' ∧ (∀ n, n ∉ mv → μ' n = μ n) ∧ (L = [] → ∀ b, ownOf μ' H' b → ownOf μc' HK' b) := by
 obtain ⟨_, sub, _⟩ := hH.enter ns L hK
 have domK : ∀ n, HK n ≠ none → n ∈ ns ∧ H n ≠ none := by
  intro n hn
  rw [hK] at hn
  by_cases h : n ∈ ns
  ·rw [if_pos h] at hn; exact ⟨h, hn⟩
  ·rw [if_neg h] at hn; exact absurd rfl hn
 have dom : ∀ n, H' n ≠ none → HK' n ≠ none ∨ (HK' n = none ∧ n ∉ ns ∧ H n ≠ none) := by
  intro n hn
  by_cases h : HK' n ≠ none
  ·exact .inl h
  ·have h0 : HK' n = none := by simpa using h
   rw [hH'] at hn
   by_cases h2 : n ∈ ns
   ·rw [if_pos (.inl h2)] at hn; exact absurd h0 hn
   ·rw [if_neg (by simp [h2, h0])] at hn
    exact .inr ⟨h0, h2, by intro e; rw [e] at hn; exact hn rfl⟩
 have lt : ∀ m l, H m ≠ none → μ m = some l → l.blk < w.heap.size := by
  intro m l hm hl
  cases hb' : H m with
  | none => exact absurd hb' hm
  | some b' => exact (hH.blk m b' hb').lt l hl
 -- a block of the caller's that the callee did not have is as it was, and is not the callee's now
 have side : ∀ m l, H m ≠ none → m ∉ ns → μ m = some l → w'.heap[l.blk]? = w.heap[l.blk]? ∧ ∀ n l', HK' n ≠ none → μc' n = some l' → l'.blk ≠ l.blk := by
  intro m l h1 h2 h3
  by_cases hmL : m ∈ L
  ·have hno : ¬ ownOf ⟨μ.f, sideX μ H ns L, μ.B⟩ HK l.blk := by
    rintro ((hx | ⟨n, l', g1, g2, g3, g4, g5⟩) | ⟨n, l', g1, g2, g3⟩)
    ·exact hH.dis m l h1 h3 hx
    ·have := hH.inj n m l' l g1 h1 g4 h3 g5
     exact g3 (this ▸ hmL)
    ·have := hH.inj n m l' l (domK n g1).2 h1 g2 h3 g3
     exact h2 (this ▸ (domK n g1).1)
   refine ⟨he.ext.keep _ (lt m l h1 h3) hno, fun n l' g1 g2 e => he.ext.nown _ (lt m l h1 h3) hno (.inr ⟨n, l', g1, g2, e⟩)⟩
  ·have hx : sideX μ H ns L l.blk := .inr ⟨m, l, h1, h2, hmL, h3, rfl⟩
   refine ⟨he.keepX _ hx, fun n l' g1 g2 e => hc.dis n l' g1 g2 ?_⟩
   rw [he.X, e]; exact hx
 have μoff : ∀ n, n ∉ mv → μ' n = μ n := by
  intro n hn
  by_cases h : HK' n ≠ none
  ·exact ((hμ' n).1 h).trans (hmv n h hn)
  ·exact (hμ' n).2 (by simpa using h)
 have ext : Ext (ownOf μ H) w (ownOf μ' H') w' := by
  refine ⟨he.ext.size, fun b hb hn => he.ext.keep b hb fun h => hn (sub b h), fun b hb hn => ?_, he.ext.out, he.ext.os, he.ext.tape⟩
  rintro (hx | ⟨n, l, h1, h2, h3⟩)
  ·exact hn (.inl (by rwa [hX] at hx))
  ·rcases dom n h1 with g | ⟨g1, g2, g3⟩
   ·rw [(hμ' n).1 g] at h2
    exact he.ext.nown b hb (fun h => hn (sub b h)) (.inr ⟨n, l, g, h2, h3⟩)
   ·rw [(hμ' n).2 g1] at h2
    exact hn (.inr ⟨n, l, g3, h2, h3⟩)
 have subL : L = [] → ∀ b, ownOf μ' H' b → ownOf μc' HK' b := by
  intro hLe b
  rintro (hx | ⟨n, l, h1, h2, h3⟩)
  ·left; rw [he.X]; left; rwa [hX] at hx
  ·rcases dom n h1 with g | ⟨g1, g2, g3⟩
   ·rw [(hμ' n).1 g] at h2
    exact .inr ⟨n, l, g, h2, h3⟩
   ·rw [(hμ' n).2 g1] at h2
    left; rw [he.X]
    exact .inr ⟨n, l, g3, g2, by simp [hLe], h2, h3⟩
 refine ⟨⟨fun n b hn => ?_, fun n m ln lm h1 h2 h3 h4 h5 => ?_, fun n l h1 h2 => ?_, fun b hb => ?_⟩, ⟨ext, hX, hB, fun b hb => he.keepX b (.inl hb)⟩, μoff, subL⟩
 ·rcases dom n (by simp [hn]) with g | ⟨g1, g2, g3⟩
  ·have hn' : HK' n = some b := by rw [hH', if_pos (.inr g)] at hn; exact hn
   have hb := hc.blk n b hn'
   have hmu : ∀ m ∈ b.men, μ' m = μc' m := fun m hm => (hμ' m).1 (hwf n b hn' m hm)
   by_cases hLe : L = []
   ·have e2 : Ext (ownOf μc' HK') w' (ownOf μ' H') w' := ⟨Nat.le_refl _, fun _ _ _ => rfl, fun b _ h h' => h (subL hLe b h'), rfl, rfl, rfl⟩
    exact hb.ext e2 ((hμ' n).1 g) hmu (fun _ _ => rfl)
   ·have hb2 : BRel μc' w' (ownOf μ' H') n b := hb.bare (hbare hLe n b hn')
    exact hb2.ext (own' := ownOf μ' H') .refl ((hμ' n).1 g) hmu (fun _ _ => rfl)
  ·rw [hH', if_neg (by simp [g1, g2])] at hn
   cases hb' : H n with
   | none => exact absurd hb' g3
   | some b0 =>
    rw [hb'] at hn
    simp only [Option.map_some, Option.some.injEq] at hn
    subst hn
    refine (hH.blk n b0 hb').scrub ext μoff (fun h => hmv' n h g1) fun l hl => (side n l g3 g2 hl).1
 ·rcases dom n h1 with g | ⟨g1, g2, g3⟩
  ·rw [(hμ' n).1 g] at h3
   rcases dom m h2 with k | ⟨k1, k2, k3⟩
   ·rw [(hμ' m).1 k] at h4
    exact hc.inj n m ln lm g k h3 h4 h5
   ·rw [(hμ' m).2 k1] at h4
    exact absurd h5 ((side m lm k3 k2 h4).2 n ln g h3)
  ·rw [(hμ' n).2 g1] at h3
   rcases dom m h2 with k | ⟨k1, k2, k3⟩
   ·rw [(hμ' m).1 k] at h4
    exact absurd h5.symm ((side n ln g3 g2 h3).2 m lm k h4)
   ·rw [(hμ' m).2 k1] at h4
    exact hH.inj n m ln lm g3 k3 h3 h4 h5
 ·rw [hX]
  rcases dom n h1 with g | ⟨g1, g2, g3⟩
  ·rw [(hμ' n).1 g] at h2
   intro hx
   exact hc.dis n l g h2 (by rw [he.X]; exact .inl hx)
  ·rw [(hμ' n).2 g1] at h2
   exact hH.dis n l g3 h2
 ·rw [hX] at hb; exact Nat.lt_of_lt_of_le (hH.xlt b hb) he.ext.size

end Go.Gh
