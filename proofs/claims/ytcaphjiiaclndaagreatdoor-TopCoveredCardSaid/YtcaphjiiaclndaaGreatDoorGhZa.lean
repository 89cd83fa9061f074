/- A block that holds no data may be counted among the owned ones, and be changed. -/
import Derived.Test.YtcaphjiiaclndaaGreatDoorGhZ
import Derived.RangeFuncLeaves
namespace Go.Gh
set_option linter.unusedVariables false
set_option linter.unusedSimpArgs false

section
variable {μ : Map} {w : World} {own own2 : Nat → Prop}

def Grows (w : World) (own own2 : Nat → Prop) : Prop := ∀ (b o : Nat) v, w.cell? ⟨b, o, none⟩ = some v → ¬ own b → ¬ own2 b

theorem RepSl.grow {α : Type} (hg : Grows w own own2) {el el' : α → List Value → Prop} {size : Nat} {xs : List α} {a : Option Addr} {cap : Nat}
  (hel : ∀ x vs, el x vs → el' x vs) (hsz : 0 < size) (hr : RepSl w own el size xs a cap) : RepSl w own2 el' size xs a cap := by
 obtain ⟨h1, h0, h2⟩ := hr
 refine ⟨h1, h0, fun ad had i x hx => ?_⟩
 obtain ⟨hs, hn, vs, hl, he, hc⟩ := h2 ad had i x hx
 have : ∃ v, vs[0]? = some v := by rw [List.getElem?_eq_getElem (by omega)]; exact ⟨_, rfl⟩
 obtain ⟨v, hv⟩ := this
 exact ⟨hs, hg _ _ _ (hc 0 v hv) hn, vs, hl, hel _ _ he, hc⟩

theorem RepPt.grow {α : Type} (hg : Grows w own own2) {el el' : α → List Value → Prop} {size : Nat} {o : Option α} {a : Option Addr}
  (hel : ∀ x vs, el x vs → el' x vs) (hsz : 0 < size) (hr : RepPt w own el size o a) : RepPt w own2 el' size o a := by
 rcases hr with hr | ⟨x, ad, vs, rfl, rfl, hs, hn, hl, he, hc⟩
 ·exact .inl hr
 ·obtain ⟨v, hv⟩ : ∃ v, vs[0]? = some v := by rw [List.getElem?_eq_getElem (by omega)]; exact ⟨_, rfl⟩
  exact .inr ⟨x, ad, vs, rfl, rfl, hs, hg _ _ _ (hc 0 v hv) hn, hl, hel _ _ he, hc⟩

theorem Rep.grow (hg : Grows w own own2) : {t : Ty} → t.ok → {x : t.den} → {cs : List Value} → Rep w own t x cs → Rep w own2 t x cs
 | .int _, _, _, _, hr | .bool, _, _, _, hr | .str, _, _, _, hr | .unit, _, _, _, hr => hr
 | .list t, ho, _, _, hr => by
  obtain ⟨a, cap, rfl, hs⟩ := hr
  exact ⟨a, cap, rfl, hs.grow hg (fun x vs hx => Rep.grow hg ho.2 hx) ho.1⟩
 | .opt t, ho, _, _, hr => by
  obtain ⟨a, rfl, hs⟩ := hr
  exact ⟨a, rfl, hs.grow hg (fun x vs hx => Rep.grow hg ho.2 hx) ho.1⟩
 | .pair a b, ho, _, _, hr => by
  obtain ⟨c1, c2, rfl, h1, h2⟩ := hr
  exact ⟨c1, c2, rfl, Rep.grow hg ho.1 h1, Rep.grow hg ho.2 h2⟩

theorem RepAll.grow (hg : Grows w own own2) {t : Ty} (ho : t.ok) : {xs : List t.den} → {cs : List Value} → RepAll w own t xs cs → RepAll w own2 t xs cs
 | [], _, hr => hr
 | _ :: xs, _, hr => by
  obtain ⟨c1, c2, rfl, h1, h2⟩ := hr
  exact ⟨c1, c2, rfl, h1.grow hg ho, RepAll.grow hg ho h2⟩

theorem VA.grow (hg : Grows w own own2) : {g : GA} → {v : Value} → VA μ w own g v → VA μ w own2 g v
 | .undef, _, _ => trivial
 | .unit0, _, h | .int .., _, h | .bool _, _, h | .str _, _, h | .nils, _, h | .nilp, _, h | .fn _, _, h | .nilf, _, h | .nilm, _, h
 | .sl .., _, h | .ptr .., _, h | .ptg .., _, h | .vw .., _, h | .mp _, _, h | .yl _, _, h => h
 | .lst t xs clip, _, hv => by
  obtain ⟨a, cap, rfl, ⟨ho, hs⟩, hc⟩ := hv
  exact ⟨a, cap, rfl, ⟨ho, hs.grow hg (fun x vs hx => hx.grow hg ho.2) ho.1⟩, hc⟩
 | .olst t o, _, hv => by
  rcases hv with hv | ⟨xs, ad, cap, rfl, rfl, ho, hs⟩
  ·exact .inl hv
  ·exact .inr ⟨xs, ad, cap, rfl, rfl, ho, hs.grow hg (fun x vs hx => hx.grow hg ho.2) ho.1⟩
 | .ipt t x, _, hv => by
  obtain ⟨ho, ad, vs, rfl, hs, hr, hc⟩ := hv
  exact ⟨ho, ad, vs, rfl, hs, hr.grow hg ho, fun j u hu => ⟨hg _ _ _ (hc j u hu).2 (hc j u hu).1, (hc j u hu).2⟩⟩
 | .ipa t x, _, hv => by
  obtain ⟨ho, ad, vs, rfl, hs, hr, hc⟩ := hv
  exact ⟨ho, ad, vs, rfl, hs, hr.grow hg ho, fun j u hu => ⟨hg _ _ _ (hc j u hu).2 (hc j u hu).1, (hc j u hu).2⟩⟩
 | .app1 g c, _, hv => by
  obtain ⟨fn, first, caps, cv, rfl, h1, h2⟩ := hv
  exact ⟨fn, first, caps, cv, rfl, VA.grow hg h1, VA.grow hg h2⟩
 | .app2 g c, _, hv => by
  obtain ⟨fn, first, caps, cv, rfl, h1, h2⟩ := hv
  exact ⟨fn, first, caps, cv, rfl, VA.grow hg h1, VA.grow hg h2⟩

theorem VS.grow (hg : Grows w own own2) : {ss : List Slot} → {cs : List Value} → VS μ w own ss cs → VS μ w own2 ss cs
 | [], _, h => h
 | .cell a :: ss, _, h => by
  obtain ⟨v, cs', rfl, h1, h2, h3⟩ := h
  exact ⟨v, cs', rfl, h1, h2.grow hg, VS.grow hg h3⟩
 | .arr t n xs :: ss, _, h => by
  obtain ⟨ho, hl, c1, cs', rfl, h2, h3⟩ := h
  exact ⟨ho, hl, c1, cs', rfl, h2.grow hg ho, VS.grow hg h3⟩

theorem VR.grow (hg : Grows w own own2) {g : GR} {v : Value} (h : VR μ w own g v) : VR μ w own2 g v := by
 cases g with
 | «at» a => exact VA.grow hg h
 | agg ss => obtain ⟨cs, rfl, hs⟩ := h; exact ⟨cs, rfl, hs.grow hg⟩

theorem VL.grow (hg : Grows w own own2) : {gs : List GR} → {vs : List Value} → VL μ w own gs vs → VL μ w own2 gs vs
 | [], _, h => h
 | g :: gs, _, h => by
  obtain ⟨v, vs', rfl, h1, h2⟩ := h
  exact ⟨v, vs', rfl, h1.grow hg, VL.grow hg h2⟩

theorem VG.grow (hg : Grows w own own2) {g : G} {v : Value} (h : VG μ w own g v) : VG μ w own2 g v := by
 cases g with
 | r g => exact VR.grow hg h
 | tup gs => obtain ⟨vs, rfl, hs⟩ := h; exact ⟨vs, rfl, hs.grow hg⟩

theorem EntsRel.grow (hg : Grows w own own2) {kt vt : Ty} (hk : kt.ok) (hv : vt.ok) : {xs : List (kt.den × vt.den)} → {es : List MapEntry} → EntsRel w own kt vt xs es → EntsRel w own2 kt vt xs es
 | [], _, h => h
 | _ :: xs, _, h => by
  obtain ⟨e, es', kv, vv, rfl, h1, h2, h3, h4, h5⟩ := h
  exact ⟨e, es', kv, vv, rfl, h1, h2, h3.grow hg hk, h4.grow hg hv, EntsRel.grow hg hk hv h5⟩

theorem BRel.grow (hg : Grows w own own2) {n : Nat} {b : Blk} (h : BRel μ w own n b) : BRel μ w own2 n b := by
 cases b with
 | var ss => obtain ⟨l, c, e, h1, h2, h3⟩ := h; exact ⟨l, c, e, h1, h2, h3.grow hg⟩
 | gr t e xs mv =>
  obtain ⟨ho, h⟩ := h
  refine ⟨ho, ?_⟩
  rcases h with h | ⟨l, c, h1, h2, h3, h4, h5, h6, h7⟩
  ·exact .inl h
  ·exact .inr ⟨l, c, h1, h2, h3, h4, h5, h6, h7.grow hg ho.2⟩
 | mpb k v es =>
  obtain ⟨l, ents, clock, h1, h2, h3, h4, h5⟩ := h
  exact ⟨l, ents, clock, h1, h2, h3, h4, h5.grow hg h3 h4⟩
 | itb s p => exact h
 | lpb R =>
  obtain ⟨l, tmps, h1, h2, h3, h4⟩ := h
  exact ⟨l, tmps, h1, h2, h3, fun t => (h4 t).grow hg⟩
end

theorem put_ext {own : Nat → Prop} {w : World} {D : Nat} {o o' : Obj} (hD : w.heap[D]? = some o) (ho : ∀ c t f, o ≠ .cells c t f) :
  Grows w own (fun b => own b ∨ b = D) ∧ Ext (fun b => own b ∨ b = D) w own (w.putObj D o') := by
 refine ⟨fun b off v hc hn h => ?_, by simp, fun b hb hn => World.putObj_heap_other fun e => hn (.inr e), fun b hb hn h => hn (.inl h), rfl, rfl, rfl⟩
 rcases h with h | h
 ·exact hn h
 ·unfold World.cell? at hc
  rw [show (⟨b, off, none⟩ : Addr).block = D from h, hD] at hc
  cases o <;> simp_all

theorem HRel.put {E : Nat → G} {H : Heap} {μ : Map} {a : Act} {w : World} (h : HRel μ w H) (he : ∀ t, VG μ w (ownOf μ H) (E t) (a.eval (.tmp t))) {D : Nat} {o o' : Obj} (hD : w.heap[D]? = some o) (ho : ∀ c t f, o ≠ .cells c t f) (hn : ¬ ownOf μ H D) :
  HRel μ (w.putObj D o') H ∧ (∀ t, VG μ (w.putObj D o') (ownOf μ H) (E t) (a.eval (.tmp t))) := by
 obtain ⟨hg, hx⟩ := put_ext (own := ownOf μ H) (o' := o') hD ho
 refine ⟨⟨fun n b hb => ?_, h.inj, h.dis, fun b hb => by simpa using h.xlt b hb⟩, fun t => ((he t).grow hg).ext (μ := μ) hx fun _ _ => rfl⟩
 refine ((h.blk n b hb).grow hg).ext (μ := μ) hx rfl (fun _ _ => rfl) fun l hl => World.putObj_heap_other fun e => hn (.inr ⟨n, l, by rw [hb]; simp, hl, e⟩)

def Map.at (μ : Map) (B : Nat) : Map := ⟨μ.f, μ.X, B⟩

theorem HRel.at {μ : Map} {w : World} {H : Heap} (B : Nat) (h : HRel μ w H) : HRel (μ.at B) w H :=
 ⟨fun n b hb => (h.blk n b hb).ext (μ := μ) (μ' := μ.at B) (own' := ownOf (μ.at B) H) .refl rfl (fun _ _ => rfl) fun _ _ => rfl, h.inj, h.dis, h.xlt⟩
theorem VG.at {μ : Map} {w : World} {own : Nat → Prop} (B : Nat) {g : G} {v : Value} (h : VG μ w own g v) : VG (μ.at B) w own g v := VG.ext (μ := μ) (μ' := μ.at B) .refl (fun _ _ => rfl) h
theorem VGs.at {μ : Map} {w : World} {own : Nat → Prop} (B : Nat) : {gs : List G} → {vs : List Value} → VGs μ w own gs vs → VGs (μ.at B) w own gs vs
 | [], _, h => h
 | g :: gs, _, h => by
  obtain ⟨v, vs', rfl, h1, h2⟩ := h
  exact ⟨v, vs', rfl, h1.at B, VGs.at B h2⟩

end Go.Gh
