/- Names are given up; a fresh list is frozen. -/
import Derived.Test.YtcaphjiiaclndaaGreatDoorGhJ
namespace Go.Gh
set_option linter.unusedVariables false
set_option linter.unusedSimpArgs false

section
variable {μ : Map} {w : World} {H H' : Heap}

theorem ownOf_drop (h : ∀ n, H' n ≠ none → H n ≠ none) (b : Nat) : ¬ ownOf μ H b → ¬ ownOf μ H' b := by
 rintro h1 (h2 | ⟨n, l, h2, h3, h4⟩)
 ·exact h1 (.inl h2)
 ·exact h1 (.inr ⟨n, l, h n h2, h3, h4⟩)

theorem Ev.drop (h : ∀ n, H' n ≠ none → H n ≠ none) : Ev μ H w μ H' w :=
 ⟨⟨Nat.le_refl _, fun _ _ _ => rfl, fun b _ => ownOf_drop h b, rfl, rfl, rfl⟩, rfl, rfl, fun _ _ => rfl⟩

theorem HRel.weaken (hH : HRel μ w H) (h : ∀ n, H' n ≠ none → H n ≠ none) (hb : ∀ n b', H' n = some b' → ∀ b, H n = some b → BRel μ w (ownOf μ H) n b → BRel μ w (ownOf μ H') n b') : HRel μ w H' := by
 refine ⟨fun n b' hn => ?_, fun n m ln lm hn hm => hH.inj n m ln lm (h n hn) (h m hm), fun n l hn => hH.dis n l (h n hn), hH.xlt⟩
 cases h0 : H n with
 | none => exact absurd h0 (h n (by simp [hn]))
 | some b => exact hb n b' hn b h0 (hH.blk n b h0)

end


def Turns (μ : Map) (w : World) (own own' : Nat → Prop) (φ : GA → GA × List Prop) : Prop := ∀ g v, AllP (φ g).2 → VA μ w own g v → VA μ w own' (φ g).1 v

def frz (n : Nat) (τ : Ty) (xs : List τ.den) : GA → GA × List Prop
 | .sl m off len => if m = n then (.lst τ ((List.take (off + len) xs).drop off) false, [off + len ≤ List.length xs]) else (.sl m off len, [])
 | g => (g, [])

theorem frz_turns {μ : Map} {w : World} {H H' : Heap} (hH : HRel μ w H) {n : Nat} {τ : Ty} {e : TypeId} {xs : List τ.den} {mv : Bool} (hn : H n = some (.gr τ e xs mv)) (hd : ∀ m, H' m ≠ none → H m ≠ none ∧ m ≠ n) : Turns μ w (ownOf μ H) (ownOf μ H') (frz n τ xs) := by
 have ext : Ext (ownOf μ H) w (ownOf μ H') w := (Ev.drop fun m hm => (hd m hm).1).ext
 have free : ∀ l, μ n = some l → ¬ ownOf μ H' l.blk := by
  rintro l hl (h | ⟨m, l', h1, h2, h3⟩)
  ·exact hH.dis n l (by simp [hn]) hl h
  ·exact (hd m h1).2 (hH.inj m n l' l (hd m h1).1 (by simp [hn]) h2 hl h3)
 intro g v hc hv
 unfold frz at hc ⊢
 split
 ·rename_i m off len
  by_cases hm : m = n
  ·subst hm
   simp only [if_true] at hc ⊢
   have hle : off + len ≤ List.length xs := hc.1
   have hlen : ((List.take (off + len) xs).drop off).length = len := by simp; omega
   obtain ⟨⟨hp, hok⟩, hb⟩ := hH.blk m _ hn
   rcases hv with ⟨h0, rfl, rfl, b, rfl⟩ | ⟨lc, of, hl, hcap, rfl, hof⟩
   ·refine ⟨b, 0, by rw [hlen], ⟨⟨hp, hok⟩, by rw [hlen]; exact Nat.le_refl _, by simp, fun ad had i x hx => ?_⟩, by simp⟩
    rw [List.getElem?_eq_none (by rw [hlen]; exact Nat.zero_le _)] at hx; cases hx
   ·rcases hb with ⟨h0, _⟩ | ⟨l', c', hl', hls, hb, hcs, hxl, hcm, hrep⟩
    ·rw [hl] at h0; cases h0
    ·rw [hl] at hl'; cases hl'
     refine ⟨_, _, by rw [hlen], ⟨⟨hp, hok⟩, by rw [hlen]; omega, by simp, fun ad had => ?_⟩, by simp⟩
     cases had
     refine fun i x hx => ⟨rfl, free lc hl, ?_⟩
     have hx' : xs[off + i]? = some x := by
      rw [List.getElem?_drop, List.getElem?_take] at hx
      split at hx
      ·exact hx
      ·cases hx
     have hi : i < len := by
      rcases Nat.lt_or_ge i len with h | h
      ·exact h
      ·rw [List.getElem?_eq_none (by rw [hlen]; exact h)] at hx; cases hx
     obtain ⟨vs, k1, k2, k3⟩ := hrep.get (off + i) x hx'
     refine ⟨vs, k1, k2.ext ext hok, fun j u hu => cell_of_blk hb ?_⟩
     have := k3 j u hu
     rw [List.getElem?_take] at this
     split at this
     ·rw [List.getElem?_drop, Nat.add_mul] at this
      rw [hof (.inl (by omega)), hls]
      simpa only [Nat.add_assoc] using this
     ·cases this
  ·simp only [hm, if_false]
   exact VA.ext (μ := μ) (g := .sl m off len) ext (fun _ _ => rfl) hv
 ·exact VA.ext (μ := μ) ext (fun _ _ => rfl) hv


def frzV (n : Nat) (τ : Ty) (x : τ.den) : GA → GA × List Prop
 | .ptr m base idx => if m = n then (.ipt τ x, [base + idx = 0]) else (.ptr m base idx, [])
 | g => (g, [])

theorem frzV_turns {μ : Map} {w : World} {H H' : Heap} (hH : HRel μ w H) {n : Nat} {τ : Ty} {ss : List Slot} {x : τ.den} (hn : H n = some (.var ss)) (hx : toDenS τ ss = some (x, [])) (hok : τ.ok) (hd : ∀ m, H' m ≠ none → H m ≠ none ∧ m ≠ n) : Turns μ w (ownOf μ H) (ownOf μ H') (frzV n τ x) := by
 have ext : Ext (ownOf μ H) w (ownOf μ H') w := (Ev.drop fun m hm => (hd m hm).1).ext
 have free : ∀ l, μ n = some l → ¬ ownOf μ H' l.blk := by
  rintro l hl (h | ⟨m, l', h1, h2, h3⟩)
  ·exact hH.dis n l (by simp [hn]) hl h
  ·exact (hd m h1).2 (hH.inj m n l' l (hd m h1).1 (by simp [hn]) h2 hl h3)
 intro g v hc hv
 unfold frzV at hc ⊢
 split
 ·rename_i m base idx
  by_cases hm : m = n
  ·subst hm
   simp only [if_true] at hc ⊢
   have h0 : base + idx = 0 := hc.1
   obtain ⟨l', c, e, hl', hb, hvs⟩ := hH.blk m _ hn
   obtain ⟨l, hl, rfl⟩ := hv
   rw [hl] at hl'; cases hl'
   obtain ⟨c1, c2, hcc, hr, hnil⟩ := toDenS_rel hx hvs
   simp only [VS] at hnil; subst hnil
   rw [List.append_nil] at hcc
   refine ⟨hok, ⟨l'.blk, base + idx, none⟩, c1, rfl, rfl, hr.ext ext hok, fun j u hu => ⟨free l' hl, cell_of_blk hb ?_⟩⟩
   rw [h0, Nat.zero_add, hcc]; exact hu
  ·simp only [hm, if_false]
   exact VA.ext (μ := μ) (g := .ptr m base idx) ext (fun _ _ => rfl) hv
 ·exact VA.ext (μ := μ) ext (fun _ _ => rfl) hv

def frzW (n : Nat) (τ : Ty) (xs : List τ.den) : GA → GA × List Prop
 | .vw m base off len => if m = n then (.lst τ xs false, [base + off = 0 ∧ len = List.length xs]) else (.vw m base off len, [])
 | g => (g, [])

theorem frzW_turns {μ : Map} {w : World} {H H' : Heap} (hH : HRel μ w H) {n k : Nat} {τ : Ty} {ss : List Slot} {xs : List τ.den} (hn : H n = some (.var ss)) (hx : takeDen τ k ss = some (xs, [])) (hok : 0 < τ.size ∧ τ.ok) (hd : ∀ m, H' m ≠ none → H m ≠ none ∧ m ≠ n) : Turns μ w (ownOf μ H) (ownOf μ H') (frzW n τ xs) := by
 have ext : Ext (ownOf μ H) w (ownOf μ H') w := (Ev.drop fun m hm => (hd m hm).1).ext
 have free : ∀ l, μ n = some l → ¬ ownOf μ H' l.blk := by
  rintro l hl (h | ⟨m, l', h1, h2, h3⟩)
  ·exact hH.dis n l (by simp [hn]) hl h
  ·exact (hd m h1).2 (hH.inj m n l' l (hd m h1).1 (by simp [hn]) h2 hl h3)
 intro g v hc hv
 unfold frzW at hc ⊢
 split
 ·rename_i m base off len
  by_cases hm : m = n
  ·subst hm
   simp only [if_true] at hc ⊢
   obtain ⟨⟨h0, h1⟩, _⟩ := hc
   obtain ⟨l', c, e, hl', hb, hvs⟩ := hH.blk m _ hn
   obtain ⟨l, o, cp, hl, rfl, hle, hof⟩ := hv
   rw [hl] at hl'; cases hl'
   obtain ⟨_, c1, c2, hcc, hr, hnil⟩ := takeDen_rel hx hvs
   simp only [VS] at hnil; subst hnil
   rw [List.append_nil] at hcc
   refine ⟨_, cp, by rw [h1], ⟨hok, by omega, by simp, fun ad had => ?_⟩, by simp⟩
   cases had
   intro i x hx
   have hi : i < xs.length := by
    rcases Nat.lt_or_ge i xs.length with h | h
    ·exact h
    ·rw [List.getElem?_eq_none h] at hx; cases hx
   obtain ⟨vs, k1, k2, k3⟩ := hr.get i x hx
   refine ⟨rfl, free _ hl, vs, k1, k2.ext ext hok.2, fun j u hu => cell_of_blk hb ?_⟩
   rw [hof (by omega), h0, Nat.zero_add, hcc]
   exact k3 j u hu
  ·simp only [hm, if_false]
   exact VA.ext (μ := μ) (g := .vw m base off len) ext (fun _ _ => rfl) hv
 ·exact VA.ext (μ := μ) ext (fun _ _ => rfl) hv

def gFz : Option (OR × List En) → Option (OR × List En)
 | some ({ val := .r (.at (.sl n 0 len)), rd := rd, wr := [(n', some (.gr τ e xs _))], mv := [n''], cs := cs }, es) =>
  if n' = n ∧ n'' = n then some ({ val := .a (.lst τ xs false), rd := rd, wr := [(n, none)], mv := [n], cs := cs ++ [len = List.length xs] }, es) else none
 | _ => none

theorem gFz_spec {r : Option (OR × List En)} {R' : OR} {es' : List En} (h : gFz r = some (R', es')) :
  ∃ n len rd τ e xs b cs, r = some ({ val := .a (.sl n 0 len), rd := rd, wr := [(n, some (.gr τ e xs b))], mv := [n], cs := cs }, es') ∧ R' = { val := .a (.lst τ xs false), rd := rd, wr := [(n, none)], mv := [n], cs := cs ++ [len = List.length xs] } := by
 unfold gFz at h
 split at h
 ·split at h
  ·rename_i hc
   obtain ⟨rfl, rfl⟩ := hc
   simp only [Option.some.injEq, Prod.mk.injEq] at h; obtain ⟨rfl, rfl⟩ := h
   exact ⟨_, _, _, _, _, _, _, _, rfl, rfl⟩
  ·cases h
 ·cases h

section
variable {P : Program} {o : Oper} {a : Act} {μ : Map} {w : World} {H : Heap}

theorem OpOK.frozen {n : Nat} {τ : Ty} {e : TypeId} {xs : List τ.den} {b : Bool} {len : Nat} {rd rd' : List (Nat × Blk)} {cs cs' : List Prop} (hlen : len = List.length xs)
  (h : OpOK P o a μ w H { val := .a (.sl n 0 len), rd := rd, wr := [(n, some (.gr τ e xs b))], mv := [n], cs := cs }) :
  OpOK P o a μ w H { val := .a (.lst τ xs false), rd := rd', wr := [(n, none)], mv := [n], cs := cs' } := by
 obtain ⟨v, w', μ', he, hμ, hH', hev, hv⟩ := h
 have e1 : ∀ k, after [n] [(n, (none : Option Blk))] H k = if n = k then none else after [n] [(n, some (.gr τ e xs b))] H k := by
  intro k
  by_cases h : n = k <;> simp [after, h]
 have hn : after [n] [(n, some (.gr τ e xs b))] H n = some (.gr τ e xs b) := by simp [after]
 have hd : ∀ k, after [n] [(n, (none : Option Blk))] H k ≠ none → after [n] [(n, some (.gr τ e xs b))] H k ≠ none ∧ k ≠ n := by
  intro k hk
  rw [e1] at hk
  split at hk
  ·exact absurd rfl hk
  ·rename_i hnk
   exact ⟨hk, fun h => hnk h.symm⟩
 have ev : Ev μ' (after [n] [(n, some (.gr τ e xs b))] H) w' μ' (after [n] [(n, (none : Option Blk))] H) w' := Ev.drop fun k hk => (hd k hk).1
 refine ⟨v, w', μ', he, hμ, hH'.weaken (fun k hk => (hd k hk).1) fun k b' hb' b hb hbr => ?_, hev.trans ev, ?_⟩
 ·rw [e1] at hb'
  split at hb'
  ·cases hb'
  ·rw [hb] at hb'; cases hb'
   exact BRel.ext (μ := μ') ev.ext rfl (fun _ _ => rfl) (fun _ _ => rfl) hbr
 ·have t := frz_turns hH' hn hd (.sl n 0 len) v
  simp only [frz, if_true] at t
  have := t ⟨by omega, trivial⟩ hv
  rw [hlen] at this
  show VA μ' w' _ (.lst τ xs false) v
  simpa using this
end
end Go.Gh
