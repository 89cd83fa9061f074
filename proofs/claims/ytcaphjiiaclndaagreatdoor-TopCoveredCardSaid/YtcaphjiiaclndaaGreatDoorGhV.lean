/- The records of a region that draws. -/
import Derived.Test.YtcaphjiiaclndaaGreatDoorGhU
namespace Go.Gh
set_option linter.unusedVariables false
set_option linter.unusedSimpArgs false

theorem GA.scrub_id {mv : List Nat} {g : GA} (h : ∀ m ∈ g.men, m ∉ mv) : g.scrub mv = g := by
 unfold GA.scrub
 rw [if_neg]
 intro ha
 obtain ⟨m, h1, h2⟩ := List.any_eq_true.1 ha
 exact h m h1 (by simpa using h2)

theorem slots_scrub_id {mv : List Nat} {ss : List Slot} (h : ∀ m ∈ menSlots ss, m ∉ mv) : ss.map (Slot.scrub mv) = ss := by
 have : ∀ s ∈ ss, Slot.scrub mv s = s := by
  intro s hs
  have h' : ∀ m ∈ s.men, m ∉ mv := fun m hm => h m (List.mem_flatMap.2 ⟨s, hs, hm⟩)
  cases s with
  | cell a => exact congrArg Slot.cell (GA.scrub_id h')
  | arr => rfl
 rw [List.map_congr_left this]; simp

theorem GR.scrub_id {mv : List Nat} {g : GR} (h : ∀ m ∈ g.men, m ∉ mv) : g.scrub mv = g := by
 cases g with
 | «at» a => exact congrArg GR.at (GA.scrub_id h)
 | agg ss => exact congrArg GR.agg (slots_scrub_id h)

theorem G.scrub_id {mv : List Nat} {g : G} (h : ∀ m ∈ g.men, m ∉ mv) : g.scrub mv = g := by
 cases g with
 | r g => exact congrArg G.r (GR.scrub_id h)
 | tup gs =>
  have : ∀ s ∈ gs, GR.scrub mv s = s := fun s hs => GR.scrub_id fun m hm => h m (List.mem_flatMap.2 ⟨s, hs, hm⟩)
  exact congrArg G.tup (by rw [List.map_congr_left this]; simp)

theorem Blk.scrub_id {mv : List Nat} {g : Blk} (h : ∀ m ∈ g.men, m ∉ mv) : g.scrub mv = g := Blk.scrub_id' h

def explE (mv : List Nat) (env : List (Nat × G)) : List (Nat × G) :=
 match mv with | [] => [] | _ => env.filterMap fun x => if x.2.men.any mv.contains then some (x.1, (envOf env x.1).scrub mv) else none
def explH (mv : List Nat) (hp : List (Nat × Blk)) : List (Nat × Option Blk) :=
 match mv with | [] => [] | _ => hp.filterMap fun x => if x.2.men.any mv.contains then some (x.1, (mapOf hp x.1).map (·.scrub mv)) else none

theorem explE_spec {mv : List Nat} {env : List (Nat × G)} {t : Nat} (h : t ∈ keys (explE mv env)) (F : Nat → G) : up (explE mv env) F t = (envOf env t).scrub mv := by
 obtain ⟨g, hg, he⟩ := up_some h
 rw [he]
 unfold explE at hg
 split at hg
 ·cases hg
 ·obtain ⟨x, _, hx⟩ := List.mem_filterMap.1 hg
  split at hx
  ·simp only [Option.some.injEq, Prod.mk.injEq] at hx; obtain ⟨rfl, rfl⟩ := hx; rfl
  ·cases hx

theorem explH_spec {mv : List Nat} {hp : List (Nat × Blk)} {t : Nat} (h : t ∈ keys (explH mv hp)) (F : Heap) : up (explH mv hp) F t = (mapOf hp t).map (·.scrub mv) := by
 obtain ⟨g, hg, he⟩ := up_some h
 rw [he]
 unfold explH at hg
 split at hg
 ·cases hg
 ·obtain ⟨x, _, hx⟩ := List.mem_filterMap.1 hg
  split at hx
  ·simp only [Option.some.injEq, Prod.mk.injEq] at hx; obtain ⟨rfl, rfl⟩ := hx; rfl
  ·cases hx

theorem up_append {α : Type} (w v : List (Nat × α)) (F : Nat → α) : up (w ++ v) F = up w (up v F) := by
 funext t
 unfold up
 rw [List.find?_append]
 cases w.find? (·.1 == t) <;> rfl

theorem keys_append {α : Type} (w v : List (Nat × α)) : keys (w ++ v) = keys w ++ keys v := by simp [keys]

def dstW (d : Option Nat) (g : G) : List (Nat × G) := match d with | some d => [(d, g)] | none => []

theorem up_dstW (d : Option Nat) (g : G) (F : Nat → G) (t : Nat) : up (dstW d g) F t = if d = some t then g else F t := by
 cases d with
 | none => simp [dstW, up]
 | some d =>
  by_cases h : d = t
  ·subst h; simp [dstW, up]
  ·simp [dstW, up, h, List.find?, show (d == t) = false by simpa using h]

def gRec (cx : Cx) (M : List Nat) (n : Nat) (ops : Array Oper) (pres : List Nat) (o : Oper) (s : GS) (es : List En) : Option (Rec × List Prop × List En) :=
 if dstOK n o.dst = true then
  match gWant ops o (envOf s.env) es with
  | some (true, cs, es1) => (match gAny cx o (evG (envOf s.env) cx.gl) (mapOf s.hp) es1 with
   | some (R, es2) => if R.mv.all M.contains = true then
     some ({ us := o.looksAt ops, rd := keys R.rd, wE := dstW o.dst R.val ++ explE R.mv s.env, wH := R.wr ++ explH R.mv s.hp, mv := R.mv, pre := preOf pres o.after.toList }, cs ++ R.cs, es2)
    else none
   | none => none)
  | some (false, cs, es1) => some ({ us := o.looksAt ops, rd := [], wE := dstW o.dst (.a .unit0), wH := [], mv := [], pre := preOf pres o.after.toList }, cs, es1)
  | none => none
 else none

theorem looksAt_tmp {ops : Array Oper} {o : Oper} {t : Nat} (h : Operand.tmp t ∈ o.op.operands.toList) : t ∈ o.looksAt ops :=
 List.mem_append_left _ (List.mem_filterMap.2 ⟨.tmp t, h, rfl⟩)

theorem looksAt_guard {ops : Array Oper} {o : Oper} {j t : Nat} {want : Bool} (h : o.guard = some (j, want)) (ht : (ops[j]?).bind (·.dst) = some t) : t ∈ o.looksAt ops := by
 refine List.mem_append_right _ ?_
 rw [h]
 simp only [ht]
 simp

theorem gRec_ok {cx : Cx} (hcx : CxOK cx) {M : List Nat} {n : Nat} {ops : Array Oper} {pres : List Nat} {o : Oper} {s : GS} {es es' : List En} {r : Rec} {cs : List Prop} (h : gRec cx M n ops pres o s es = some (r, cs, es')) (hc : AllP cs) :
  RecOK cx M n ops o (envOf s.env) (mapOf s.hp) r ∧ r.pre = preOf pres o.after.toList := by
 unfold gRec at h
 split at h
 rotate_left
 ·cases h
 rename_i hd
 have hd := dstOK_spec hd
 split at h
 ·rename_i cs3 es3 hw
  split at h
  rotate_left
  ·cases h
  rename_i R es4 hg
  split at h
  rotate_left
  ·cases h
  rename_i hmv
  simp only [Option.some.injEq, Prod.mk.injEq] at h
  obtain ⟨rfl, rfl, rfl⟩ := h
  obtain ⟨hc3, hc4⟩ := AllP.append hc
  refine ⟨?_, rfl⟩
  intro μ a w E' H' K Q hs h1 h2 h3 h4 k
  have hus : ∀ t, t ∈ o.looksAt ops → E' t = envOf s.env t := fun t ht => h1 t (.inl ht)
  have hev : ∀ x ∈ o.op.operands.toList, evG E' cx.gl x = evG (envOf s.env) cx.gl x := by
   intro x hx
   cases x with
   | tmp t => exact hus t (looksAt_tmp hx)
   | _ => rfl
  rw [if_pos (gWant_ok hs hw hc3 fun j want t hg ht => hus t (looksAt_guard hg ht))]
  have hrd := gAny_rd hg
  refine (SR.op hcx hs (gAny_ok hcx hg hc4 (fun x hx => ?_) (fun x hx => by rw [← hev x hx]; exact hs.ev x) hs.heap hs.glob) hd fun μ' a' w' g1 g2 g3 => ?_)
  ·rw [h2 x.1 (.inl (List.mem_map.2 ⟨x, hx, rfl⟩))]; exact hrd x hx
  ·have hmv' : ∀ m, m ∉ M → m ∉ R.mv := fun m hm h => hm (by simpa using List.all_eq_true.1 hmv m h)
   have e1 : up (dstW o.dst R.val ++ explE R.mv s.env) E' = fun t => if o.dst = some t then R.val else (E' t).scrub R.mv := by
    funext t
    rw [up_append, up_dstW]
    split
    ·rfl
    ·rename_i hne
     by_cases hk : t ∈ keys (explE R.mv s.env)
     ·rw [explE_spec hk, h1 t (.inr (by rw [keys_append]; exact List.mem_append_right _ hk))]
     ·rw [up_not hk]
      refine (G.scrub_id (h3 t ?_)).symm
      rw [keys_append]
      intro hm
      rcases List.mem_append.1 hm with hm | hm
      ·cases hd : o.dst with
       | none => rw [hd] at hm; cases hm
       | some d => rw [hd] at hm hne; simp [dstW, keys] at hm; exact hne (congrArg some hm.symm)
      ·exact hk hm
   have e2 : up (R.wr ++ explH R.mv s.hp) H' = after R.mv R.wr H' := by
    funext t
    rw [up_append]
    unfold after
    conv => lhs; unfold up
    cases hf : R.wr.find? (·.1 == t) with
    | some x => rfl
    | none =>
     simp only []
     have hnk : t ∉ keys R.wr := by
      intro hm
      obtain ⟨x, hx, he⟩ := List.mem_map.1 hm
      rw [List.find?_eq_none] at hf
      exact hf x hx (by simpa using he)
     by_cases hk : t ∈ keys (explH R.mv s.hp)
     ·have := explH_spec hk H'
      unfold up at this
      rw [this, h2 t (.inr (by rw [keys_append]; exact List.mem_append_right _ hk))]
     ·have := up_not (F := H') hk
      unfold up at this
      rw [this]
      cases hH : H' t with
      | none => rfl
      | some b => exact congrArg some (Blk.scrub_id (h4 t b (by rw [keys_append]; intro hm; exact (List.mem_append.1 hm).elim hnk hk) hH)).symm
   exact k μ' a' w' (by rw [e1, e2]; exact g1) (by rw [e2]; exact g2) fun m hm => g3 m (hmv' m hm)
 ·rename_i cs3 es3 hw
  simp only [Option.some.injEq, Prod.mk.injEq] at h
  obtain ⟨rfl, rfl, rfl⟩ := h
  refine ⟨?_, rfl⟩
  intro μ a w E' H' K Q hs h1 h2 h3 h4 k
  have hus : ∀ t, t ∈ o.looksAt ops → E' t = envOf s.env t := fun t ht => h1 t (.inl ht)
  rw [if_neg (by rw [gWant_ok hs hw hc fun j want t hg ht => hus t (looksAt_guard hg ht)]; simp)]
  have g1 := hs.skip hd
  have e1 : up (dstW o.dst (.a .unit0)) E' = fun t => if o.dst = some t then G.a .unit0 else E' t := by funext t; rw [up_dstW]
  exact ⟨fun f _ => hcx.fn f, k μ _ w (by rw [e1]; exact g1) .refl fun _ _ => rfl⟩
 ·cases h

end Go.Gh
