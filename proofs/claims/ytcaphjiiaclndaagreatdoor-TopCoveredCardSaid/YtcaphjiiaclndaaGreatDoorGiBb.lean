/- A round of a loop over a function. -/
import Derived.Test.YtcaphjiiaclndaaGreatDoorGiB
namespace Go.Gh
set_option linter.unusedVariables false
set_option linter.unusedSimpArgs false

def setPs : List Tmp → List G → List (Nat × G) → List (Nat × G)
 | p :: ps, g :: gs, env => setPs ps gs (setE env (some p) g)
 | _, _, env => env

theorem setPs_rel {μ : Map} {w : World} {own : Nat → Prop} {nt : Nat} : ∀ {ps : List Tmp} {gs : List G} {vs : List Value} {env : List (Nat × G)} {tmps : Array Value}, ps.all (Nat.blt · nt) = true → gs.length = ps.length → VGs μ w own gs vs → tmps.size = nt →
  (∀ t, VG μ w own (envOf env t) (tmps.getD t undef)) →
  ((ps.zip vs).foldl (fun t (p, v) => t.setIfInBounds p v) tmps).size = nt ∧ ∀ t, VG μ w own (envOf (setPs ps gs env) t) (((ps.zip vs).foldl (fun t (p, v) => t.setIfInBounds p v) tmps).getD t undef)
 | [], [], vs, env, tmps, _, _, _, hs, he => by
  simp only [List.zip_nil_left, List.foldl_nil, setPs]; exact ⟨hs, he⟩
 | [], _ :: _, _, _, _, _, hl, _, _, _ => by simp at hl
 | _ :: _, [], _, _, _, _, hl, _, _, _ => by simp at hl
 | p :: ps, g :: gs, vs, env, tmps, hp, hl, hv, hs, he => by
  obtain ⟨v, vs', rfl, h1, h2⟩ := hv
  simp only [List.all_cons, Bool.and_eq_true] at hp
  have hpl : p < nt := Nat.le_of_ble_eq_true hp.1
  simp only [List.zip_cons_cons, List.foldl_cons, setPs]
  refine setPs_rel hp.2 (by simpa using hl) h2 (by simpa using hs) fun t => ?_
  rw [envOf_setE]
  by_cases ht : some p = some t
  ·rw [if_pos ht]; cases ht
   have : (tmps.setIfInBounds p v).getD p undef = v := by
    rw [Array.getD_eq_getD_getElem?, Array.getElem?_setIfInBounds_self_of_lt (by rw [hs]; exact hpl)]; rfl
   rw [this]; exact h1
  ·rw [if_neg ht]
   have hne : p ≠ t := fun h => ht (by rw [h])
   have : (tmps.setIfInBounds p v).getD t undef = tmps.getD t undef := by simp [Array.getD_eq_getD_getElem?, Array.getElem?_setIfInBounds_ne hne]
   rw [this]; exact he t

theorem CallOK.at {cx : Cx} {f : FuncId} {args : List G} {K K' : List (Nat × Blk)} {mvd : List Nat} {v : G} (h : CallOK cx f args K mvd v K') (l : Nat) : CallOK (cx.atRound l) f args K mvd v K' := h

theorem HRel.putX {μ : Map} {w : World} {H : Heap} (h : HRel μ w H) {l : Nat} (hX : μ.X l) (o : Obj) : HRel μ (w.putObj l o) H ∧ Ext (ownOf μ H) w (ownOf μ H) (w.putObj l o) := by
 have ext : Ext (ownOf μ H) w (ownOf μ H) (w.putObj l o) := ⟨by simp, fun b _ hn => World.putObj_heap_other fun e => hn (.inl (by rw [e]; exact hX)), fun _ _ h => h, rfl, rfl, rfl⟩
 refine ⟨⟨fun n b hb => ?_, h.inj, h.dis, fun b hb => by simpa using h.xlt b hb⟩, ext⟩
 exact (h.blk n b hb).ext (μ := μ) ext rfl (fun _ _ => rfl) fun l' hl' => World.putObj_heap_other fun e => h.dis n l' (by rw [hb]; simp) hl' (by rw [e]; exact hX)

set_option maxHeartbeats 1000000 in
theorem yok {cx : Cx} (hcx : CxOK cx) {R : LpRec} {gs : List G} {K K' : List (Nat × Blk)} {mvd M : List Nat} {s1 : GS} {cs1 cs2 : Nat → List Prop} {es1 es2 : List En}
  (hlen : gs.length = R.ps.size) (hps : R.ps.toList.all (Nat.blt · R.nt) = true) (hM : ((namesOf K).all fun m => !M.contains m || mvd.contains m) = true)
  (h1 : ∀ l, gRun (cx.atRound l) M R.nt R.asg ⟨setPs R.ps.toList gs R.env, K⟩ es1 = some (.normal, s1, cs1 l)) (c1 : ∀ l, AllP (cs1 l))
  (h2 : ∀ l, gRun (cx.atRound l) M R.nt R.body s1 es2 = some (.normal, ⟨[], K'⟩, cs2 l)) (c2 : ∀ l, AllP (cs2 l)) : YOK cx R gs K mvd K' := by
 refine ⟨hlen, fun μ w tmps cargs l fn df hlp hX hH hargs henv hnt hgl => ?_⟩
 have ex1 := gRun_ok (hcx.atRound l) (h1 l) (c1 l)
 have ex2 := gRun_ok (hcx.atRound l) (h2 l) (c2 l)
 obtain ⟨rec, hrec⟩ : ∃ rec : LoopState → Option Code → Loop, rec = fun st pe => { state := st, pending := pe, fn, tmps, params := R.ps, assign := R.asg, body := R.body, defers := df } := ⟨_, rfl⟩
 have hlp : w.heap[l]? = some (.loop (rec .ready none)) := by rw [hrec]; exact hlp
 have hlt : l < w.heap.size := (Array.getElem?_eq_some_iff.1 hlp).1
 have hfold : (R.ps.zip cargs.toArray).foldl (fun t (p, v) => t.setIfInBounds p v) tmps = ((R.ps.toList.zip cargs).foldl (fun t (p, v) => t.setIfInBounds p v) tmps) := by
  rw [← Array.foldl_toList, Array.toList_zip]
 rw [hfold]
 obtain ⟨e1, e2⟩ := setPs_rel hps (by simpa using hlen) hargs hnt henv
 refine roundIn_of_wpIn trivial ?_
 refine ex1 (μ.at 0) _ w _ ⟨hH.at 0, fun t => (e2 t).at 0, ⟨Nat.zero_le _, [], rfl, List.nodup_nil, by simp⟩, e1, fun g => VA.ext (μ := μ) (μ' := μ.at 0) .refl (fun _ _ => rfl) (hgl g)⟩ fun μ1 a1 w1 g1 g2 g3 => ?_
 have hX1 : μ1.X l := by rw [g2.X]; exact hX
 have hl1 : w1.heap[l]? = some (.loop (rec .ready none)) := (g2.keepX l hX).trans hlp
 refine ⟨_, run_beginRound hl1 (by rw [hrec]), ?_⟩
 obtain ⟨q1, q2⟩ := g1.heap.putX hX1 (.loop { rec .ready none with state := .busy })
 have dB : ∀ {w' : World} (o : Obj), DefOK μ1 (mapOf s1.hp) w' a1.defers → μ1.X l → w'.heap[l]? ≠ some (.deferred (some [])) → DefOK μ1 (mapOf s1.hp) (w'.putObj l o) a1.defers := by
  rintro w' o ⟨b0, Ds, d1, d2, d3⟩ hx _
  refine ⟨by simpa using b0, Ds, d1, d2, fun D hD => ?_⟩
  obtain ⟨p1, p2, p3⟩ := d3 D hD
  exact ⟨p1, by rw [World.putObj_heap_other (fun e => p3 (.inl (by rw [e]; exact hx)))]; exact p2, p3⟩
 refine ex2 μ1 a1 _ _ ⟨q1, fun t => VG.ext (μ := μ1) q2 (fun _ _ => rfl) (g1.env t), dB _ g1.defers hX1 (by rw [hl1]; simp), g1.size, fun g => VA.ext (μ := μ1) q2 (fun _ _ => rfl) (g1.glob g)⟩ fun μ3 a3 w3 k1 k2 k3 => ?_
 have hlt1 : l < w1.heap.size := (Array.getElem?_eq_some_iff.1 hl1).1
 have hl3 : w3.heap[l]? = some (.loop { rec .ready none with state := .busy }) := (k2.keepX l hX1).trans (World.putObj_heap_same hlt1)
 have hX3 : μ3.X l := by rw [k2.X]; exact hX1
 have hre := run_endRound (P := cx.P) none hl3
 refine ⟨_, _, hre, ?_⟩
 have hback : (Obj.loop { ({ rec .ready none with state := .busy } : Loop) with state := if (none : Option Code).isNone then .ready else .done, pending := none }) = .loop (rec .ready none) := by rw [hrec]; rfl
 rw [hback]
 obtain ⟨p1, p2⟩ := k1.heap.putX hX3 (.loop (rec .ready none))
 have hlt3 : l < w3.heap.size := (Array.getElem?_eq_some_iff.1 hl3).1
 have ext : Ext (ownOf μ (mapOf K)) w (ownOf μ3 (mapOf K')) (w3.putObj l (.loop (rec .ready none))) := ((g2.ext.trans q2).trans k2.ext).trans p2
 refine ⟨μ3.at μ.B, rfl, p1.at _, ⟨ext, k2.X.trans g2.X, rfl, fun b hb => ?_⟩, fun q hq hqm => ?_⟩
 ·by_cases hbl : b = l
  ·subst hbl; rw [World.putObj_heap_same hlt3]; exact hlp.symm
  ·rw [World.putObj_heap_other hbl, k2.keepX b (by rw [g2.X]; exact hb), World.putObj_heap_other hbl]; exact g2.keepX b hb
 ·have hqM : q ∉ M := by
   intro hm
   have := List.all_eq_true.1 hM q (mapOf_ne.1 hq)
   rw [Bool.or_eq_true] at this
   rcases this with h | h
   ·simp only [Bool.not_eq_true', List.contains_eq_mem, decide_eq_false_iff_not] at h; exact h hm
   ·exact hqm (by simpa using h)
  exact (k3 q hqM).trans (g3 q hqM)

end Go.Gh
