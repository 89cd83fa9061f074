/- A function. -/
import Derived.Test.YtcaphjiiaclndaaGreatDoorGiA
namespace Go.Gh
set_option linter.unusedVariables false
set_option linter.unusedSimpArgs false

def startEnv : Nat → List G → List (Nat × G)
 | _, [] => []
 | k, g :: gs => (k, g) :: startEnv (k + 1) gs

theorem startEnv_lt : ∀ (gs : List G) (k t : Nat), t < k → envOf (startEnv k gs) t = .undef
 | [], _, _, _ => rfl
 | g :: gs, k, t, h => by
  rw [startEnv, envOf_cons, if_neg (by omega)]
  exact startEnv_lt gs (k + 1) t (by omega)

theorem startEnv_rel {μ : Map} {w : World} {own : Nat → Prop} : ∀ {gs : List G} {vs : List Value} (k t : Nat), VGs μ w own gs vs → VG μ w own (envOf (startEnv k gs) (k + t)) ((vs[t]?).getD undef)
 | [], _, _, _, _ => trivial
 | g :: gs, _, k, 0, h => by
  obtain ⟨v, vs', rfl, h1, _⟩ := h
  rw [startEnv, envOf_cons, if_pos (by simp)]
  exact h1
 | g :: gs, _, k, t + 1, h => by
  obtain ⟨v, vs', rfl, _, h2⟩ := h
  rw [startEnv, envOf_cons, if_neg (by simp)]
  have := startEnv_rel (k + 1) t h2
  rw [show k + 1 + t = k + (t + 1) by omega] at this
  simpa using this

theorem VGs.len {μ : Map} {w : World} {own : Nat → Prop} : {gs : List G} → {vs : List Value} → VGs μ w own gs vs → vs.length = gs.length
 | [], _, h => by simp only [VGs] at h; subst h; rfl
 | _ :: _, _, h => by obtain ⟨v, vs', rfl, _, h2⟩ := h; simp [h2.len]

def cellG (T : Tbl) (H : Heap) (t : TypeId) (g : GA) : Option G :=
 match T[t]?, g with
 | some ti, .ptr n base 0 => (match H n with
  | some (.var ss) =>
   if ti.d.isAgg then (match getSlots ss base ti.size with | some s => some (.r (.agg s)) | none => none)
   else (match splitSlots ss base with | some (_, .cell g :: _) => some (.r (.at g)) | _ => none)
  | _ => none)
 | _, _ => none

theorem cellG_rel {P : Program} {T : Tbl} (hT : TOK P T) {μ : Map} {w : World} {H : Heap} (hH : HRel μ w H) {t : TypeId} {g : GA} {x : G} {v : Value} (h : cellG T H t g = some x) (hv : VA μ w (ownOf μ H) g v) :
  ∃ u, (do loadVar t (← asAddr v) : Sem Value).run P w = .ok u w ∧ VG μ w (ownOf μ H) x u := by
 have key : ∀ {ad : Addr} {u : Value}, (Instr.loadAt t (.pointer (some ad))).run P w = .ok u w → (do loadVar t (← asAddr (.pointer (some ad))) : Sem Value).run P w = .ok u w := by
  intro ad u h
  simpa [Instr.loadAt, Instr.sureAddr, asAddr] using h
 unfold cellG at h
 split at h
 rotate_left
 ·cases h
 rename_i ti n base hti
 obtain ⟨l, hl, rfl⟩ := hv
 split at h
 rotate_left
 ·cases h
 rename_i ss hHn
 split at h
 ·rename_i hd
  split at h
  rotate_left
  ·cases h
  rename_i s hs
  simp only [Option.some.injEq] at h; subst h
  obtain ⟨l', c, e, hl', hb, hvs⟩ := hH.blk n _ hHn
  rw [hl] at hl'; cases hl'
  obtain ⟨c1, c2, c3, hc', h1, h2, h3⟩ := VS.get hs hvs
  refine ⟨.agg c2.toArray, key (run_loadVar_agg (hT t ti hti) hd rfl h2 fun j u hu => cell_of_blk hb ?_), ⟨_, rfl, by simpa using h3⟩⟩
  have hj : j < c2.length := by
   rcases Nat.lt_or_ge j c2.length with h | h
   ·exact h
   ·simp [List.getElem?_eq_none h] at hu
  show c.toList[base + 0 + j]? = some u
  rw [hc', show base + 0 + j = c1.length + j by omega, List.append_assoc, List.getElem?_append_right (by omega)]
  simp only [Nat.add_sub_cancel_left]
  rw [List.getElem?_append_left hj]; exact hu
 ·rename_i hd
  have hd : ti.d.isAgg = false := by simpa using hd
  split at h
  rotate_left
  ·cases h
  rename_i hd' g rest hsp
  simp only [Option.some.injEq] at h; subst h
  obtain ⟨l', c, e, hl', hb, hvs⟩ := hH.blk n _ hHn
  rw [hl] at hl'; cases hl'
  obtain ⟨_, c1, c2, hc', h1, _, h3⟩ := VS.split hsp hvs
  obtain ⟨u, cs', rfl, _, h4, _⟩ := h3
  refine ⟨u, key (run_loadVar_one (hT t ti hti) hd (cell_of_blk hb ?_)), h4⟩
  rw [hc', Nat.add_zero, ← h1]; simp

def resOne (T : Tbl) (H : Heap) (E : Nat → G) : ResultVar → Option G
 | .tmp t => some (E t)
 | .cell a t => (match E a with | .r (.at g) => cellG T H t g | _ => none)

def resGR (T : Tbl) (H : Heap) (E : Nat → G) : List ResultVar → Option (List GR)
 | [] => some []
 | r :: rs => (match resOne T H E r, resGR T H E rs with
  | some (.r g), some gs => some (g :: gs)
  | _, _ => none)

def gRes (T : Tbl) (H : Heap) (E : Nat → G) : List ResultVar → Option G
 | [] => some (.a .unit0)
 | [r] => resOne T H E r
 | rs => (match resGR T H E rs with | some gs => some (.tup gs) | none => none)

def resSem (tmps : Array Value) : ResultVar → Sem Value := fun
  | .tmp t => pure (tmps.getD t undef)
  | .cell a t => do loadVar t (← asAddr (tmps.getD a undef))

section
variable {P : Program} {T : Tbl} {μ : Map} {w : World} {H : Heap} {E : Nat → G} {tmps : Array Value}

theorem resOne_rel (hT : TOK P T) (hH : HRel μ w H) (h : ∀ t, VG μ w (ownOf μ H) (E t) (tmps.getD t undef)) {r : ResultVar} {g : G} (hg : resOne T H E r = some g) : ∃ v, (resSem tmps r).run P w = .ok v w ∧ VG μ w (ownOf μ H) g v := by
 cases r with
 | tmp t => simp only [resOne, Option.some.injEq] at hg; subst hg; exact ⟨_, by simp [resSem], h t⟩
 | cell a t =>
  simp only [resOne] at hg
  split at hg
  rotate_left
  ·cases hg
  rename_i g0 hE
  have h0 := h a
  rw [hE] at h0
  exact cellG_rel hT hH hg h0

theorem resGR_rel (hT : TOK P T) (hH : HRel μ w H) (h : ∀ t, VG μ w (ownOf μ H) (E t) (tmps.getD t undef)) : {rs : List ResultVar} → {gs : List GR} → resGR T H E rs = some gs →
  ∃ vs, (rs.mapM (resSem tmps)).run P w = .ok vs w ∧ VL μ w (ownOf μ H) gs vs ∧ vs.length = rs.length
 | [], gs, hg => by
  simp only [resGR, Option.some.injEq] at hg; subst hg
  exact ⟨[], by simp, rfl, rfl⟩
 | r :: rs, gs, hg => by
  simp only [resGR] at hg
  split at hg
  rotate_left
  ·cases hg
  rename_i g gs' hr hgs
  simp only [Option.some.injEq] at hg; subst hg
  obtain ⟨v, k1, k2⟩ := resOne_rel hT hH h hr
  obtain ⟨vs, h1, h2, h3⟩ := resGR_rel hT hH h hgs
  exact ⟨v :: vs, by simp [List.mapM_cons, k1, h1], ⟨_, _, rfl, k2, h2⟩, by simp [h3]⟩

theorem gRes_rel (hT : TOK P T) (hH : HRel μ w H) {fn : Func} {v : G} (h : ∀ t, VG μ w (ownOf μ H) (E t) (tmps.getD t undef)) (hg : gRes T H E fn.results.toList = some v) :
  ∃ cv, (results fn tmps).run P w = .ok cv w ∧ VG μ w (ownOf μ H) v cv := by
 have key : ∀ vs : List Value, (fn.results.toList.mapM (resSem tmps)).run P w = .ok vs w → (results fn tmps).run P w = .ok (if h : vs.toArray.size = 1 then vs.toArray[0] else .tuple vs.toArray) w := by
  intro vs hvs
  have e : (fn.results.mapM (resSem tmps)).run P w = .ok vs.toArray w := by
   have : fn.results = fn.results.toList.toArray := by simp
   rw [this, List.mapM_toArray, Sem.run_map, hvs]; rfl
  show ((fn.results.mapM (resSem tmps)) >>= fun vs => pure (if h : vs.size = 1 then vs[0] else .tuple vs)).run P w = _
  rw [Sem.run_bind, e]; rfl
 unfold gRes at hg
 split at hg
 ·rename_i hr
  simp only [Option.some.injEq] at hg; subst hg
  exact ⟨_, key [] (by rw [hr]; simp), rfl⟩
 ·rename_i r hr
  obtain ⟨v1, k1, k2⟩ := resOne_rel hT hH h hg
  exact ⟨_, key [v1] (by rw [hr]; simp [List.mapM_cons, k1]), k2⟩
 ·rename_i h0 h1
  split at hg
  rotate_left
  ·cases hg
  rename_i gs hgs
  simp only [Option.some.injEq] at hg; subst hg
  obtain ⟨vs, k1, k2, k3⟩ := resGR_rel hT hH h hgs
  refine ⟨_, key vs k1, ?_⟩
  have hlen : vs.toArray.size ≠ 1 := by
   intro hs
   have : fn.results.toList.length = 1 := by rw [← k3]; simpa using hs
   match hl : fn.results.toList with
   | [] => rw [hl] at this; cases this
   | [r] => exact h1 r hl
   | _ :: _ :: _ => rw [hl] at this; simp at this
  rw [dif_neg hlen]
  exact ⟨vs.toArray, rfl, by simpa using k2⟩
end

theorem SR.keep {cx : Cx} {n : Nat} {s : GS} {μ : Map} {a : Act} {w : World} (hs : SRL cx n s μ a w) (ns : List Nat) : HRel μ w (mapOf (subK (mapOf s.hp) ns)) ∧ Ev μ (mapOf s.hp) w μ (mapOf (subK (mapOf s.hp) ns)) w := by
 have hm : ∀ m, mapOf (subK (mapOf s.hp) ns) m = if m ∈ ns then mapOf s.hp m else none := mapOf_subK _ _
 have hd : ∀ m, mapOf (subK (mapOf s.hp) ns) m ≠ none → mapOf s.hp m ≠ none := by
  intro m h; rw [hm] at h
  split at h
  ·exact h
  ·exact absurd rfl h
 have ev : Ev μ (mapOf s.hp) w μ (mapOf (subK (mapOf s.hp) ns)) w := Ev.drop hd
 refine ⟨hs.heap.weaken hd fun m b' hb' b hb hbr => ?_, ev⟩
 rw [hm] at hb'
 split at hb'
 ·rw [hb] at hb'; cases hb'
  exact BRel.ext (μ := μ) ev.ext rfl (fun _ _ => rfl) (fun _ _ => rfl) hbr
 ·cases hb'

def gBody (cx : Cx) (M : List Nat) (fn : Func) (args : List G) (K : List (Nat × Blk)) (mvd ks : List Nat) (es : List En) : Option (G × List (Nat × Blk) × List Prop) :=
 match fn.body with
 | some c =>
  if (Nat.ble args.length fn.ntmps && (namesOf K).all fun m => !M.contains m || mvd.contains m) = true then
   (match gRun cx M fn.ntmps c ⟨startEnv 0 args, K⟩ es with
   | some (.ret, s, cs) | some (.normal, s, cs) => (match gRes cx.T (mapOf s.hp) (envOf s.env) fn.results.toList with
    | some v => some (v, subK (mapOf s.hp) ks, cs)
    | none => none)
   | _ => none)
  else none
 | none => none

theorem callOK {cx : Cx} (hcx : CxOK cx) (hw : cx.F = Fence.wide) {f : FuncId} {fn : Func} (hf : cx.P.funcs[f]? = some fn) (hn : (fn.name == "runtime.NumGoroutine") = false) {M : List Nat} {args : List G} {K K' : List (Nat × Blk)} {mvd ks : List Nat} {v : G} {es : List En} {cs : List Prop}
  (h : gBody cx M fn args K mvd ks es = some (v, K', cs)) (hc : AllP cs) : CallOK cx f args K mvd v K' := by
 unfold gBody at h
 split at h
 rotate_left
 ·cases h
 rename_i c hb
 split at h
 rotate_left
 ·cases h
 rename_i hcond
 simp only [Bool.and_eq_true] at hcond
 obtain ⟨hlen, hM⟩ := hcond
 have hlen := Nat.le_of_ble_eq_true hlen
 have main : ∀ e s, (e = GExit.ret ∨ e = .normal) → gRun cx M fn.ntmps c ⟨startEnv 0 args, K⟩ es = some (e, s, cs) → gRes cx.T (mapOf s.hp) (envOf s.env) fn.results.toList = some v → subK (mapOf s.hp) ks = K' → CallOK cx f args K mvd v K' := by
  intro e s he hrun hres hK
  have ex := gRun_ok hcx hrun hc
  refine ⟨⟨fn, c, hf, hn, hb⟩, fun μ w cargs hH hargs hgl => ?_⟩
  refine callsIn_wide.1 (callsIn_of_wp_marks (n := 0) (F := Fence.wide) hf hb trivial ?_)
  rw [← hw]
  refine ex (μ.at w.heap.size) _ w _ ⟨hH.at _, fun t => ?_, ⟨Nat.le_refl _, [], rfl, List.nodup_nil, by simp⟩, ?_, fun g => VA.ext (μ := μ) (μ' := μ.at w.heap.size) .refl (fun _ _ => rfl) (hgl g)⟩ fun μ' a' w' g1 g2 g3 => ?_
  ·have h1 := (startEnv_rel 0 t hargs).at w.heap.size
   rw [Nat.zero_add] at h1
   show VG (μ.at w.heap.size) w _ (envOf (startEnv 0 args) t) ((cargs.toArray ++ Array.replicate (fn.ntmps - cargs.toArray.size) undef).getD t undef)
   have : (cargs.toArray ++ Array.replicate (fn.ntmps - cargs.toArray.size) undef).getD t undef = (cargs[t]?).getD undef := by
    rw [Array.getD_eq_getD_getElem?]
    rcases Nat.lt_or_ge t cargs.length with hlt | hge
    ·rw [Array.getElem?_append_left (by simpa using hlt)]; simp
    ·rw [Array.getElem?_append_right (by simpa using hge), List.getElem?_eq_none hge, Array.getElem?_replicate]
     split <;> rfl
   rw [this]; exact h1
  ·have := hargs.len
   simp; omega
  ·-- at the end, the world being w2
   have fin : ∀ w2, HRel μ' w2 (mapOf s.hp) → (∀ t, VG μ' w2 (ownOf μ' (mapOf s.hp)) (envOf s.env t) (a'.eval (.tmp t))) → Ev (μ.at w.heap.size) (mapOf K) w μ' (mapOf s.hp) w2 →
     ∃ v_1, (results fn a'.tmps).run cx.P w2 = .ok v_1 w2 ∧ ∃ cv μ', Ending.returned v_1 = .returned cv ∧ HRel μ' w2 (mapOf K') ∧ VG μ' w2 (ownOf μ' (mapOf K')) v cv ∧ Ev μ (mapOf K) w μ' (mapOf K') w2 ∧ ∀ n, mapOf K n ≠ none → n ∉ mvd → μ' n = μ n := by
    intro w2 q1 q2 q3
    obtain ⟨cv, k1, k2⟩ := gRes_rel (P := cx.P) hcx.tok q1 (fn := fn) (tmps := a'.tmps) q2 hres
    subst hK
    have hd : ∀ m, mapOf (subK (mapOf s.hp) ks) m ≠ none → mapOf s.hp m ≠ none := by
     intro m h; rw [mapOf_subK] at h
     split at h
     ·exact h
     ·exact absurd rfl h
    have d2 : Ev μ' (mapOf s.hp) w2 μ' (mapOf (subK (mapOf s.hp) ks)) w2 := Ev.drop hd
    have d1 : HRel μ' w2 (mapOf (subK (mapOf s.hp) ks)) := q1.weaken hd fun m b' hb' b hb hbr => by
     rw [mapOf_subK] at hb'
     split at hb'
     ·rw [hb] at hb'; cases hb'
      exact BRel.ext (μ := μ') d2.ext rfl (fun _ _ => rfl) (fun _ _ => rfl) hbr
     ·cases hb'
    have e := q3.trans d2
    refine ⟨cv, k1, cv, μ'.at μ.B, rfl, d1.at _, (VG.ext (μ := μ') d2.ext (fun _ _ => rfl) k2).at _, ⟨e.ext, e.X, rfl, e.keepX⟩, fun n hn hm => g3 n fun hnM => ?_⟩
    have := List.all_eq_true.1 hM n (mapOf_ne.1 hn)
    rw [Bool.or_eq_true] at this
    rcases this with h | h
    ·simp only [Bool.not_eq_true', List.contains_eq_mem, decide_eq_false_iff_not] at h; exact h hnM
    ·exact hm (by simpa using h)
   have out : LeavesInM cx.F 0 cx.P fn a'.tmps (fun e w' => ∃ cv μ', e = .returned cv ∧ HRel μ' w' (mapOf K') ∧ VG μ' w' (ownOf μ' (mapOf K')) v cv ∧ Ev μ (mapOf K) w μ' (mapOf K') w' ∧ ∀ n, mapOf K n ≠ none → n ∉ mvd → μ' n = μ n) a'.defers .returning w' := by
    obtain ⟨hb0, Ds, hds, hnd, hD⟩ := g1.defers
    clear hb0
    rw [hds]
    have hh := g1.heap
    have he' := g1.env
    have h2 := g2
    clear hds g1 g3
    revert hh he' h2
    generalize w' = w1 at *
    induction Ds generalizing w1 with
    | nil => intro hh he' h2; exact fin w1 hh he' h2
    | cons D Ds ih =>
     intro hh he' h2
     obtain ⟨hB, hD0, hno⟩ := hD D (by simp)
     obtain ⟨p1, p2⟩ := HRel.put (o' := .deferred none) hh he' hD0 (fun _ _ _ h => by cases h) hno
     rw [h2.B] at hB
     have hB : w.heap.size ≤ D := hB
     obtain ⟨hnD, hnd'⟩ := List.nodup_cons.1 hnd
     have h3 : Ev (μ.at w.heap.size) (mapOf K) w μ' (mapOf s.hp) (w1.putObj D (.deferred none)) := by
      refine ⟨⟨by simpa using h2.ext.size, fun b hb hn => ?_, h2.ext.nown, h2.ext.out, h2.ext.os, h2.ext.tape⟩, h2.X, h2.B, fun b hb => ?_⟩
      ·rw [World.putObj_heap_other (by omega)]; exact h2.ext.keep b hb hn
      ·have := hH.xlt b hb
       rw [World.putObj_heap_other (by omega)]; exact h2.keepX b hb
     refine ⟨(fun h => by cases h), .inl ⟨D, w1.putObj D (.deferred none), rfl, run_takeDeferred hD0, ih hnd' (w1.putObj D (.deferred none)) h3 (fun D' hD' => ?_) p1 p2 h3⟩⟩
     obtain ⟨q1, q2, q3⟩ := hD D' (List.mem_cons_of_mem _ hD')
     exact ⟨q1, by rw [World.putObj_heap_other (by rintro rfl; exact hnD hD')]; exact q2, q3⟩
   rcases he with rfl | rfl
   ·exact out
   ·exact out
 split at h
 ·rename_i s cs1 hrun
  split at h
  ·rename_i v1 hres
   simp only [Option.some.injEq, Prod.mk.injEq] at h; obtain ⟨rfl, rfl, rfl⟩ := h
   exact main _ _ (.inl rfl) hrun hres rfl
  ·cases h
 ·rename_i s cs1 hrun
  split at h
  ·rename_i v1 hres
   simp only [Option.some.injEq, Prod.mk.injEq] at h; obtain ⟨rfl, rfl, rfl⟩ := h
   exact main _ _ (.inr rfl) hrun hres rfl
  ·cases h
 ·cases h

end Go.Gh
