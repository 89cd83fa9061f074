/- A range over a function. -/
import Derived.Test.YtcaphjiiaclndaaGreatDoorGhZa
namespace Go.Gh
set_option linter.unusedVariables false
set_option linter.unusedSimpArgs false

def gRange (cx : Cx) (M : List Nat) (n : Nat) (g : Operand) (ps : Array Tmp) (asg body : Code) (s : GS) (es : List En) : Option (GS × List Prop × List En) :=
 match evG (envOf s.env) cx.gl g, es with
 | .r (.at fv), .nm m :: .call _ ns mvd v K0 :: es' => (match fnOf fv [] [] with
  | some (f, xs, ys) =>
   let hp1 := wrsH [(m, some (.lpb ⟨ps, asg, body, n, scrubE [m] s.env⟩))] (scrubH [m] s.hp)
   let ro := ns.filter fun n => !(namesOf K0).contains n
   let rw' := ns.filter fun n => (namesOf K0).contains n
   let K' := K0 ++ subK (mapOf hp1) ro
   let mv := (mvd.filter fun n => (namesOf K').contains n) ++ ((namesOf K').filter fun n => !ns.contains n)
   let wr := (rw'.map fun n => (n, mapOf K' n)) ++ ((K'.filter fun x => !ns.contains x.1).map fun x => (x.1, some x.2))
   let hp2 := wrsH wr (scrubH mv hp1)
   if M.contains m = true ∧ mv.all M.contains = true ∧ mv.contains m = false ∧ fv.men.contains m = false ∧ ns.all (fun n => (mapOf hp1 n).isSome) = true ∧ (K'.all fun x => x.2.men.all fun m => (namesOf K').contains m) = true ∧
     (v.men.all fun m => (namesOf K').contains m) = true ∧ ((subK (mapOf hp1) ro).all fun x => x.2.men.all fun m => !mv.contains m) = true then
    (match mapOf hp2 m with
    | some (.lpb _) => some (⟨scrubE mv (scrubE [m] s.env), putH m none hp2⟩,
      [cx.F = Fence.wide, CallOK cx f (gAts xs ++ [.r (.at (.yl m))] ++ gAts ys) (subK (mapOf hp1) ns) mvd v K'], es')
    | _ => none)
   else none
  | none => none)
 | _, _ => none

theorem fnOf_men {m : Nat} : {g : GA} → {xs ys xs' ys' : List GA} → {f : FuncId} → fnOf g xs ys = some (f, xs', ys') → g.men.contains m = false → (∀ x ∈ xs, x.men.contains m = false) → (∀ x ∈ ys, x.men.contains m = false) →
  (∀ x ∈ xs', x.men.contains m = false) ∧ (∀ x ∈ ys', x.men.contains m = false)
 | .fn f0, xs, ys, xs', ys', f, h, _, hx, hy => by
  simp only [fnOf, Option.some.injEq, Prod.mk.injEq] at h
  obtain ⟨rfl, rfl, rfl⟩ := h
  exact ⟨hx, hy⟩
 | .app1 g c, xs, ys, xs', ys', f, h, hg, hx, hy => by
  simp only [fnOf] at h
  simp only [GA.men, List.contains_eq_mem, List.mem_append, not_or, decide_eq_false_iff_not] at hg
  exact fnOf_men h (by simpa using hg.1) (fun x hx' => by
   rcases List.mem_cons.1 hx' with rfl | hx'
   ·simpa using hg.2
   ·exact hx x hx') hy
 | .app2 g c, xs, ys, xs', ys', f, h, hg, hx, hy => by
  simp only [fnOf] at h
  simp only [GA.men, List.contains_eq_mem, List.mem_append, not_or, decide_eq_false_iff_not] at hg
  exact fnOf_men h (by simpa using hg.1) hx (fun x hx' => by
   rcases List.mem_cons.1 hx' with rfl | hx'
   ·simpa using hg.2
   ·exact hy x hx')
 | .undef, _, _, _, _, _, h, _, _, _ | .unit0, _, _, _, _, _, h, _, _, _ | .int .., _, _, _, _, _, h, _, _, _ | .bool _, _, _, _, _, _, h, _, _, _
 | .str _, _, _, _, _, _, h, _, _, _ | .lst .., _, _, _, _, _, h, _, _, _ | .olst .., _, _, _, _, _, h, _, _, _ | .nils, _, _, _, _, _, h, _, _, _
 | .sl .., _, _, _, _, _, h, _, _, _ | .ptr .., _, _, _, _, _, h, _, _, _ | .ptg .., _, _, _, _, _, h, _, _, _ | .vw .., _, _, _, _, _, h, _, _, _
 | .nilp, _, _, _, _, _, h, _, _, _ | .ipt .., _, _, _, _, _, h, _, _, _ | .ipa .., _, _, _, _, _, h, _, _, _ | .nilf, _, _, _, _, _, h, _, _, _
 | .mp _, _, _, _, _, _, h, _, _, _ | .nilm, _, _, _, _, _, h, _, _, _ | .yl _, _, _, _, _, _, h, _, _, _ => by simp [fnOf] at h

theorem VL.ext' {μ μ' : Map} {w w' : World} {own own' : Nat → Prop} (h : Ext own w own' w') : {xs : List GA} → {vs : List Value} → (∀ x ∈ xs, ∀ n ∈ x.men, μ' n = μ n) → VL μ w own (xs.map .at) vs → VL μ' w' own' (xs.map .at) vs
 | [], _, _, hv => hv
 | x :: xs, _, hm, hv => by
  obtain ⟨v, vs', rfl, h1, h2⟩ := hv
  exact ⟨v, vs', rfl, VA.ext (g := x) h (hm x (by simp)) h1, VL.ext' h (fun y hy => hm y (by simp [hy])) h2⟩

set_option maxHeartbeats 1000000 in
theorem range_ok {cx : Cx} (hcx : CxOK cx) {M : List Nat} {n : Nat} {g : Operand} {ps : Array Tmp} {asg body : Code} {s s' : GS} {es es' : List En} {cs : List Prop} (h : gRange cx M n g ps asg body s es = some (s', cs, es')) (hc : AllP cs)
  {μ : Map} {a : Act} {w : World} {Q : Exit → Act → World → Prop} (hs : SRL cx n s μ a w) (k : ∀ μ' a' w', SRL cx n s' μ' a' w' → Ev μ (mapOf s.hp) w μ' (mapOf s'.hp) w' → (∀ m, m ∉ M → μ' m = μ m) → Q .normal a' w') :
  (Code.rangeFunc g ps asg body).wpIn cx.F 0 cx.P Q a w := by
 unfold gRange at h
 split at h
 rotate_left
 ·cases h
 rename_i fv m cos ns mvd v K0 es1 hev
 split at h
 rotate_left
 ·cases h
 rename_i f xs ys hfn
 simp only [] at h
 split at h
 rotate_left
 ·cases h
 rename_i hcond
 obtain ⟨hM, hMmv, hmm, hfm, hall0, hwf, hwv, hro⟩ := hcond
 split at h
 rotate_left
 ·cases h
 rename_i R2 hR2
 simp only [Option.some.injEq, Prod.mk.injEq] at h
 obtain ⟨rfl, rfl, rfl⟩ := h
 obtain ⟨hwide, hcall, _⟩ := hc
 generalize hRdef : (⟨ps, asg, body, n, scrubE [m] s.env⟩ : LpRec) = R at *
 generalize hrodef : ns.filter (fun n => !(namesOf K0).contains n) = ro at *
 generalize hH1def : wrsH [(m, some (.lpb R))] (scrubH [m] s.hp) = hp1 at *
 generalize hK'def : K0 ++ subK (mapOf hp1) ro = K' at *
 refine wpIn_rangeFunc fun fn _ => ?_
 -- the two blocks
 obtain ⟨rec, hrec⟩ : ∃ rec : LoopState → Option Code → Loop, rec = fun st pe => { state := st, pending := pe, fn, tmps := a.tmps, params := ps, assign := asg, body := body, defers := w.heap.size } := ⟨_, rfl⟩
 obtain ⟨W1, hW1⟩ : ∃ W1, (w.alloc (.deferred (some []))).alloc (.loop (rec .ready none)) = W1 := ⟨_, rfl⟩
 have hsz1 : W1.heap.size = w.heap.size + 2 := by rw [← hW1]; simp
 have hL1 : W1.heap[w.heap.size + 1]? = some (.loop (rec .ready none)) := by
  rw [← hW1]; have := World.alloc_heap_new (w.alloc (.deferred (some []))) (.loop (rec .ready none)); rwa [World.size_alloc] at this
 have hD1 : W1.heap[w.heap.size]? = some (.deferred (some [])) := by
  rw [← hW1]; exact (heap_alloc_old _ _ _ (by simp)).trans (World.alloc_heap_new w _)
 have hold : ∀ b, b < w.heap.size → W1.heap[b]? = w.heap[b]? := by
  intro b hb
  rw [← hW1]; exact (heap_alloc_old _ _ _ (by simp; omega)).trans (heap_alloc_old _ _ _ hb)
 have hout : W1.output = w.output ∧ W1.os = w.os ∧ W1.tape = w.tape := by rw [← hW1]; exact ⟨rfl, rfl, rfl⟩
 let lc : Loc := ⟨w.heap.size + 1, 0, 0, 0⟩
 have st := hs.heap.step (μ' := upd μ m (some lc)) (w' := W1) (n := m) (b := .lpb R) (mv := [m]) rfl (fun q hq => upd_other μ m (some lc) (by simpa using hq)) (fun q hq => upd_other μ m (some lc) hq) (by simp) (by omega) hout.1 hout.2.1 hout.2.2
  (fun b hb _ => hold b hb) (fun l' hl' => by rw [upd_same] at hl'; cases hl'; left; show w.heap.size ≤ w.heap.size + 1; omega) (fun ext => by
   refine ⟨lc, a.tmps, upd_same .., ⟨fn, w.heap.size, ?_⟩, ?_, fun t => ?_⟩
   ·rw [show R.ps = ps by rw [← hRdef], show R.asg = asg by rw [← hRdef], show R.body = body by rw [← hRdef]]; rw [hrec] at hL1; exact hL1
   ·rw [show R.nt = n by rw [← hRdef]]; exact hs.size
   ·rw [show R.env = scrubE [m] s.env by rw [← hRdef], envOf_scrubE]
    exact VG.scrub (ns := [m]) ext (fun q hq => upd_other μ m (some lc) (by simpa using hq)) (hs.env t))
 rw [← mapOf_after, hH1def] at st
 obtain ⟨hH1, ev1⟩ := st
 have hgl1 : Glob cx (upd μ m (some lc)) W1 (mapOf hp1) := fun g => VA.ext ev1.ext (by rw [hcx.gl]; simp) (hs.glob g)
 -- the call
 have hK : ∀ q, mapOf (subK (mapOf hp1) ns) q = if q ∈ ns then mapOf hp1 q else none := mapOf_subK _ _
 obtain ⟨hKrel, _, ext⟩ := hH1.enter ns [] hK
 have hfv0 := hs.ev g
 rw [hev] at hfv0
 have hfv1 : VA μ w (ownOf μ (mapOf s.hp)) fv (a.eval g) := hfv0
 obtain ⟨fnv, first, caps, hfv⟩ : ∃ fn first caps, a.eval g = .func fn first caps := by
  cases fv <;> simp only [fnOf, reduceCtorEq] at hfn
  case fn f0 => exact ⟨_, _, _, hfv1⟩
  case app1 => obtain ⟨_, _, _, _, h, _⟩ := hfv1; exact ⟨_, _, _, h⟩
  case app2 => obtain ⟨_, _, _, _, h, _⟩ := hfv1; exact ⟨_, _, _, h⟩
 rw [hfv] at hfv1
 obtain ⟨rfl, hfirst, hcaps⟩ := fnOf_rel hfn hfv1 (vx := []) rfl (vy := []) rfl
 simp only [List.append_nil] at hfirst hcaps
 obtain ⟨mx, my⟩ := fnOf_men hfn hfm (by simp) (by simp)
 have e12 := ev1.ext.trans ext
 have offm : ∀ zs : List GA, (∀ x ∈ zs, x.men.contains m = false) → ∀ x ∈ zs, ∀ q ∈ x.men, (upd μ m (some lc)) q = μ q := by
  intro zs hz x hx q hq
  refine upd_other _ _ _ ?_
  rintro rfl
  have := hz x hx
  simp at this; exact this hq
 have hfirst' : VGs ⟨(upd μ m (some lc)).f, sideX (upd μ m (some lc)) (mapOf hp1) ns [], (upd μ m (some lc)).B⟩ W1 _ (gAts xs) first.toList := VL.gats (VL.ext' (μ := μ) e12 (offm xs mx) hfirst)
 have hcaps' : VGs ⟨(upd μ m (some lc)).f, sideX (upd μ m (some lc)) (mapOf hp1) ns [], (upd μ m (some lc)).B⟩ W1 _ (gAts ys) caps.toList := VL.gats (VL.ext' (μ := μ) e12 (offm ys my) hcaps)
 have hyl : VGs ⟨(upd μ m (some lc)).f, sideX (upd μ m (some lc)) (mapOf hp1) ns [], (upd μ m (some lc)).B⟩ W1 (ownOf ⟨(upd μ m (some lc)).f, sideX (upd μ m (some lc)) (mapOf hp1) ns [], (upd μ m (some lc)).B⟩ (mapOf (subK (mapOf hp1) ns))) [.r (.at (.yl m))] [.func (.yield (w.heap.size + 1)) #[] #[]] :=
  ⟨_, [], rfl, ⟨lc, upd_same .., rfl⟩, rfl⟩
 have hall := VGs.append (VGs.append hfirst' hyl) hcaps'
 obtain ⟨⟨fd, code, hf1, hf2, hf3⟩, hcalls⟩ := hcall
 have hcl := hcalls ⟨(upd μ m (some lc)).f, sideX (upd μ m (some lc)) (mapOf hp1) ns [], (upd μ m (some lc)).B⟩ W1 _ hKrel hall (fun g => VA.ext (μ := upd μ m (some lc)) ext (fun _ _ => rfl) (hgl1 g))
 have hfl : fd.name ≠ "runtime.NumGoroutine" := by simpa using hf2
 refine ⟨w.heap.size + 1, [{ target := .collected w.heap.size, args := #[] }], W1, { target := .fn (.func f) caps, args := first ++ #[Value.func (.yield (w.heap.size + 1)) #[] #[]] }, W1, f,
  (first.toList ++ [Value.func (.yield (w.heap.size + 1)) #[] #[]] ++ caps.toList).toArray, W1, ?_, ?_, fun f' _ => hcx.fn f', ?_, (by rw [hcx.dep]; intro h; cases h), ?_⟩
 ·rw [← hW1, hrec, hwide]; exact run_enterLoop_outer _ _ _ _ _
 ·simp only [resolve, Sem.run_bind, hfv, Deferred.ofValue, Sem.run_pure, Result.andThen_ok]
  simp [Act.eval]
 ·have e1 : first ++ #[Value.func (.yield (w.heap.size + 1)) #[] #[]] ++ caps = (first.toList ++ [Value.func (.yield (w.heap.size + 1)) #[] #[]] ++ caps.toList).toArray := by apply Array.ext'; simp
  simp only [invoke]
  simp [callFunc, hf1, hfl, hf3, ← e1]
 ·refine CallsIn.mono (hcx.calls hcl) ?_
  rintro e w2 ⟨cv, μc', rfl, hrel, hvv, hev', hkept⟩
  obtain ⟨μ2, r3, r1, r2, _⟩ := call_back (L := []) hH1 (fun _ _ => rfl) (by simp) hall0 hrodef hK'def hwf hwv (by simp) hro hrel hvv hev' hkept
  rw [← mapOf_after] at r1 r2
  obtain ⟨l2, tmps2, hl2, ⟨fn2, df2, hlp2⟩, _, _⟩ := r1.blk m _ hR2
  have hmoff : μ2 m = some lc := (r3 m (by simpa using hmm)).trans (upd_same ..)
  rw [hl2] at hmoff; cases hmoff
  have hlp2 : w2.heap[w.heap.size + 1]? = some (.loop { state := .ready, pending := none, fn := fn2, tmps := tmps2, params := R2.ps, assign := R2.asg, body := R2.body, defers := df2 }) := hlp2
  refine ⟨none, _, run_endLoop hlp2 (by simp), ?_⟩
  -- the record is given up
  generalize hp2def : wrsH _ (scrubH _ hp1) = hp2 at *
  have e : ∀ q, mapOf (putH m none hp2) q = if m = q then none else mapOf hp2 q := mapOf_putH _ _ _
  have hd : ∀ q, mapOf (putH m none hp2) q ≠ none → q ≠ m ∧ mapOf hp2 q ≠ none := by
   intro q hq
   rw [e] at hq
   split at hq
   ·exact absurd rfl hq
   ·rename_i h; exact ⟨fun h' => h h'.symm, hq⟩
  have own3 : ∀ b, ¬ ownOf μ2 (mapOf hp2) b → ¬ ownOf μ2 (mapOf (putH m none hp2)) b := by
   rintro b hb (hx | ⟨q, l, q1, q2, q3⟩)
   ·exact hb (.inl hx)
   ·exact hb (.inr ⟨q, l, (hd q q1).2, q2, q3⟩)
  have hne : ∀ b, ¬ ownOf μ2 (mapOf hp2) b → b ≠ w.heap.size + 1 := by
   rintro b hb rfl
   exact hb (.inr ⟨m, lc, by rw [hR2]; simp, hl2, rfl⟩)
  have ext3 : Ext (ownOf μ2 (mapOf hp2)) w2 (ownOf μ2 (mapOf (putH m none hp2))) (w2.putObj (w.heap.size + 1) (.loop { state := .exhausted, pending := none, fn := fn2, tmps := tmps2, params := R2.ps, assign := R2.asg, body := R2.body, defers := df2 })) :=
   ⟨by simp, fun b hb hn => World.putObj_heap_other (hne b hn), fun b _ => own3 b, rfl, rfl, rfl⟩
  have hX2 : μ2.X = μ.X := r2.X.trans ev1.X
  have hXne : ∀ b, μ.X b → b ≠ w.heap.size + 1 := fun b hb => by have := hs.heap.xlt b hb; omega
  have ev3 : Ev μ2 (mapOf hp2) w2 μ2 (mapOf (putH m none hp2)) (w2.putObj (w.heap.size + 1) (.loop { state := .exhausted, pending := none, fn := fn2, tmps := tmps2, params := R2.ps, assign := R2.asg, body := R2.body, defers := df2 })) :=
   ⟨ext3, rfl, rfl, fun b hb => World.putObj_heap_other (hXne b (by rwa [hX2] at hb))⟩
  have hH3 : HRel μ2 (w2.putObj (w.heap.size + 1) (.loop { state := .exhausted, pending := none, fn := fn2, tmps := tmps2, params := R2.ps, assign := R2.asg, body := R2.body, defers := df2 })) (mapOf (putH m none hp2)) := by
   refine ⟨fun q b hq => ?_, fun q q' l l' h1 h2 => r1.inj q q' l l' (hd q h1).2 (hd q' h2).2, fun q l h1 => r1.dis q l (hd q h1).2, fun b hb => by simpa using r1.xlt b hb⟩
   have hq' := (hd q (by rw [hq]; simp)).1
   have hq2 : mapOf hp2 q = some b := by rw [e, if_neg (fun h => hq' h.symm)] at hq; exact hq
   refine BRel.ext (μ := μ2) ext3 rfl (fun _ _ => rfl) (fun l hl => World.putObj_heap_other fun he => hq' ?_) (r1.blk q b hq2)
   exact r1.inj q m l lc (by rw [hq2]; simp) (by rw [hR2]; simp) hl hl2 he
  have evAll := (ev1.trans r2).trans ev3
  have hMm : m ∈ M := by simpa using hM
  refine k μ2 _ _ ⟨hH3, fun t => ?_, ?_, hs.size, fun g => VA.ext evAll.ext (by rw [hcx.gl]; simp) (hs.glob g)⟩ evAll fun q hq => ?_
  ·show VG μ2 _ _ (envOf (scrubE _ (scrubE [m] s.env)) t) _
   rw [envOf_scrubE, envOf_scrubE]
   have h1 := VG.scrub (ns := [m]) ev1.ext (fun q hq => upd_other μ m (some lc) (by simpa using hq)) (hs.env t)
   exact VG.ext (μ := μ2) ext3 (fun _ _ => rfl) (VG.scrub r2.ext r3 h1)
  ·-- the marks
   obtain ⟨b0, Ds, d1, d2, d3⟩ := hs.defers
   have hDn1 : ¬ ownOf (upd μ m (some lc)) (mapOf hp1) w.heap.size := by
    rintro (hx | ⟨q, l, q1, q2, q3⟩)
    ·have := hs.heap.xlt _ hx; omega
    ·by_cases hqm : q = m
     ·subst hqm; rw [upd_same] at q2; cases q2; have : w.heap.size + 1 = w.heap.size := q3; omega
     ·have h4 : mapOf s.hp q ≠ none := by
       intro h0
       refine q1 ?_
       rw [← hH1def, mapOf_after]
       simp only [after]
       rw [List.find?_cons_of_neg (by simpa using fun h => hqm h.symm), List.find?_nil, h0]; rfl
      rw [upd_other _ _ _ hqm] at q2
      cases hb : mapOf s.hp q with
      | none => exact h4 hb
      | some b => have := (hs.heap.blk q b hb).lt l q2; omega
   have hDlt : w.heap.size < W1.heap.size := by omega
   have e23 := r2.trans ev3
   have dOld := (DefOK.ext (μ := μ) (H := mapOf s.hp) (w := w) ⟨b0, Ds, d1, d2, d3⟩ evAll)
   obtain ⟨c0, Ds', c1, c2, c3⟩ := dOld
   refine ⟨c0, w.heap.size :: Ds, by rw [d1]; rfl, List.nodup_cons.2 ⟨fun hm => ?_, d2⟩, fun D hD => ?_⟩
   ·have := (Array.getElem?_eq_some_iff.1 (d3 _ hm).2.1).1; omega
   ·rcases List.mem_cons.1 hD with rfl | hD
    ·refine ⟨by rw [evAll.B]; exact b0, (e23.ext.keep _ hDlt hDn1).trans hD1, e23.ext.nown _ hDlt hDn1⟩
    ·obtain ⟨p1, p2, p3⟩ := d3 D hD
     have hlt := (Array.getElem?_eq_some_iff.1 p2).1
     exact ⟨by rw [evAll.B]; exact p1, (evAll.ext.keep D hlt p3).trans p2, evAll.ext.nown D hlt p3⟩
  ·rw [r3 q (fun h => hq (by simpa using List.all_eq_true.1 hMmv q h)), upd_other _ _ _ (fun h => hq (by rw [h]; exact hMm))]

end Go.Gh
