/- Code, and loops. -/
import Derived.Test.YtcaphjiiaclndaaGreatDoorGhZb
import Derived.LoopNIn

namespace Go.Gh
set_option linter.unusedVariables false
set_option linter.unusedSimpArgs false

def GExit.x : GExit → Exit
 | .normal => .normal
 | .exit i => .exit i
 | .ret => .ret

def Post (cx : Cx) (M : List Nat) (n : Nat) (H : Heap) (μ : Map) (w : World) (s' : GS) (K : Act → World → Prop) : Prop :=
 ∀ μ' a' w', SRL cx n s' μ' a' w' → Ev μ H w μ' (mapOf s'.hp) w' → (∀ m, m ∉ M → μ' m = μ m) → K a' w'

def Ex (cx : Cx) (M : List Nat) (n : Nat) (c : Code) (s : GS) (e : GExit) (s' : GS) : Prop :=
 ∀ (μ : Map) (a : Act) (w : World) (Q : Exit → Act → World → Prop), SRL cx n s μ a w → Post cx M n (mapOf s.hp) μ w s' (Q e.x) → c.wpIn cx.F 0 cx.P Q a w

def Lp (cx : Cx) (M : List Nat) (n : Nat) (b : Code) (s : GS) (e : GExit) (s' : GS) : Prop :=
 ∃ k, ∀ (μ : Map) (a : Act) (w : World) (Q : Exit → Act → World → Prop), SRL cx n s μ a w → Post cx M n (mapOf s.hp) μ w s' (Q e.x) → Code.roundsIn cx.F 0 cx.P b Q k a w

section
variable {cx : Cx} {M : List Nat} {n : Nat}

theorem Post.step {s s1 s' : GS} {μ μ1 : Map} {w w1 : World} {K : Act → World → Prop} (h : Post cx M n (mapOf s.hp) μ w s' K) (ev : Ev μ (mapOf s.hp) w μ1 (mapOf s1.hp) w1) (hm : ∀ m, m ∉ M → μ1 m = μ m) : Post cx M n (mapOf s1.hp) μ1 w1 s' K :=
 fun μ' a' w' g1 g2 g3 => h μ' a' w' g1 (ev.trans g2) fun m k => (g3 m k).trans (hm m k)

theorem Lp.out {b : Code} {s s' : GS} {e : GExit} (h : Ex cx M n b s e s') (he : e ≠ .normal) : Lp cx M n b s e s' :=
 ⟨1, fun μ a w Q hs hp => h μ a w _ hs fun μ' a' w' g1 g2 g3 => by
  have := hp μ' a' w' g1 g2 g3
  cases e with
  | normal => exact absurd rfl he
  | exit i => exact this
  | ret => exact this⟩

theorem Lp.again {b : Code} {s s1 s' : GS} {e : GExit} (h : Ex cx M n b s .normal s1) (k : Lp cx M n b s1 e s') : Lp cx M n b s e s' := by
 obtain ⟨k, hk⟩ := k
 exact ⟨k + 1, fun μ a w Q hs hp => h μ a w _ hs fun μ' a' w' g1 g2 g3 => hk μ' a' w' Q g1 (hp.step g2 g3)⟩

theorem Lp.ex {b : Code} {s s' : GS} {e : GExit} (h : Lp cx M n b s e s') : Ex cx M n (.loop b) s e s' := by
 obtain ⟨k, hk⟩ := h
 exact fun μ a w Q hs hp => wpIn_loop_rounds k (hk μ a w Q hs hp)
end

def loopsOf : Code → List Code
 | .seq a b => loopsOf a ++ loopsOf b
 | .cond c a b => .cond c a b :: (loopsOf a ++ loopsOf b)
 | .block i b => .block i b :: loopsOf b
 | .loop b => b :: loopsOf b
 | .scope b => loopsOf b
 | .rangeFunc _ _ a b => a :: b :: (loopsOf a ++ loopsOf b)
 | _ => []

def part (fn : Func) (k : Nat) : Code := match fn.body with | some c => (loopsOf c).getD k .skip | none => .skip

def gCos (M : List Nat) : List En → GS → Option (GS × List Prop × List En)
 | .co c :: es, s => (match gCo M s c with
  | some (s1, cs1) => (match gCos M es s1 with
   | some (s2, cs2, es2) => some (s2, cs1 ++ cs2, es2)
   | none => none)
  | none => none)
 | es, s => some (s, [], es)

theorem gCos_ok {cx : Cx} (hcx : CxOK cx) {M : List Nat} {n : Nat} : {es es' : List En} → {s s' : GS} → {cs : List Prop} → gCos M es s = some (s', cs, es') → AllP cs → ∀ {μ : Map} {a : Act} {w : World}, SRL cx n s μ a w →
  ∃ μ', SRL cx n s' μ' a w ∧ Ev μ (mapOf s.hp) w μ' (mapOf s'.hp) w ∧ ∀ m, m ∉ M → μ' m = μ m
 | .co c :: es, es', s, s', cs, h, hc, μ, a, w, hs => by
  simp only [gCos] at h
  split at h
  rotate_left
  ·cases h
  rename_i s1 cs1 h1
  split at h
  rotate_left
  ·cases h
  rename_i s2 cs2 es2 h2
  simp only [Option.some.injEq, Prod.mk.injEq] at h; obtain ⟨rfl, rfl, rfl⟩ := h
  obtain ⟨hc1, hc2⟩ := AllP.append hc
  obtain ⟨μ1, g1, g2, g3⟩ := gCo_ok hcx h1 hc1 hs
  obtain ⟨μ2, k1, k2, k3⟩ := gCos_ok hcx h2 hc2 g1
  exact ⟨μ2, k1, g2.trans k2, fun m hm => (k3 m hm).trans (g3 m hm)⟩
 | [], es', s, s', cs, h, hc, μ, a, w, hs => by
  simp only [gCos, Option.some.injEq, Prod.mk.injEq] at h; obtain ⟨rfl, rfl, rfl⟩ := h
  exact ⟨μ, hs, .refl, fun _ _ => rfl⟩
 | .br _ :: _, es', s, s', cs, h, hc, μ, a, w, hs | .v _ :: _, es', s, s', cs, h, hc, μ, a, w, hs | .nm _ :: _, es', s, s', cs, h, hc, μ, a, w, hs
 | .call .. :: _, es', s, s', cs, h, hc, μ, a, w, hs | .lp .. :: _, es', s, s', cs, h, hc, μ, a, w, hs | .one :: _, es', s, s', cs, h, hc, μ, a, w, hs | .two :: _, es', s, s', cs, h, hc, μ, a, w, hs | .thr :: _, es', s, s', cs, h, hc, μ, a, w, hs | .reg :: _, es', s, s', cs, h, hc, μ, a, w, hs => by
  simp only [gCos, Option.some.injEq, Prod.mk.injEq] at h; obtain ⟨rfl, rfl, rfl⟩ := h
  exact ⟨μ, hs, .refl, fun _ _ => rfl⟩

abbrev GRes := Option (GExit × GS × List Prop × List En)

def withCo (M : List Nat) (s : GS) (es : List En) (f : GS → List En → GRes) : GRes :=
 match gCos M es s with
 | some (s0, cs0, es0) => (match f s0 es0 with
  | some (e, s1, cs1, es1) => some (e, s1, cs0 ++ cs1, es1)
  | none => none)
 | none => none

def dropReg : List En → List En
 | .reg :: es => es
 | es => es

def gPre (M : List Nat) (es : List En) (s : GS) : Option (GS × List Prop × List En) :=
 match es with
 | .reg :: es' => (match gCos M es' s with
  | some (s1, cs1, es1) => some (s1, cs1, dropReg es1)
  | none => none)
 | es => some (s, [], es)

theorem gPre_ok {cx : Cx} (hcx : CxOK cx) {M : List Nat} {n : Nat} {es es' : List En} {s s' : GS} {cs : List Prop} (h : gPre M es s = some (s', cs, es')) (hc : AllP cs) {μ : Map} {a : Act} {w : World} (hs : SRL cx n s μ a w) :
  ∃ μ', SRL cx n s' μ' a w ∧ Ev μ (mapOf s.hp) w μ' (mapOf s'.hp) w ∧ ∀ m, m ∉ M → μ' m = μ m := by
 unfold gPre at h
 split at h
 ·split at h
  ·rename_i h1
   simp only [Option.some.injEq, Prod.mk.injEq] at h; obtain ⟨rfl, rfl, rfl⟩ := h
   exact gCos_ok hcx h1 hc hs
  ·cases h
 ·simp only [Option.some.injEq, Prod.mk.injEq] at h; obtain ⟨rfl, rfl, rfl⟩ := h
  exact ⟨μ, hs, .refl, fun _ _ => rfl⟩

def isCallV (o : Oper) : Bool :=
 match o.op with
 | .call c => (match c.callee with | .value _ => true | _ => false)
 | _ => false

def gPreO (M : List Nat) (o : Oper) (es : List En) (s : GS) : Option (GS × List Prop × List En) :=
 match isCallV o with
 | true => gPre M es s
 | false => some (s, [], es)

theorem gPreO_ok {cx : Cx} (hcx : CxOK cx) {M : List Nat} {n : Nat} {o : Oper} {es es' : List En} {s s' : GS} {cs : List Prop} (h : gPreO M o es s = some (s', cs, es')) (hc : AllP cs) {μ : Map} {a : Act} {w : World} (hs : SRL cx n s μ a w) :
  ∃ μ', SRL cx n s' μ' a w ∧ Ev μ (mapOf s.hp) w μ' (mapOf s'.hp) w ∧ ∀ m, m ∉ M → μ' m = μ m := by
 unfold gPreO at h
 split at h
 ·exact gPre_ok hcx h hc hs
 ·simp only [Option.some.injEq, Prod.mk.injEq] at h; obtain ⟨rfl, rfl, rfl⟩ := h
  exact ⟨μ, hs, .refl, fun _ _ => rfl⟩

def gOpsC (cx : Cx) (M : List Nat) (n : Nat) (ops : Array Oper) : List Oper → GS → List En → Option (GS × List Prop × List En)
 | [], s, es => some (s, [], es)
 | o :: l, s, es => (match gPreO M o es s with
  | some (s0, cs0, es0) => (match gStep cx M n ops o s0 es0 with
   | some (s1, cs1, es1) => (match gOpsC cx M n ops l s1 es1 with
    | some (s2, cs2, es2) => some (s2, cs0 ++ (cs1 ++ cs2), es2)
    | none => none)
   | none => none)
  | none => none)

theorem gOpsC_ok {cx : Cx} (hcx : CxOK cx) {M : List Nat} {n : Nat} {ops : Array Oper} : {l : List Oper} → {s s' : GS} → {es es' : List En} → {cs : List Prop} → gOpsC cx M n ops l s es = some (s', cs, es') → AllP cs →
  ∀ {μ : Map} {a : Act} {w : World} {Q : Exit → Act → World → Prop}, SRL cx n s μ a w →
  (∀ μ' a' w', SRL cx n s' μ' a' w' → Ev μ (mapOf s.hp) w μ' (mapOf s'.hp) w' → (∀ m, m ∉ M → μ' m = μ m) → Q .normal a' w') → wpListIn cx.F 0 cx.P ops Q l a w
 | [], s, s', es, es', cs, h, _, μ, a, w, Q, hs, k => by
  simp only [gOpsC, Option.some.injEq, Prod.mk.injEq] at h
  obtain ⟨rfl, rfl, rfl⟩ := h
  exact k μ a w hs .refl fun _ _ => rfl
 | o :: l, s, s', es, es', cs, h, hc, μb, a, w, Q, hsb, k => by
  simp only [gOpsC] at h
  split at h
  rotate_left
  ·cases h
  rename_i s0 cs0 es0 h0
  split at h
  rotate_left
  ·cases h
  rename_i s1 cs1 es1 h1
  split at h
  rotate_left
  ·cases h
  rename_i s2 cs2 es2 h2
  simp only [Option.some.injEq, Prod.mk.injEq] at h
  obtain ⟨rfl, rfl, rfl⟩ := h
  obtain ⟨hc0, hc⟩ := AllP.append hc
  obtain ⟨hc1, hc2⟩ := AllP.append hc
  obtain ⟨μ, hs, k2, k3⟩ := gPreO_ok hcx h0 hc0 hsb
  unfold gStep at h1
  split at h1
  rotate_left
  ·cases h1
  rename_i hd
  have hd := dstOK_spec hd
  show if Region.wanted o (yielded ops a.tmps) then _ else _
  split at h1
  ·rename_i cs3 es3 hw
   split at h1
   rotate_left
   ·cases h1
   rename_i R es4 hg
   split at h1
   rotate_left
   ·cases h1
   rename_i hmv
   simp only [Option.some.injEq, Prod.mk.injEq] at h1
   obtain ⟨rfl, rfl, rfl⟩ := h1
   obtain ⟨hc3, hc4⟩ := AllP.append hc1
   rw [if_pos (gWant_ok hs hw hc3 fun _ _ _ _ _ => rfl)]
   refine (SR.op hcx hs (gAny_ok hcx hg hc4 (gAny_rd hg) (fun x _ => hs.ev x) hs.heap hs.glob) hd fun μ' a' w' g1 g2 g3 => ?_)
   have hmv' : ∀ m, m ∉ M → m ∉ R.mv := fun m hm h => hm (by simpa using List.all_eq_true.1 hmv m h)
   rw [← mapOf_after] at g1 g2
   rw [← setE_fun] at g1
   exact gOpsC_ok hcx h2 hc2 g1 fun μ'' a'' w'' e1 e2 e3 => k μ'' a'' w'' e1 (k2.trans (g2.trans e2)) fun m hm => (e3 m hm).trans ((g3 m (hmv' m hm)).trans (k3 m hm))
  ·rename_i cs3 es3 hw
   simp only [Option.some.injEq, Prod.mk.injEq] at h1
   obtain ⟨rfl, rfl, rfl⟩ := h1
   rw [if_neg (by rw [gWant_ok hs hw hc1 fun _ _ _ _ _ => rfl]; simp)]
   refine ⟨fun f _ => hcx.fn f, ?_⟩
   have g1 := hs.skip hd
   have e : (fun t => if o.dst = some t then G.a .unit0 else envOf s0.env t) = envOf (setE s0.env o.dst (.a .unit0)) := by funext t; rw [envOf_setE]
   rw [e] at g1
   exact gOpsC_ok hcx h2 hc2 (s := ⟨setE s0.env o.dst (.a .unit0), s0.hp⟩) g1 fun μ'' a'' w'' e1 e2 e3 => k μ'' a'' w'' e1 (k2.trans e2) fun m hm => (e3 m hm).trans (k3 m hm)
  ·cases h1

theorem regionC_ok {cx : Cx} (hcx : CxOK cx) {M : List Nat} {n id : Nat} {ops : Array Oper} {s s' : GS} {es es' : List En} {cs : List Prop} (h : gOpsC cx M n ops ops.toList s es = some (s', cs, es')) (hc : AllP cs)
  {μ : Map} {a : Act} {w : World} {Q : Exit → Act → World → Prop} (hs : SRL cx n s μ a w) (k : ∀ μ' a' w', SRL cx n s' μ' a' w' → Ev μ (mapOf s.hp) w μ' (mapOf s'.hp) w' → (∀ m, m ∉ M → μ' m = μ m) → Q .normal a' w') :
  (Code.region id ops false).wpIn cx.F 0 cx.P Q a w :=
 wpIn_region_list (gOpsC_ok hcx h hc hs k)

def preCo (M : List Nat) (s : GS) (es : List En) (f : GS → List En → GRes) : GRes :=
 match es with
 | .reg :: es' => withCo M s es' fun s es => f s (dropReg es)
 | _ => f s es

def gReg (cx : Cx) (M : List Nat) (n : Nat) (ops : Array Oper) (draw : Bool) (s : GS) (es : List En) : GRes :=
 match draw with
 | true => (match gRecs cx M n ops ops.toList [] s es with
  | some (rs, s', cs, es') => if drawOK s rs = true then some (.normal, s', cs, es') else none
  | none => none)
 | false => (match gOpsC cx M n ops ops.toList s es with
  | some (s', cs, es') => some (.normal, s', cs, es')
  | none => none)

theorem stepR_scope {P : Program} {b : Frame} {a : Act} {k : List Item} {cs : List Frame} {w : World} {c : Code} : step P (lone (b.atR a (.code (.scope c) :: k)) cs w) = .next (lone (b.atR a (.code c :: .inScope c :: k)) cs w) :=
 step_lone_go (by simp [stepG, stepG.exec, Frame.atR])
theorem stepR_inScope {P : Program} {b : Frame} {a : Act} {k : List Item} {cs : List Frame} {w : World} {c : Code} : step P (lone (b.atR a (.inScope c :: k)) cs w) = .next (lone (b.atR a k) cs w) :=
 step_lone_go (by simp [stepG, stepG.exec, Frame.atR])

def noGoto (Q : Exit → Act → World → Prop) : Exit → Act → World → Prop
 | .goto _, _, _ => False
 | e, a, w => Q e a w

theorem wpIn_scope {F : Fence} {n : Nat} {P : Program} {Q : Exit → Act → World → Prop} {a : Act} {w : World} {c : Code} (h : c.wpIn F n P (noGoto Q) a w) : (Code.scope c).wpIn F n P Q a w := by
 intro b k cs hro hb hr
 have h0 : (lone (b.atR a (.code (.scope c) :: k)) cs w).fenced P F := fenced_calm hb hr rfl
 obtain ⟨e, a₁, w₁, hq, harr⟩ := h b (.inScope c :: k) cs hro hb hr
 cases e with
 | normal => exact ⟨.normal, a₁, w₁, hq, .head h0 stepR_scope (StepsIn.trans harr (.one (fenced_calm hb hr rfl) stepR_inScope))⟩
 | exit id' =>
  have hx : exitTo id' (.inScope c :: k) = exitTo id' k := by simp [exitTo]
  exact ⟨.exit id', a₁, w₁, hq, fun k' hk => .head h0 stepR_scope (harr.1 k' (by rw [hx]; exact hk)),
   fun hr' hk => let ⟨k₁, h1, h2⟩ := harr.2 hr' (by rw [hx]; exact hk); ⟨k₁, h1, .head h0 stepR_scope h2⟩⟩
 | goto l => exact hq.elim
 | ret => exact ⟨_, a₁, w₁, hq, .of_steps (.one h0 stepR_scope) harr⟩
 | panic ch => exact ⟨_, a₁, w₁, hq, .of_steps (.one h0 stepR_scope) harr⟩
 | outgrown => exact ⟨_, a₁, w₁, hq, .of_steps (.one h0 stepR_scope) harr⟩

def leaves (id : Nat) : GExit → GExit
 | .exit j => if Nat.beq j id = true then .normal else .exit j
 | e => e

def gIter (M : List Nat) (f : GS → List En → GRes) (L : GS → GExit → GS → Prop) : Nat → GS → List En → GRes
 | 0, _, _ => none
 | k + 1, s, es => withCo M s es fun s es => (match es with
  | .lp e env hp :: es' => some (e, ⟨env, hp⟩, [L s e ⟨env, hp⟩], es')
  | .two :: es' => (match f s es' with
   | some (.normal, s1, cs1, es1) => (match gIter M f L k s1 es1 with
    | some (e, s2, cs2, es2) => some (e, s2, cs1 ++ cs2, es2)
    | none => none)
   | some r => some r
   | none => none)
  | _ => none)

def gCode (cx : Cx) (M : List Nat) (n : Nat) : Code → GS → List En → GRes
 | .skip, s, es => some (.normal, s, [], es)
 | .region id ops draw, s, es => preCo M s es fun s es => (match es with
  | .lp e env hp :: es' => some (e, ⟨env, hp⟩, [Ex cx M n (.region id ops draw) s e ⟨env, hp⟩], es')
  | _ => gReg cx M n ops draw s es)
 | .seq x y, s, es => (match gCode cx M n x s es with
  | some (.normal, s1, cs1, es1) => (match gCode cx M n y s1 es1 with
   | some (e, s2, cs2, es2) => some (e, s2, cs1 ++ cs2, es2)
   | none => none)
  | some r => some r
  | none => none)
 | .cond c x y, s, es => withCo M s es fun s es => (match evG (envOf s.env) cx.gl c, es with
  | _, .lp e env hp :: es' => some (e, ⟨env, hp⟩, [Ex cx M n (.cond c x y) s e ⟨env, hp⟩], es')
  | .r (.at (.bool cb)), .br d :: es' => (match (match d with | true => gCode cx M n x s es' | false => gCode cx M n y s es') with
   | some (e, s1, cs1, es1) => some (e, s1, (cb = d) :: cs1, es1)
   | none => none)
  | _, _ => none)
 | .block id b, s, es => preCo M s es fun s es => (match es with
  | .lp e env hp :: es' => some (e, ⟨env, hp⟩, [Ex cx M n (.block id b) s e ⟨env, hp⟩], es')
  | _ => (match gCode cx M n b s es with
   | some (e, s1, cs1, es1) => some (leaves id e, s1, cs1, es1)
   | none => none))
 | .loop b, s, es => gIter M (gCode cx M n b) (fun s e s' => Lp cx M n b s e s') (es.length + 1) s es
 | .exit id, s, es => some (.exit id, s, [], es)
 | .ret, s, es => some (.ret, s, [], es)
 | .scope b, s, es => gCode cx M n b s es
 | .label _, s, es => some (.normal, s, [], es)
 | .rangeFunc g ps x y, s, es => withCo M s es fun s es => (match gRange cx M n g ps x y s es with
  | some (s', cs, es') => some (.normal, s', cs, es')
  | none => none)
 | _, _, _ => none

section
variable {cx : Cx} {M : List Nat} {n : Nat}

theorem Ex.co (hcx : CxOK cx) {c : Code} {s s' : GS} {es es' : List En} {f : GS → List En → GRes} {e : GExit} {cs : List Prop} (h : withCo M s es f = some (e, s', cs, es')) (hc : AllP cs)
  (hf : ∀ s0 es0 cs0, f s0 es0 = some (e, s', cs0, es') → AllP cs0 → Ex cx M n c s0 e s') : Ex cx M n c s e s' := by
 unfold withCo at h
 split at h
 rotate_left
 ·cases h
 rename_i s0 cs0 es0 h0
 split at h
 rotate_left
 ·cases h
 rename_i e1 s1 cs1 es1 h1
 simp only [Option.some.injEq, Prod.mk.injEq] at h; obtain ⟨rfl, rfl, rfl, rfl⟩ := h
 obtain ⟨hc1, hc2⟩ := AllP.append hc
 intro μ a w Q hs hp
 obtain ⟨μ1, g1, g2, g3⟩ := gCos_ok hcx h0 hc1 hs
 exact hf s0 es0 cs1 h1 hc2 μ1 a w Q g1 (hp.step g2 g3)

theorem Ex.pre (hcx : CxOK cx) {c : Code} {s s' : GS} {es es' : List En} {f : GS → List En → GRes} {e : GExit} {cs : List Prop} (h : preCo M s es f = some (e, s', cs, es')) (hc : AllP cs)
  (hf : ∀ s0 es0 cs0, f s0 es0 = some (e, s', cs0, es') → AllP cs0 → Ex cx M n c s0 e s') : Ex cx M n c s e s' := by
 unfold preCo at h
 split at h
 ·exact Ex.co hcx h hc fun s0 es0 cs0 h0 hc0 => hf s0 _ cs0 h0 hc0
 ·exact hf _ _ _ h hc

theorem Lp.co (hcx : CxOK cx) {b : Code} {s s' : GS} {es es' : List En} {f : GS → List En → GRes} {e : GExit} {cs : List Prop} (h : withCo M s es f = some (e, s', cs, es')) (hc : AllP cs)
  (hf : ∀ s0 es0 cs0, f s0 es0 = some (e, s', cs0, es') → AllP cs0 → Lp cx M n b s0 e s') : Lp cx M n b s e s' := by
 unfold withCo at h
 split at h
 rotate_left
 ·cases h
 rename_i s0 cs0 es0 h0
 split at h
 rotate_left
 ·cases h
 rename_i e1 s1 cs1 es1 h1
 simp only [Option.some.injEq, Prod.mk.injEq] at h; obtain ⟨rfl, rfl, rfl, rfl⟩ := h
 obtain ⟨hc1, hc2⟩ := AllP.append hc
 obtain ⟨k, hk⟩ := hf s0 es0 cs1 h1 hc2
 refine ⟨k, fun μ a w Q hs hp => ?_⟩
 obtain ⟨μ1, g1, g2, g3⟩ := gCos_ok hcx h0 hc1 hs
 exact hk μ1 a w Q g1 (hp.step g2 g3)

theorem gIter_ok (hcx : CxOK cx) {b : Code} (hb : ∀ {s s' : GS} {es es' : List En} {e : GExit} {cs : List Prop}, gCode cx M n b s es = some (e, s', cs, es') → AllP cs → Ex cx M n b s e s') :
  ∀ (k : Nat) {s s' : GS} {es es' : List En} {e : GExit} {cs : List Prop}, gIter M (gCode cx M n b) (fun s e s' => Lp cx M n b s e s') k s es = some (e, s', cs, es') → AllP cs → Lp cx M n b s e s'
 | 0, s, s', es, es', e, cs, h, _ => by simp [gIter] at h
 | k + 1, s, s', es, es', e, cs, h, hc => by
  simp only [gIter] at h
  refine Lp.co hcx h hc fun s0 es0 cs0 h0 hc0 => ?_
  split at h0
  ·simp only [Option.some.injEq, Prod.mk.injEq] at h0; obtain ⟨rfl, rfl, rfl, rfl⟩ := h0
   exact hc0.1
  ·split at h0
   ·rename_i s1 cs1 es1 h1
    split at h0
    rotate_left
    ·cases h0
    rename_i e2 s2 cs2 es2 h2
    simp only [Option.some.injEq, Prod.mk.injEq] at h0; obtain ⟨rfl, rfl, rfl, rfl⟩ := h0
    obtain ⟨hc1, hc2⟩ := AllP.append hc0
    exact Lp.again (hb h1 hc1) (gIter_ok hcx hb k h2 hc2)
   ·rename_i r hne h1
    simp only [Option.some.injEq] at h0; subst h0
    exact Lp.out (hb h1 hc0) fun he => by subst he; exact hne _ _ _ rfl
   ·cases h0
  ·cases h0

theorem gCode_ok (hcx : CxOK cx) : {c : Code} → {s s' : GS} → {es es' : List En} → {e : GExit} → {cs : List Prop} → gCode cx M n c s es = some (e, s', cs, es') → AllP cs → Ex cx M n c s e s'
 | .skip, s, s', es, es', e, cs, h, hc => by
  simp only [gCode, Option.some.injEq, Prod.mk.injEq] at h; obtain ⟨rfl, rfl, rfl, rfl⟩ := h
  exact fun μ a w Q hs hp => wpIn_skip (hp μ a w hs .refl fun _ _ => rfl)
 | .region id ops draw, s, s', es, es', e, cs, h, hc => by
  simp only [gCode] at h
  refine Ex.pre hcx h hc fun s0 es0 cs0 h0 hc0 => ?_
  split at h0
  ·simp only [Option.some.injEq, Prod.mk.injEq] at h0; obtain ⟨rfl, rfl, rfl, rfl⟩ := h0
   exact hc0.1
  unfold gReg at h0
  split at h0
  ·split at h0
   rotate_left
   ·cases h0
   rename_i h1
   split at h0
   rotate_left
   ·cases h0
   rename_i hd
   simp only [Option.some.injEq, Prod.mk.injEq] at h0; obtain ⟨rfl, rfl, rfl, rfl⟩ := h0
   exact fun μ a w Q hs hp => region_draw_ok hcx h1 hd hc0 hs hp
  ·split at h0
   rotate_left
   ·cases h0
   rename_i h1
   simp only [Option.some.injEq, Prod.mk.injEq] at h0; obtain ⟨rfl, rfl, rfl, rfl⟩ := h0
   exact fun μ a w Q hs hp => regionC_ok hcx h1 hc0 hs hp
 | .seq x y, s, s', es, es', e, cs, h, hc => by
  simp only [gCode] at h
  split at h
  ·rename_i s1 cs1 es1 h1
   split at h
   rotate_left
   ·cases h
   rename_i e2 s2 cs2 es2 h2
   simp only [Option.some.injEq, Prod.mk.injEq] at h; obtain ⟨rfl, rfl, rfl, rfl⟩ := h
   obtain ⟨hc1, hc2⟩ := AllP.append hc
   exact fun μ a w Q hs hp => wpIn_seq (gCode_ok hcx h1 hc1 μ a w _ hs fun μ' a' w' g1 g2 g3 => gCode_ok hcx h2 hc2 μ' a' w' Q g1 (hp.step g2 g3))
  ·rename_i r hne h1
   simp only [Option.some.injEq] at h; subst h
   refine fun μ a w Q hs hp => wpIn_seq (gCode_ok hcx h1 hc μ a w _ hs fun μ' a' w' g1 g2 g3 => ?_)
   have := hp μ' a' w' g1 g2 g3
   cases e with
   | normal => exact absurd rfl (hne _ _ _)
   | exit i => exact this
   | ret => exact this
  ·cases h
 | .cond c x y, s, s', es, es', e, cs, h, hc => by
  simp only [gCode] at h
  refine Ex.co hcx h hc fun s0 es0 cs0 h0 hc0 => ?_
  split at h0
  ·simp only [Option.some.injEq, Prod.mk.injEq] at h0; obtain ⟨rfl, rfl, rfl, rfl⟩ := h0
   exact hc0.1
  rotate_left
  ·cases h0
  rename_i cb d es1 hev
  split at h0
  rotate_left
  ·cases h0
  rename_i e2 s2 cs2 es2 h2
  simp only [Option.some.injEq, Prod.mk.injEq] at h0; obtain ⟨rfl, rfl, rfl, rfl⟩ := h0
  obtain ⟨rfl, hc2⟩ := hc0
  intro μ a w Q hs hp
  have hcv := hs.ev c
  rw [hev] at hcv
  have hcv' : a.eval c = .bool cb := hcv
  refine wpIn_cond hcv' ?_
  cases cb with
  | true => exact gCode_ok hcx h2 hc2 μ a w Q hs hp
  | false => exact gCode_ok hcx h2 hc2 μ a w Q hs hp
 | .block id b, s, s', es, es', e, cs, h, hc => by
  simp only [gCode] at h
  refine Ex.pre hcx h hc fun s0 es0 cs0 h0 hc0 => ?_
  split at h0
  ·simp only [Option.some.injEq, Prod.mk.injEq] at h0; obtain ⟨rfl, rfl, rfl, rfl⟩ := h0
   exact hc0.1
  split at h0
  rotate_left
  ·cases h0
  rename_i e1 s1 cs1 es1 h1
  simp only [Option.some.injEq, Prod.mk.injEq] at h0; obtain ⟨rfl, rfl, rfl, rfl⟩ := h0
  refine fun μ a w Q hs hp => wpIn_block (gCode_ok hcx h1 hc0 μ a w _ hs fun μ' a' w' g1 g2 g3 => ?_)
  have := hp μ' a' w' g1 g2 g3
  cases e1 with
  | normal => exact this
  | ret => exact this
  | exit i =>
   simp only [leaves] at this
   show if i = id then Q .normal a' w' else Q (.exit i) a' w'
   by_cases hi : i = id
   ·subst hi; rw [if_pos rfl]; rw [if_pos (Nat.beq_refl i)] at this; exact this
   ·have hb : Nat.beq i id = false := by
     cases hb : Nat.beq i id with
     | false => rfl
     | true => exact absurd (Nat.eq_of_beq_eq_true hb) hi
    rw [if_neg hi]; rw [hb] at this; exact this
 | .loop b, s, s', es, es', e, cs, h, hc => by
  simp only [gCode] at h
  exact (gIter_ok hcx (fun h hc => gCode_ok hcx h hc) _ h hc).ex
 | .exit id, s, s', es, es', e, cs, h, hc => by
  simp only [gCode, Option.some.injEq, Prod.mk.injEq] at h; obtain ⟨rfl, rfl, rfl, rfl⟩ := h
  exact fun μ a w Q hs hp => wpIn_exit (hp μ a w hs .refl fun _ _ => rfl)
 | .ret, s, s', es, es', e, cs, h, hc => by
  simp only [gCode, Option.some.injEq, Prod.mk.injEq] at h; obtain ⟨rfl, rfl, rfl, rfl⟩ := h
  exact fun μ a w Q hs hp => wpIn_ret (hp μ a w hs .refl fun _ _ => rfl)
 | .rangeFunc g ps x y, s, s', es, es', e, cs, h, hc => by
  simp only [gCode] at h
  refine Ex.co hcx h hc fun s0 es0 cs0 h0 hc0 => ?_
  split at h0
  rotate_left
  ·cases h0
  rename_i s1 cs1 es1 h1
  simp only [Option.some.injEq, Prod.mk.injEq] at h0; obtain ⟨rfl, rfl, rfl, rfl⟩ := h0
  exact fun μ a w Q hs hp => range_ok hcx h1 hc0 hs hp
 | .scope b, s, s', es, es', e, cs, h, hc => by
  simp only [gCode] at h
  refine fun μ a w Q hs hp => wpIn_scope (gCode_ok hcx h hc μ a w _ hs fun μ' a' w' g1 g2 g3 => ?_)
  have := hp μ' a' w' g1 g2 g3
  cases e <;> exact this
 | .label _, s, s', es, es', e, cs, h, hc => by
  simp only [gCode, Option.some.injEq, Prod.mk.injEq] at h; obtain ⟨rfl, rfl, rfl, rfl⟩ := h
  exact fun μ a w Q hs hp => wpIn_label (hp μ a w hs .refl fun _ _ => rfl)
 | .goto _, s, s', es, es', e, cs, h, hc | .refuse _, s, s', es, es', e, cs, h, hc => by
  simp [gCode] at h

def gRun (cx : Cx) (M : List Nat) (n : Nat) (c : Code) (s : GS) (es : List En) : Option (GExit × GS × List Prop) :=
 match gCode cx M n c s es with
 | some (e, s1, cs1, es1) => (match gCos M es1 s1 with
  | some (s2, cs2, []) => some (e, s2, cs1 ++ cs2)
  | _ => none)
 | none => none

theorem gRun_ok (hcx : CxOK cx) {c : Code} {s s' : GS} {es : List En} {e : GExit} {cs : List Prop} (h : gRun cx M n c s es = some (e, s', cs)) (hc : AllP cs) : Ex cx M n c s e s' := by
 unfold gRun at h
 split at h
 rotate_left
 ·cases h
 rename_i e1 s1 cs1 es1 h1
 split at h
 rotate_left
 ·cases h
 rename_i s2 cs2 h2
 simp only [Option.some.injEq, Prod.mk.injEq] at h; obtain ⟨rfl, rfl, rfl⟩ := h
 obtain ⟨hc1, hc2⟩ := AllP.append hc
 intro μ a w Q hs hp
 refine gCode_ok hcx h1 hc1 μ a w Q hs fun μ' a' w' g1 g2 g3 => ?_
 obtain ⟨μ1, k1, k2, k3⟩ := gCos_ok hcx h2 hc2 g1
 exact hp μ1 a' w' k1 (g2.trans k2) fun m hm => (k3 m hm).trans (g3 m hm)
end

end Go.Gh
