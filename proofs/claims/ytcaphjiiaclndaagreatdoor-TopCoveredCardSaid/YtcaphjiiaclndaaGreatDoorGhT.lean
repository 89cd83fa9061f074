/- A region whose order is fixed. -/
import Derived.Test.YtcaphjiiaclndaaGreatDoorGhS
import Derived.Orders
import Derived.TacticsIn
namespace Go.Gh
set_option linter.unusedVariables false
set_option linter.unusedSimpArgs false

def dstOK (n : Nat) (d : Option Tmp) : Bool := match d with | some d => Nat.blt d n | none => true

theorem dstOK_spec {n : Nat} {d : Option Tmp} (h : dstOK n d = true) : ∀ t, d = some t → t < n := by
 rintro t rfl
 have h1 : t + 1 ≤ n := by simpa [dstOK, Nat.blt] using h
 exact h1

def gStep (cx : Cx) (M : List Nat) (n : Nat) (ops : Array Oper) (o : Oper) (s : GS) (es : List En) : Option (GS × List Prop × List En) :=
 if dstOK n o.dst = true then
  match gWant ops o (envOf s.env) es with
  | some (true, cs, es1) => (match gAny cx o (evG (envOf s.env) cx.gl) (mapOf s.hp) es1 with
   | some (R, es2) => if R.mv.all M.contains = true then some (⟨setE (scrubE R.mv s.env) o.dst R.val, wrsH R.wr (scrubH R.mv s.hp)⟩, cs ++ R.cs, es2) else none
   | none => none)
  | some (false, cs, es1) => some (⟨setE s.env o.dst (.a .unit0), s.hp⟩, cs, es1)
  | none => none
 else none

def gOps (cx : Cx) (M : List Nat) (n : Nat) (ops : Array Oper) : List Oper → GS → List En → Option (GS × List Prop × List En)
 | [], s, es => some (s, [], es)
 | o :: l, s, es => (match gStep cx M n ops o s es with
  | some (s1, cs1, es1) => (match gOps cx M n ops l s1 es1 with
   | some (s2, cs2, es2) => some (s2, cs1 ++ cs2, es2)
   | none => none)
  | none => none)

abbrev SRL (cx : Cx) (n : Nat) (s : GS) (μ : Map) (a : Act) (w : World) : Prop := SR cx n (envOf s.env) (mapOf s.hp) μ a w

theorem setE_fun (env : List (Nat × G)) (mv : List Nat) (d : Option Nat) (g : G) : envOf (setE (scrubE mv env) d g) = fun t => if d = some t then g else (envOf env t).scrub mv := by
 funext t; rw [envOf_setE, envOf_scrubE]

theorem gOps_ok {cx : Cx} (hcx : CxOK cx) {M : List Nat} {n : Nat} {ops : Array Oper} : {l : List Oper} → {s s' : GS} → {es es' : List En} → {cs : List Prop} → gOps cx M n ops l s es = some (s', cs, es') → AllP cs →
  ∀ {μ : Map} {a : Act} {w : World} {Q : Exit → Act → World → Prop}, SRL cx n s μ a w →
  (∀ μ' a' w', SRL cx n s' μ' a' w' → Ev μ (mapOf s.hp) w μ' (mapOf s'.hp) w' → (∀ m, m ∉ M → μ' m = μ m) → Q .normal a' w') → wpListIn cx.F 0 cx.P ops Q l a w
 | [], s, s', es, es', cs, h, _, μ, a, w, Q, hs, k => by
  simp only [gOps, Option.some.injEq, Prod.mk.injEq] at h
  obtain ⟨rfl, rfl, rfl⟩ := h
  exact k μ a w hs .refl fun _ _ => rfl
 | o :: l, s, s', es, es', cs, h, hc, μ, a, w, Q, hs, k => by
  simp only [gOps] at h
  split at h
  rotate_left
  ·cases h
  rename_i s1 cs1 es1 h1
  split at h
  rotate_left
  ·cases h
  rename_i s2 cs2 es2 h2
  simp only [Option.some.injEq, Prod.mk.injEq] at h
  obtain ⟨rfl, rfl, rfl⟩ := h
  obtain ⟨hc1, hc2⟩ := AllP.append hc
  unfold gStep at h1
  split at h1
  rotate_left
  ·cases h1
  rename_i hd
  have hd := dstOK_spec hd
  show if Region.wanted o (yielded ops a.tmps) then _ else _
  split at h1
  ·rename_i cs3 es3 hw
   split at h1
   rotate_left
   ·cases h1
   rename_i R es4 hg
   split at h1
   rotate_left
   ·cases h1
   rename_i hmv
   simp only [Option.some.injEq, Prod.mk.injEq] at h1
   obtain ⟨rfl, rfl, rfl⟩ := h1
   obtain ⟨hc3, hc4⟩ := AllP.append hc1
   rw [if_pos (gWant_ok hs hw hc3 fun _ _ _ _ _ => rfl)]
   refine (SR.op hcx hs (gAny_ok hcx hg hc4 (gAny_rd hg) (fun x _ => hs.ev x) hs.heap hs.glob) hd fun μ' a' w' g1 g2 g3 => ?_)
   have hmv' : ∀ m, m ∉ M → m ∉ R.mv := fun m hm h => hm (by simpa using List.all_eq_true.1 hmv m h)
   rw [← mapOf_after] at g1 g2
   rw [← setE_fun] at g1
   exact gOps_ok hcx h2 hc2 g1 fun μ'' a'' w'' e1 e2 e3 => k μ'' a'' w'' e1 (g2.trans e2) fun m hm => (e3 m hm).trans (g3 m (hmv' m hm))
  ·rename_i cs3 es3 hw
   simp only [Option.some.injEq, Prod.mk.injEq] at h1
   obtain ⟨rfl, rfl, rfl⟩ := h1
   rw [if_neg (by rw [gWant_ok hs hw hc1 fun _ _ _ _ _ => rfl]; simp)]
   refine ⟨fun f _ => hcx.fn f, ?_⟩
   have g1 := hs.skip hd
   have e : (fun t => if o.dst = some t then G.a .unit0 else envOf s.env t) = envOf (setE s.env o.dst (.a .unit0)) := by funext t; rw [envOf_setE]
   rw [e] at g1
   exact gOps_ok hcx h2 hc2 (s := ⟨setE s.env o.dst (.a .unit0), s.hp⟩) g1 fun μ'' a'' w'' e1 e2 e3 => k μ'' a'' w'' e1 e2 e3
  ·cases h1

theorem region_ok {cx : Cx} (hcx : CxOK cx) {M : List Nat} {n id : Nat} {ops : Array Oper} {s s' : GS} {es es' : List En} {cs : List Prop} (h : gOps cx M n ops ops.toList s es = some (s', cs, es')) (hc : AllP cs)
  {μ : Map} {a : Act} {w : World} {Q : Exit → Act → World → Prop} (hs : SRL cx n s μ a w) (k : ∀ μ' a' w', SRL cx n s' μ' a' w' → Ev μ (mapOf s.hp) w μ' (mapOf s'.hp) w' → (∀ m, m ∉ M → μ' m = μ m) → Q .normal a' w') :
  (Code.region id ops false).wpIn cx.F 0 cx.P Q a w :=
 wpIn_region_list (gOps_ok hcx h hc hs k)

end Go.Gh
