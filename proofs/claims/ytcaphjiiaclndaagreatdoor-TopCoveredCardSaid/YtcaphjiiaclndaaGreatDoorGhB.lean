/- Ghost values, blocks and states, and how they stand to the model's. -/
import Derived.Test.YtcaphjiiaclndaaGreatDoorGhA
namespace Go.Gh
set_option linter.unusedVariables false
set_option linter.unusedSimpArgs false

def Ty.isAgg : Ty → Bool
 | .unit | .pair _ _ => true
 | _ => false

def CellsOf (agg : Bool) (v : Value) (cs : List Value) : Prop := match agg with
 | true => v = .agg cs.toArray
 | false => cs = [v]

structure Loc where
 blk : Nat
 cap : Nat
 size : Nat
 base : Nat

inductive GA where
 | undef
 | unit0
 | int (k : IntKind) (n : Int)
 | bool (b : Bool)
 | str (s : ByteArray)
 | lst (t : Ty) (xs : List t.den) (clip : Bool)
 | olst (t : Ty) (o : Option (List t.den))
 | nils
 | sl (n off len : Nat)
 | ptr (n base idx : Nat)
 | ptg (n j : Nat)
 | vw (n base off len : Nat)
 | nilp
 | ipt (t : Ty) (x : t.den)
 | ipa (t : Ty) (xs : List t.den)
 | fn (f : FuncId)
 | app1 (g c : GA)
 | app2 (g c : GA)
 | nilf
 | mp (n : Nat)
 | nilm
 | yl (n : Nat)

inductive Slot where
 | cell (a : GA)
 | arr (t : Ty) (n : Nat) (xs : List t.den)

inductive GR where
 | at (a : GA)
 | agg (ss : List Slot)

inductive G where
 | r (g : GR)
 | tup (gs : List GR)

structure LpRec where
 ps : Array Tmp
 asg : Code
 body : Code
 nt : Nat
 env : List (Nat × G)

inductive Blk where
 | var (ss : List Slot)
 | gr (t : Ty) (e : TypeId) (xs : List t.den) (mv : Bool)
 | mpb (kt vt : Ty) (es : List (kt.den × vt.den))
 | itb (s : ByteArray) (p : Int)
 | lpb (R : LpRec)

abbrev G.undef : G := .r (.at .undef)

def GA.men : GA → List Nat
 | .sl n _ _ | .ptr n _ _ | .ptg n _ | .vw n _ _ _ | .mp n | .yl n => [n]
 | .app1 g c | .app2 g c => g.men ++ c.men
 | _ => []

def Slot.men : Slot → List Nat
 | .cell a => a.men
 | .arr .. => []

def menSlots (ss : List Slot) : List Nat := ss.flatMap Slot.men

def GR.men : GR → List Nat
 | .at a => a.men
 | .agg ss => menSlots ss

def G.men : G → List Nat
 | .r g => g.men
 | .tup gs => gs.flatMap GR.men

def envOf (env : List (Nat × G)) (t : Nat) : G := match env.find? (·.1 == t) with | some x => x.2 | none => .undef
def menEnv (env : List (Nat × G)) : List Nat := env.flatMap fun x => x.2.men

theorem mem_menEnv {env : List (Nat × G)} {t m : Nat} (h : m ∈ (envOf env t).men) : m ∈ menEnv env := by
 unfold envOf at h
 split at h
 ·rename_i x hx
  exact List.mem_flatMap.2 ⟨x, List.mem_of_find?_eq_some hx, h⟩
 ·simp [G.undef, G.men, GR.men, GA.men] at h

def Blk.men : Blk → List Nat
 | .var ss => menSlots ss
 | .lpb R => menEnv R.env
 | _ => []

structure Map where
 f : Nat → Option Loc
 X : Nat → Prop
 B : Nat := 0

instance : CoeFun Map (fun _ => Nat → Option Loc) := ⟨Map.f⟩

def LoopAt (w : World) (R : LpRec) (l : Nat) (tmps : Array Value) : Prop :=
 ∃ fn df, w.heap[l]? = some (.loop { state := .ready, pending := none, fn, tmps, params := R.ps, assign := R.asg, body := R.body, defers := df })

section
variable (μ : Map) (w : World) (own : Nat → Prop)

def LstRel (t : Ty) (xs : List t.den) (a : Option Addr) (cap : Nat) : Prop := (0 < t.size ∧ t.ok) ∧ RepSl w own (Rep w own t) t.size xs a cap

def VA : GA → Value → Prop
 | .undef, _ => True
 | .unit0, v => v = .tuple #[]
 | .int k n, v => v = .int k n
 | .bool b, v => v = .bool b
 | .str s, v => v = .string s
 | .lst t xs clip, v => ∃ a cap, v = .slice a (List.length xs) cap ∧ LstRel w own t xs a cap ∧ (clip = true → cap = List.length xs)
 | .olst t o, v => (o = none ∧ v = .slice none 0 0) ∨ ∃ xs ad cap, o = some xs ∧ v = .slice (some ad) (List.length xs) cap ∧ LstRel w own t xs (some ad) cap
 | .nils, v => v = .slice none 0 0
 | .sl n off len, v =>
  (μ n = none ∧ off = 0 ∧ len = 0 ∧ ∃ a, v = .slice a 0 0) ∨
  ∃ l o, μ n = some l ∧ off + len ≤ l.cap ∧ v = .slice (some ⟨l.blk, o, none⟩) len (l.cap - off) ∧ (off < l.cap ∨ off = 0 → o = l.base + off * l.size)
 | .ptr n base idx, v => ∃ l, μ n = some l ∧ v = .pointer (some ⟨l.blk, base + idx, none⟩)
 | .ptg n j, v => ∃ l, μ n = some l ∧ v = .pointer (some ⟨l.blk, l.base + j * l.size, none⟩)
 | .vw n base off len, v => ∃ l o c, μ n = some l ∧ v = .slice (some ⟨l.blk, o, none⟩) len c ∧ len ≤ c ∧ (0 < c → o = base + off)
 | .nilp, v => v = .pointer none
 | .ipt t x, v => t.ok ∧ ∃ ad vs, v = .pointer (some ad) ∧ ad.spot = none ∧ Rep w own t x vs ∧ (∀ j u, vs[j]? = some u → ¬ own ad.block ∧ w.cell? ⟨ad.block, ad.off + j, none⟩ = some u)
 | .ipa t xs, v => t.ok ∧ ∃ ad vs, v = .pointer (some ad) ∧ ad.spot = none ∧ RepAll w own t xs vs ∧ (∀ j u, vs[j]? = some u → ¬ own ad.block ∧ w.cell? ⟨ad.block, ad.off + j, none⟩ = some u)
 | .fn f, v => v = .func (.func f) #[] #[]
 | .app1 g c, v => ∃ fn first caps cv, v = .func fn (first.push cv) caps ∧ VA g (.func fn first caps) ∧ VA c cv
 | .app2 g c, v => ∃ fn first caps cv, v = .func fn first (caps.push cv) ∧ VA g (.func fn first caps) ∧ VA c cv
 | .nilf, v => v = .nilFunc
 | .mp n, v => ∃ l, μ n = some l ∧ v = .map (some l.blk)
 | .nilm, v => v = .map none
 | .yl n, v => ∃ l, μ n = some l ∧ v = .func (.yield l.blk) #[] #[]

def VS : List Slot → List Value → Prop
 | [], cs => cs = []
 | .cell a :: ss, cs => ∃ v cs', cs = v :: cs' ∧ v.oneCell' = true ∧ VA μ w own a v ∧ VS ss cs'
 | .arr t n xs :: ss, cs => t.ok ∧ List.length xs = n ∧ ∃ c1 cs', cs = c1 ++ cs' ∧ RepAll w own t xs c1 ∧ VS ss cs'

def VR : GR → Value → Prop
 | .at a, v => VA μ w own a v
 | .agg ss, v => ∃ cs, v = .agg cs ∧ VS μ w own ss cs.toList

def VL : List GR → List Value → Prop
 | [], vs => vs = []
 | g :: gs, vs => ∃ v vs', vs = v :: vs' ∧ VR μ w own g v ∧ VL gs vs'

def VG : G → Value → Prop
 | .r g, v => VR μ w own g v
 | .tup gs, v => ∃ vs, v = .tuple vs ∧ VL μ w own gs vs.toList

def EntsRel (kt vt : Ty) : List (kt.den × vt.den) → List MapEntry → Prop
 | [], es => es = []
 | x :: xs, es => ∃ e es' kv vv, es = e :: es' ∧ CellsOf kt.isAgg e.key kv ∧ CellsOf vt.isAgg e.val vv ∧ Rep w own kt x.1 kv ∧ Rep w own vt x.2 vv ∧ EntsRel kt vt xs es'

def BRel (n : Nat) : Blk → Prop
 | .var ss => ∃ l c e, μ n = some l ∧ w.heap[l.blk]? = some (.cells c e (0, 0)) ∧ VS μ w own ss c.toList
 | .gr t e xs _ => (0 < t.size ∧ t.ok) ∧
  ((μ n = none ∧ xs = []) ∨ ∃ l c, μ n = some l ∧ l.size = t.size ∧ w.heap[l.blk]? = some (.cells c e (0, 0)) ∧ l.base + l.cap * t.size ≤ c.size ∧ List.length xs ≤ l.cap ∧ l.cap ≤ maxLen ∧
   RepAll w own t xs ((c.toList.drop l.base).take (List.length xs * t.size)))
 | .mpb kt vt es => ∃ l ents clock, μ n = some l ∧ w.heap[l.blk]? = some (.map ents clock) ∧ kt.ok ∧ vt.ok ∧ EntsRel w own kt vt es ents.toList
 | .itb s p => ∃ l, μ n = some l ∧ w.heap[l.blk]? = some (.stringIter s (Int.toNat p))
 | .lpb R => ∃ l tmps, μ n = some l ∧ LoopAt w R l.blk tmps ∧ tmps.size = R.nt ∧ ∀ t, VG μ w own (envOf R.env t) (tmps.getD t undef)

end

abbrev Heap := Nat → Option Blk

def ownOf (μ : Map) (H : Heap) (b : Nat) : Prop := μ.X b ∨ ∃ n l, H n ≠ none ∧ μ n = some l ∧ l.blk = b

structure HRel (μ : Map) (w : World) (H : Heap) : Prop where
 blk : ∀ n b, H n = some b → BRel μ w (ownOf μ H) n b
 inj : ∀ n m ln lm, H n ≠ none → H m ≠ none → μ n = some ln → μ m = some lm → ln.blk = lm.blk → n = m
 dis : ∀ n l, H n ≠ none → μ n = some l → ¬ μ.X l.blk
 xlt : ∀ b, μ.X b → b < w.heap.size

structure Ev (μ : Map) (H : Heap) (w : World) (μ' : Map) (H' : Heap) (w' : World) : Prop where
 ext : Ext (ownOf μ H) w (ownOf μ' H') w'
 X : μ'.X = μ.X
 B : μ'.B = μ.B
 keepX : ∀ b, μ.X b → w'.heap[b]? = w.heap[b]?

theorem Ev.refl {μ : Map} {H : Heap} {w : World} : Ev μ H w μ H w := ⟨.refl, rfl, rfl, fun _ _ => rfl⟩

theorem Ev.trans {μ0 μ1 μ2 : Map} {H0 H1 H2 : Heap} {w0 w1 w2 : World} (h : Ev μ0 H0 w0 μ1 H1 w1) (k : Ev μ1 H1 w1 μ2 H2 w2) : Ev μ0 H0 w0 μ2 H2 w2 :=
 ⟨h.ext.trans k.ext, k.X.trans h.X, k.B.trans h.B, fun b hb => (k.keepX b (by rw [h.X]; exact hb)).trans (h.keepX b hb)⟩

theorem VA.ext {μ μ' : Map} {w w' : World} {own own' : Nat → Prop} (h : Ext own w own' w') :
  {g : GA} → {v : Value} → (∀ n ∈ g.men, μ' n = μ n) → VA μ w own g v → VA μ' w' own' g v
 | .undef, _, _, _ => trivial
 | .unit0, _, _, hv | .int .., _, _, hv | .bool _, _, _, hv | .str _, _, _, hv | .nils, _, _, hv | .nilp, _, _, hv | .fn _, _, _, hv | .nilf, _, _, hv | .nilm, _, _, hv => hv
 | .lst t xs clip, _, _, hv => by
  obtain ⟨a, cap, rfl, ⟨ho, hs⟩, hc⟩ := hv
  exact ⟨a, cap, rfl, ⟨ho, hs.ext h (fun x vs hx => hx.ext h ho.2) ho.1⟩, hc⟩
 | .olst t o, _, _, hv => by
  rcases hv with hv | ⟨xs, ad, cap, rfl, rfl, ho, hs⟩
  ·exact .inl hv
  ·exact .inr ⟨xs, ad, cap, rfl, rfl, ho, hs.ext h (fun x vs hx => hx.ext h ho.2) ho.1⟩
 | .sl n off len, _, hm, hv => by
  have e := hm n (by simp [GA.men])
  simpa only [VA, e] using hv
 | .ptr n base idx, _, hm, hv => by
  have e := hm n (by simp [GA.men])
  simpa only [VA, e] using hv
 | .ptg n j, _, hm, hv => by
  have e := hm n (by simp [GA.men])
  simpa only [VA, e] using hv
 | .vw n base off len, _, hm, hv => by
  have e := hm n (by simp [GA.men])
  simpa only [VA, e] using hv
 | .mp n, _, hm, hv => by
  have e := hm n (by simp [GA.men])
  simpa only [VA, e] using hv
 | .yl n, _, hm, hv => by
  have e := hm n (by simp [GA.men])
  simpa only [VA, e] using hv
 | .ipt t x, _, _, hv => by
  obtain ⟨ho, ad, vs, rfl, hs, hr, hc⟩ := hv
  refine ⟨ho, ad, vs, rfl, hs, hr.ext h ho, fun j u hu => ?_⟩
  obtain ⟨hn, hcell⟩ := hc j u hu
  have hlt := World.block_lt_of_cell? w ⟨ad.block, ad.off + j, none⟩ hcell
  exact ⟨h.nown _ hlt hn, h.cell (a := ⟨ad.block, ad.off + j, none⟩) hn hcell⟩
 | .ipa t x, _, _, hv => by
  obtain ⟨ho, ad, vs, rfl, hs, hr, hc⟩ := hv
  refine ⟨ho, ad, vs, rfl, hs, hr.ext h ho, fun j u hu => ?_⟩
  obtain ⟨hn, hcell⟩ := hc j u hu
  have hlt := World.block_lt_of_cell? w ⟨ad.block, ad.off + j, none⟩ hcell
  exact ⟨h.nown _ hlt hn, h.cell (a := ⟨ad.block, ad.off + j, none⟩) hn hcell⟩
 | .app1 g c, _, hm, hv => by
  obtain ⟨fn, first, caps, cv, rfl, h1, h2⟩ := hv
  exact ⟨fn, first, caps, cv, rfl, VA.ext h (fun n hn => hm n (by simp [GA.men, hn])) h1, VA.ext h (fun n hn => hm n (by simp [GA.men, hn])) h2⟩
 | .app2 g c, _, hm, hv => by
  obtain ⟨fn, first, caps, cv, rfl, h1, h2⟩ := hv
  exact ⟨fn, first, caps, cv, rfl, VA.ext h (fun n hn => hm n (by simp [GA.men, hn])) h1, VA.ext h (fun n hn => hm n (by simp [GA.men, hn])) h2⟩

section
variable {μ μ' : Map} {w w' : World} {own own' : Nat → Prop}

theorem VS.ext (h : Ext own w own' w') : {ss : List Slot} → {cs : List Value} → (∀ n ∈ menSlots ss, μ' n = μ n) → VS μ w own ss cs → VS μ' w' own' ss cs
 | [], _, _, hv => hv
 | .cell a :: ss, _, hm, hv => by
  obtain ⟨v, cs', rfl, h1, h2, h3⟩ := hv
  exact ⟨v, cs', rfl, h1, h2.ext h (fun n hn => hm n (by simp [menSlots, Slot.men, hn])), VS.ext h (fun n hn => hm n (by simp only [menSlots, List.flatMap_cons, List.mem_append]; exact .inr hn)) h3⟩
 | .arr t n xs :: ss, _, hm, hv => by
  obtain ⟨ho, hl, c1, cs', rfl, h2, h3⟩ := hv
  exact ⟨ho, hl, c1, cs', rfl, h2.ext h ho, VS.ext h (fun n hn => hm n (by simp only [menSlots, List.flatMap_cons, List.mem_append]; exact .inr hn)) h3⟩

theorem VR.ext (h : Ext own w own' w') {g : GR} {v : Value} (hm : ∀ n ∈ g.men, μ' n = μ n) (hv : VR μ w own g v) : VR μ' w' own' g v := by
 cases g with
 | «at» a => exact VA.ext h hm hv
 | agg ss => obtain ⟨cs, rfl, hs⟩ := hv; exact ⟨cs, rfl, hs.ext h hm⟩

theorem VL.ext (h : Ext own w own' w') : {gs : List GR} → {vs : List Value} → (∀ n ∈ gs.flatMap GR.men, μ' n = μ n) → VL μ w own gs vs → VL μ' w' own' gs vs
 | [], _, _, hv => hv
 | g :: gs, _, hm, hv => by
  obtain ⟨v, vs', rfl, h1, h2⟩ := hv
  exact ⟨v, vs', rfl, h1.ext h (fun n hn => hm n (by simp [hn])), VL.ext h (fun n hn => hm n (by simp only [List.flatMap_cons, List.mem_append]; exact .inr hn)) h2⟩

theorem VG.ext (h : Ext own w own' w') {g : G} {v : Value} (hm : ∀ n ∈ g.men, μ' n = μ n) (hv : VG μ w own g v) : VG μ' w' own' g v := by
 cases g with
 | r g => exact VR.ext h hm hv
 | tup gs => obtain ⟨vs, rfl, hs⟩ := hv; exact ⟨vs, rfl, hs.ext h hm⟩

theorem EntsRel.ext (h : Ext own w own' w') {kt vt : Ty} (hk : kt.ok) (hv : vt.ok) : {xs : List (kt.den × vt.den)} → {es : List MapEntry} → EntsRel w own kt vt xs es → EntsRel w' own' kt vt xs es
 | [], _, hr => hr
 | _ :: xs, _, hr => by
  obtain ⟨e, es', kv, vv, rfl, h1, h2, h3, h4, h5⟩ := hr
  exact ⟨e, es', kv, vv, rfl, h1, h2, h3.ext h hk, h4.ext h hv, EntsRel.ext h hk hv h5⟩

theorem BRel.ext (h : Ext own w own' w') {n : Nat} {b : Blk} (hn : μ' n = μ n) (hm : ∀ m ∈ b.men, μ' m = μ m) (hb : ∀ l, μ n = some l → w'.heap[l.blk]? = w.heap[l.blk]?)
  (hv : BRel μ w own n b) : BRel μ' w' own' n b := by
 cases b with
 | var ss =>
  obtain ⟨l, c, e, hl, hc, hs⟩ := hv
  exact ⟨l, c, e, hn.trans hl, (hb l hl).trans hc, hs.ext h hm⟩
 | gr t e xs mv =>
  obtain ⟨ho, hv⟩ := hv
  refine ⟨ho, ?_⟩
  rcases hv with ⟨h1, h2⟩ | ⟨l, c, hl, h1, h2, h3, h4, h5, h6⟩
  ·exact .inl ⟨hn.trans h1, h2⟩
  ·exact .inr ⟨l, c, hn.trans hl, h1, (hb l hl).trans h2, h3, h4, h5, h6.ext h ho.2⟩
 | mpb kt vt es =>
  obtain ⟨l, ents, clock, hl, h1, h2, h3, h4⟩ := hv
  exact ⟨l, ents, clock, hn.trans hl, (hb l hl).trans h1, h2, h3, h4.ext h h2 h3⟩
 | itb s p =>
  obtain ⟨l, hl, h1⟩ := hv
  exact ⟨l, hn.trans hl, (hb l hl).trans h1⟩
 | lpb R =>
  obtain ⟨l, tmps, hl, ⟨fn, df, h1⟩, h2, h3⟩ := hv
  exact ⟨l, tmps, hn.trans hl, ⟨fn, df, (hb l hl).trans h1⟩, h2, fun t => (h3 t).ext h fun m hm' => hm m (mem_menEnv hm')⟩

theorem BRel.lt {n : Nat} {b : Blk} (hv : BRel μ w own n b) : ∀ l, μ n = some l → l.blk < w.heap.size := by
 intro l hl
 cases b with
 | var ss =>
  obtain ⟨l', c, e, hl', hc, hs⟩ := hv
  rw [hl] at hl'; cases hl'
  exact (Array.getElem?_eq_some_iff.1 hc).1
 | gr t e xs mv =>
  rcases hv.2 with ⟨h1, h2⟩ | ⟨l', c, hl', h1, h2, _⟩
  ·rw [hl] at h1; cases h1
  ·rw [hl] at hl'; cases hl'
   exact (Array.getElem?_eq_some_iff.1 h2).1
 | mpb kt vt es =>
  obtain ⟨l', ents, clock, hl', h1, _⟩ := hv
  rw [hl] at hl'; cases hl'
  exact (Array.getElem?_eq_some_iff.1 h1).1
 | itb s p =>
  obtain ⟨l', hl', h1⟩ := hv
  rw [hl] at hl'; cases hl'
  exact (Array.getElem?_eq_some_iff.1 h1).1
 | lpb R =>
  obtain ⟨l', tmps, hl', ⟨fn, df, h1⟩, _⟩ := hv
  rw [hl] at hl'; cases hl'
  exact (Array.getElem?_eq_some_iff.1 h1).1

theorem VA.one {g : GA} {v : Value} (hg : g ≠ .undef ∧ g ≠ .unit0) (hv : VA μ w own g v) : v.oneCell' = true := by
 cases g <;> simp only [VA] at hv
 case undef => exact absurd rfl hg.1
 case unit0 => exact absurd rfl hg.2
 case lst => obtain ⟨_, _, rfl, _⟩ := hv; rfl
 case olst => rcases hv with ⟨_, rfl⟩ | ⟨_, _, _, _, rfl, _⟩ <;> rfl
 case sl => rcases hv with ⟨_, _, _, _, rfl, _⟩ | ⟨_, _, _, _, rfl, _⟩ <;> rfl
 case ptr => obtain ⟨_, _, rfl⟩ := hv; rfl
 case ptg => obtain ⟨_, _, rfl⟩ := hv; rfl
 case vw => obtain ⟨_, _, _, _, rfl, _⟩ := hv; rfl
 case ipt => obtain ⟨_, _, _, rfl, _⟩ := hv; rfl
 case ipa => obtain ⟨_, _, _, rfl, _⟩ := hv; rfl
 case app1 => obtain ⟨_, _, _, _, rfl, _⟩ := hv; rfl
 case app2 => obtain ⟨_, _, _, _, rfl, _⟩ := hv; rfl
 case mp => obtain ⟨_, _, rfl⟩ := hv; rfl
 case yl => obtain ⟨_, _, rfl⟩ := hv; rfl
 all_goals (subst hv; rfl)

theorem VS.one : {ss : List Slot} → {cs : List Value} → VS μ w own ss cs → ∀ v ∈ cs, v.oneCell' = true
 | [], _, h => by simp [VS] at h; subst h; intro v hv; simp at hv
 | .cell a :: ss, _, h => by
  obtain ⟨v, cs', rfl, h1, _, h3⟩ := h
  intro u hu
  rcases List.mem_cons.1 hu with rfl | hu
  ·exact h1
  ·exact VS.one h3 u hu
 | .arr t n xs :: ss, _, h => by
  obtain ⟨_, _, c1, cs', rfl, h2, h3⟩ := h
  intro u hu
  rcases List.mem_append.1 hu with hu | hu
  ·exact h2.one u hu
  ·exact VS.one h3 u hu
end

end Go.Gh
