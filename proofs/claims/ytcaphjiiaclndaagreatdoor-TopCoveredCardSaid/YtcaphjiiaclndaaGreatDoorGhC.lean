/- Data of a type into ghost values and back; marks of what has moved; what an operation does to the blocks. -/
import Derived.Test.YtcaphjiiaclndaaGreatDoorGhB
namespace Go.Gh
set_option linter.unusedVariables false
set_option linter.unusedSimpArgs false

def Ty.dflt : (t : Ty) → t.den
 | .int _ => (0 : Int)
 | .bool => false
 | .str => ByteArray.empty
 | .list _ => []
 | .unit => ()
 | .pair a b => (a.dflt, b.dflt)
 | .opt _ => none

def optA (t : Ty) : Option t.den → GA
 | none => .nilp
 | some x => .ipt t x

def ofDenA : (t : Ty) → t.den → GA
 | .int k, n => .int k n
 | .bool, b => .bool b
 | .str, s => .str s
 | .list t, xs => .lst t xs false
 | .opt t, o => optA t o
 | .unit, _ | .pair _ _, _ => .undef

def ofDenS : (t : Ty) → t.den → List Slot
 | .unit, _ => []
 | .pair a b, x => ofDenS a x.1 ++ ofDenS b x.2
 | .int k, n => [.cell (.int k n)]
 | .bool, b => [.cell (.bool b)]
 | .str, s => [.cell (.str s)]
 | .list t, xs => [.cell (.lst t xs false)]
 | .opt t, o => [.cell (optA t o)]

def ofDen (t : Ty) (x : t.den) : GR := if t.isAgg then .agg (ofDenS t x) else .at (ofDenA t x)

def toDenA : (t : Ty) → GA → Option t.den
 | .int k, .int k' n => if k = k' then some n else none
 | .bool, .bool b => some b
 | .str, .str s => some s
 | .list t, .lst t' xs _ => if h : t' = t then some (h ▸ xs) else none
 | .list t, .olst t' o => if h : t' = t then some (h ▸ (o.getD [])) else none
 | .list _, .nils => some []
 | .opt _, .nilp => some none
 | .opt t, .ipt t' x => if h : t' = t then (if 0 < t.size then some (some (h ▸ x)) else none) else none
 | _, _ => none

def toDenS : (t : Ty) → List Slot → Option (t.den × List Slot)
 | .unit, ss => some ((), ss)
 | .pair a b, ss => match toDenS a ss with
  | some (x, r) => match toDenS b r with
   | some (y, r') => some ((x, y), r')
   | none => none
  | none => none
 | t, .cell g :: ss => match toDenA t g with
  | some x => some (x, ss)
  | none => none
 | .int k, .arr (.int k') n xs :: ss => if k = k' then
   match n, xs with
   | 0, _ => none
   | n + 1, (x :: xs') => some ((x : Int), if n = 0 then ss else .arr (.int k') n xs' :: ss)
   | _, _ => none
  else none
 | _, _ => none

def toDen (t : Ty) : GR → Option t.den
 | .at g => if t.isAgg then none else toDenA t g
 | .agg ss => if t.isAgg then (match toDenS t ss with | some (x, []) => some x | _ => none) else none

section
variable {μ : Map} {w : World} {own : Nat → Prop}

theorem append_eq {VSx : List Slot → List Value → Prop} : True := trivial

theorem VS.append : {ss ss' : List Slot} → {cs cs' : List Value} → VS μ w own ss cs → VS μ w own ss' cs' → VS μ w own (ss ++ ss') (cs ++ cs')
 | [], _, _, _, h, k => by simp [VS] at h; subst h; exact k
 | .cell a :: ss, _, _, _, h, k => by
  obtain ⟨v, cs', rfl, h1, h2, h3⟩ := h
  exact ⟨v, _, rfl, h1, h2, VS.append h3 k⟩
 | .arr t n xs :: ss, _, _, _, h, k => by
  obtain ⟨h0, h1, c1, cs', rfl, h2, h3⟩ := h
  exact ⟨h0, h1, c1, _, by simp, h2, VS.append h3 k⟩

theorem optA_rel {t : Ty} (ho : 0 < t.size ∧ t.ok) {o : Option t.den} {a : Option Addr} (h : RepPt w own (Rep w own t) t.size o a) : VA μ w own (optA t o) (.pointer a) := by
 rcases h with ⟨rfl, rfl⟩ | ⟨x, ad, vs, rfl, rfl, hs, hn, hl, hr, hc⟩
 ·rfl
 ·exact ⟨ho.2, ad, vs, rfl, hs, hr, fun j u hu => ⟨hn, hc j u hu⟩⟩

theorem ofDenS_rel : {t : Ty} → t.ok → {x : t.den} → {cs : List Value} → Rep w own t x cs → VS μ w own (ofDenS t x) cs
 | .int _, _, _, _, h | .bool, _, _, _, h | .str, _, _, _, h => by
  simp only [Rep] at h; subst h; exact ⟨_, [], rfl, rfl, rfl, rfl⟩
 | .unit, _, _, _, h => h
 | .list t, ho, _, _, h => by
  obtain ⟨a, cap, rfl, hs⟩ := h
  exact ⟨_, [], rfl, rfl, ⟨a, cap, rfl, ⟨ho, hs⟩, by simp⟩, rfl⟩
 | .opt t, ho, _, _, h => by
  obtain ⟨a, rfl, hs⟩ := h
  exact ⟨_, [], rfl, rfl, optA_rel ho hs, rfl⟩
 | .pair a b, ho, _, _, h => by
  obtain ⟨c1, c2, rfl, h1, h2⟩ := h
  exact VS.append (ofDenS_rel ho.1 h1) (ofDenS_rel ho.2 h2)

theorem ofDenA_rel : {t : Ty} → t.ok → t.isAgg = false → {x : t.den} → {v : Value} → Rep w own t x [v] → VA μ w own (ofDenA t x) v
 | .int _, _, _, _, _, h | .bool, _, _, _, _, h | .str, _, _, _, _, h => by simp only [Rep, List.cons.injEq, and_true] at h; exact h
 | .list t, ho, _, _, _, h => by
  obtain ⟨a, cap, hv, hs⟩ := h
  simp only [List.cons.injEq, and_true] at hv
  exact ⟨a, cap, hv, ⟨ho, hs⟩, by simp⟩
 | .opt t, ho, _, _, _, h => by
  obtain ⟨a, hv, hs⟩ := h
  simp only [List.cons.injEq, and_true] at hv
  subst hv
  exact optA_rel ho hs
 | .unit, _, h, _, _, _ => by simp [Ty.isAgg] at h
 | .pair _ _, _, h, _, _, _ => by simp [Ty.isAgg] at h

theorem toDenA_rel : {t : Ty} → {g : GA} → {x : t.den} → {v : Value} → toDenA t g = some x → VA μ w own g v → Rep w own t x [v] := by
 intro t g x v h hv
 cases t <;> cases g <;> simp only [toDenA, reduceCtorEq] at h
 ·split at h
  ·rename_i hk; subst hk; have h := Option.some.inj h; subst h; simp only [VA] at hv; subst hv; rfl
  ·cases h
 ·have h := Option.some.inj h; subst h; simp only [VA] at hv; subst hv; rfl
 ·have h := Option.some.inj h; subst h; simp only [VA] at hv; subst hv; rfl
 ·split at h
  ·rename_i t' t'' xs c hk; subst hk; have h := Option.some.inj h; subst h
   obtain ⟨a, cap, rfl, hs, _⟩ := hv
   exact ⟨a, cap, rfl, hs.2⟩
  ·cases h
 ·split at h
  ·rename_i t' t'' o hk; subst hk; have h := Option.some.inj h; subst h
   rcases hv with ⟨rfl, rfl⟩ | ⟨xs, ad, cap, rfl, rfl, hs⟩
   ·exact ⟨none, 0, rfl, by simp [RepSl]⟩
   ·exact ⟨some ad, cap, rfl, hs.2⟩
  ·cases h
 ·have h := Option.some.inj h; subst h; simp only [VA] at hv; subst hv
  exact ⟨none, 0, rfl, by simp [RepSl]⟩
 ·have h := Option.some.inj h; subst h; simp only [VA] at hv; subst hv
  exact ⟨none, rfl, .inl ⟨rfl, rfl⟩⟩
 ·split at h
  ·rename_i t' t'' x' hk; subst hk
   split at h
   ·rename_i hpos
    have h := Option.some.inj h; subst h
    obtain ⟨hok, ad, vs, rfl, hs, hr, hc⟩ := hv
    refine ⟨some ad, rfl, .inr ⟨_, ad, vs, rfl, rfl, hs, ?_, hr.length, hr, fun j u hu => (hc j u hu).2⟩⟩
    have hl := hr.length
    obtain ⟨u, hu⟩ : ∃ u, vs[0]? = some u := by rw [List.getElem?_eq_getElem (by omega)]; exact ⟨_, rfl⟩
    exact (hc 0 u hu).1
   ·cases h
  ·cases h

theorem toDenS_rel : {t : Ty} → {ss : List Slot} → {x : t.den} → {r : List Slot} → {cs : List Value} → toDenS t ss = some (x, r) → VS μ w own ss cs →
  ∃ c1 c2, cs = c1 ++ c2 ∧ Rep w own t x c1 ∧ VS μ w own r c2
 | .unit, ss, x, r, cs, h, hv => by
  simp only [toDenS, Option.some.injEq, Prod.mk.injEq] at h
  obtain ⟨_, rfl⟩ := h
  exact ⟨[], cs, rfl, rfl, hv⟩
 | .pair a b, ss, x, r, cs, h, hv => by
  simp only [toDenS] at h
  split at h
  ·rename_i y r1 h1
   split at h
   ·rename_i z r2 h2
    simp only [Option.some.injEq, Prod.mk.injEq] at h
    obtain ⟨rfl, rfl⟩ := h
    obtain ⟨c1, c2, rfl, k1, k2⟩ := toDenS_rel h1 hv
    obtain ⟨c3, c4, rfl, k3, k4⟩ := toDenS_rel h2 k2
    exact ⟨c1 ++ c3, c4, by simp, ⟨c1, c3, rfl, k1, k3⟩, k4⟩
   ·cases h
  ·cases h
 | .int k, ss, x, r, cs, h, hv => by
  match ss, h, hv with
  | .cell g :: ss, h, hv =>
   simp only [toDenS] at h
   split at h
   ·rename_i y hy
    simp only [Option.some.injEq, Prod.mk.injEq] at h
    obtain ⟨rfl, rfl⟩ := h
    obtain ⟨v, cs', rfl, _, h2, h3⟩ := hv
    exact ⟨[v], cs', rfl, toDenA_rel hy h2, h3⟩
   ·cases h
  | .arr (.int k') n xs :: ss, h, hv =>
   simp only [toDenS] at h
   split at h
   ·rename_i hk; subst hk
    obtain ⟨ho, hl, c1, cs', rfl, h2, h3⟩ := hv
    match n, xs, h, hl, h2 with
    | n + 1, (y :: ys), h, hl, h2 =>
     simp only [Option.some.injEq, Prod.mk.injEq] at h
     obtain ⟨rfl, rfl⟩ := h
     obtain ⟨d1, d2, rfl, k1, k2⟩ := h2
     refine ⟨d1, d2 ++ cs', by simp, k1, ?_⟩
     have hl' : List.length ys = n := by simpa using hl
     by_cases hn : n = 0
     ·subst hn
      have hys : ys = [] := List.eq_nil_of_length_eq_zero hl'
      subst hys
      simp only [RepAll] at k2
      subst k2
      simpa using h3
     ·rw [if_neg hn]
      exact ⟨ho, hl', d2, cs', rfl, k2, h3⟩
   ·cases h
 | .bool, ss, x, r, cs, h, hv => by
  match ss, h, hv with
  | .cell g :: ss, h, hv =>
   simp only [toDenS] at h
   split at h
   ·rename_i y hy
    simp only [Option.some.injEq, Prod.mk.injEq] at h
    obtain ⟨rfl, rfl⟩ := h
    obtain ⟨v, cs', rfl, _, h2, h3⟩ := hv
    exact ⟨[v], cs', rfl, toDenA_rel hy h2, h3⟩
   ·cases h
 | .str, ss, x, r, cs, h, hv => by
  match ss, h, hv with
  | .cell g :: ss, h, hv =>
   simp only [toDenS] at h
   split at h
   ·rename_i y hy
    simp only [Option.some.injEq, Prod.mk.injEq] at h
    obtain ⟨rfl, rfl⟩ := h
    obtain ⟨v, cs', rfl, _, h2, h3⟩ := hv
    exact ⟨[v], cs', rfl, toDenA_rel hy h2, h3⟩
   ·cases h
 | .list t, ss, x, r, cs, h, hv => by
  match ss, h, hv with
  | .cell g :: ss, h, hv =>
   simp only [toDenS] at h
   split at h
   ·rename_i y hy
    simp only [Option.some.injEq, Prod.mk.injEq] at h
    obtain ⟨rfl, rfl⟩ := h
    obtain ⟨v, cs', rfl, _, h2, h3⟩ := hv
    exact ⟨[v], cs', rfl, toDenA_rel hy h2, h3⟩
   ·cases h
 | .opt t, ss, x, r, cs, h, hv => by
  match ss, h, hv with
  | .cell g :: ss, h, hv =>
   simp only [toDenS] at h
   split at h
   ·rename_i y hy
    simp only [Option.some.injEq, Prod.mk.injEq] at h
    obtain ⟨rfl, rfl⟩ := h
    obtain ⟨v, cs', rfl, _, h2, h3⟩ := hv
    exact ⟨[v], cs', rfl, toDenA_rel hy h2, h3⟩
   ·cases h

theorem Value.cells_of_one {v : Value} (h : v.oneCell' = true) : v.cells.toList = [v] := by
 cases v <;> simp_all [Value.cells, Value.oneCell']

theorem Rep.one_cell {t : Ty} {x : t.den} {v : Value} (h : Rep w own t x [v]) : v.oneCell' = true := h.one v (by simp)

theorem toDen_rel {t : Ty} {g : GR} {x : t.den} {v : Value} (h : toDen t g = some x) (hv : VR μ w own g v) : Rep w own t x v.cells.toList := by
 cases g with
 | «at» g =>
  simp only [toDen] at h
  split at h
  ·cases h
  ·have := toDenA_rel h hv
   rw [Value.cells_of_one this.one_cell]
   exact this
 | agg ss =>
  simp only [toDen] at h
  split at h
  ·split at h
   ·rename_i y hy
    simp only [Option.some.injEq] at h
    subst h
    obtain ⟨cs, rfl, hs⟩ := hv
    obtain ⟨c1, c2, hc, k1, k2⟩ := toDenS_rel hy hs
    simp only [VS] at k2
    subst k2
    simp only [List.append_nil] at hc
    simpa [Value.cells, hc] using k1
   ·cases h
  ·cases h

end


def GA.scrub (ns : List Nat) (g : GA) : GA := if g.men.any (ns.contains ·) then .undef else g
def Slot.scrub (ns : List Nat) : Slot → Slot
 | .cell a => .cell (a.scrub ns)
 | s => s
def GR.scrub (ns : List Nat) : GR → GR
 | .at a => .at (a.scrub ns)
 | .agg ss => .agg (ss.map (Slot.scrub ns))
def G.scrub (ns : List Nat) : G → G
 | .r g => .r (g.scrub ns)
 | .tup gs => .tup (gs.map (GR.scrub ns))
def Blk.scrub (ns : List Nat) : Blk → Blk
 | .var ss => .var (ss.map (Slot.scrub ns))
 | .lpb R => .lpb { R with env := R.env.map fun x => (x.1, x.2.scrub ns) }
 | b => b

section
variable {μ μ' : Map} {w w' : World} {own own' : Nat → Prop} {ns : List Nat}

theorem VA.scrub (h : Ext own w own' w') (hm : ∀ n, n ∉ ns → μ' n = μ n) {g : GA} {v : Value} (hv : VA μ w own g v) : VA μ' w' own' (g.scrub ns) v := by
 unfold GA.scrub
 split
 ·trivial
 ·rename_i hn
  refine hv.ext h fun n hg => hm n fun hns => hn ?_
  simp only [List.any_eq_true]
  exact ⟨n, hg, by simpa using hns⟩

theorem VS.scrub (h : Ext own w own' w') (hm : ∀ n, n ∉ ns → μ' n = μ n) : {ss : List Slot} → {cs : List Value} → VS μ w own ss cs → VS μ' w' own' (ss.map (Slot.scrub ns)) cs
 | [], _, hv => hv
 | .cell a :: ss, _, hv => by
  obtain ⟨v, cs', rfl, h1, h2, h3⟩ := hv
  exact ⟨v, cs', rfl, h1, h2.scrub h hm, VS.scrub h hm h3⟩
 | .arr t n xs :: ss, _, hv => by
  obtain ⟨ho, hl, c1, cs', rfl, h2, h3⟩ := hv
  exact ⟨ho, hl, c1, cs', rfl, h2.ext h ho, VS.scrub h hm h3⟩

theorem VR.scrub (h : Ext own w own' w') (hm : ∀ n, n ∉ ns → μ' n = μ n) {g : GR} {v : Value} (hv : VR μ w own g v) : VR μ' w' own' (g.scrub ns) v := by
 cases g with
 | «at» a => exact VA.scrub h hm hv
 | agg ss => obtain ⟨cs, rfl, hs⟩ := hv; exact ⟨cs, rfl, hs.scrub h hm⟩

theorem VL.scrub (h : Ext own w own' w') (hm : ∀ n, n ∉ ns → μ' n = μ n) : {gs : List GR} → {vs : List Value} → VL μ w own gs vs → VL μ' w' own' (gs.map (GR.scrub ns)) vs
 | [], _, hv => hv
 | g :: gs, _, hv => by
  obtain ⟨v, vs', rfl, h1, h2⟩ := hv
  exact ⟨v, vs', rfl, h1.scrub h hm, VL.scrub h hm h2⟩

theorem VG.scrub (h : Ext own w own' w') (hm : ∀ n, n ∉ ns → μ' n = μ n) {g : G} {v : Value} (hv : VG μ w own g v) : VG μ' w' own' (g.scrub ns) v := by
 cases g with
 | r g => exact VR.scrub h hm hv
 | tup gs => obtain ⟨vs, rfl, hs⟩ := hv; exact ⟨vs, rfl, hs.scrub h hm⟩

theorem envOf_map_scrub (env : List (Nat × G)) (t : Nat) : envOf (env.map fun x => (x.1, x.2.scrub ns)) t = (envOf env t).scrub ns := by
 unfold envOf
 induction env with
 | nil => rfl
 | cons x env ih =>
  simp only [List.map_cons, List.find?_cons]
  by_cases hx : (x.1 == t) = true
  ·simp [hx]
  ·simp only [hx]; exact ih

theorem BRel.scrub (h : Ext own w own' w') (hm : ∀ n, n ∉ ns → μ' n = μ n) {n : Nat} {b : Blk} (hn : n ∉ ns) (hb : ∀ l, μ n = some l → w'.heap[l.blk]? = w.heap[l.blk]?)
  (hv : BRel μ w own n b) : BRel μ' w' own' n (b.scrub ns) := by
 cases b with
 | var ss =>
  obtain ⟨l, c, e, hl, hc, hs⟩ := hv
  exact ⟨l, c, e, (hm n hn).trans hl, (hb l hl).trans hc, hs.scrub h hm⟩
 | gr t e xs mv => exact BRel.ext (b := .gr t e xs mv) h (hm n hn) (by simp [Blk.men]) hb hv
 | mpb kt vt es => exact BRel.ext (b := .mpb kt vt es) h (hm n hn) (by simp [Blk.men]) hb hv
 | itb s p => exact BRel.ext (b := .itb s p) h (hm n hn) (by simp [Blk.men]) hb hv
 | lpb R =>
  obtain ⟨l, tmps, hl, ⟨fn, df, h1⟩, h2, h3⟩ := hv
  refine ⟨l, tmps, (hm n hn).trans hl, ⟨fn, df, (hb l hl).trans h1⟩, h2, fun t => ?_⟩
  have e := envOf_map_scrub (ns := ns) R.env t
  show VG μ' w' own' (envOf (R.env.map fun x => (x.1, x.2.scrub ns)) t) _
  rw [e]; exact (h3 t).scrub h hm
end

def after (mv : List Nat) (wr : List (Nat × Option Blk)) (H : Heap) : Heap := fun n =>
 match wr.find? (·.1 == n) with
 | some x => x.2
 | none => (H n).map (·.scrub mv)

theorem after_nil (H : Heap) : after [] [] H = H := by
 funext n
 simp only [after, List.find?_nil]
 have e : ∀ g : GA, g.scrub [] = g := by intro g; unfold GA.scrub; rw [if_neg (by simp)]
 have e2 : ∀ ss : List Slot, ss.map (Slot.scrub []) = ss := by
  intro ss
  conv => rhs; rw [← List.map_id ss]
  apply List.map_congr_left
  intro s _
  cases s <;> simp [Slot.scrub, e]
 cases H n with
 | none => rfl
 | some b =>
  have e3 : ∀ g : G, g.scrub [] = g := by
   have e4 : ∀ g : GR, g.scrub [] = g := by intro g; cases g <;> simp [GR.scrub, e, e2]
   intro g
   cases g with
   | r g => simp [G.scrub, e4]
   | tup gs =>
    simp only [G.scrub, G.tup.injEq]
    conv => rhs; rw [← List.map_id gs]
    exact List.map_congr_left fun g _ => e4 g
  cases b with
  | lpb R =>
   have : (R.env.map fun x => (x.1, x.2.scrub [])) = R.env := by
    conv => rhs; rw [← List.map_id R.env]
    exact List.map_congr_left fun x _ => by rw [e3]; rfl
   simp [Blk.scrub, this]
  | var ss => simp [Blk.scrub, e2]
  | gr => rfl
  | mpb => rfl
  | itb => rfl

theorem HRel.step {μ μ' : Map} {w w' : World} {H : Heap} {n : Nat} {b : Blk} {mv : List Nat} (hH : HRel μ w H) (hX : μ'.X = μ.X)
  (hmv : ∀ m, m ∉ mv → μ' m = μ m) (hmvn : ∀ m, m ≠ n → μ' m = μ m)  (hmn : ∀ m ∈ mv, m = n)
  (hsize : w.heap.size ≤ w'.heap.size) (hout : w'.output = w.output) (hos : w'.os = w.os) (htape : w'.tape = w.tape)
  (hkeep : ∀ k, k < w.heap.size → (∀ l, H n ≠ none → μ n = some l → l.blk ≠ k) → w'.heap[k]? = w.heap[k]?)
  (hnew : ∀ l', μ' n = some l' → w.heap.size ≤ l'.blk ∨ (H n ≠ none ∧ ∃ l, μ n = some l ∧ l.blk = l'.blk))
  (hb : Ext (ownOf μ H) w (ownOf μ' (after mv [(n, some b)] H)) w' → BRel μ' w' (ownOf μ' (after mv [(n, some b)] H)) n b) (hB : μ'.B = μ.B := by rfl) :
  HRel μ' w' (after mv [(n, some b)] H) ∧ Ev μ H w μ' (after mv [(n, some b)] H) w' := by
 have dom : ∀ m, after mv [(n, some b)] H m ≠ none ↔ m = n ∨ H m ≠ none := by
  intro m
  by_cases hm : m = n
  ·subst hm; simp [after]
  ·have : (n == m) = false := by simp; exact fun e => hm e.symm
   simp [after, List.find?, this, hm]
 have old : ∀ m, m ≠ n → after mv [(n, some b)] H m = (H m).map (·.scrub mv) := by
  intro m hm
  have : (n == m) = false := by simp; exact fun e => hm e.symm
  simp [after, List.find?, this]
 have lt : ∀ m l, H m ≠ none → μ m = some l → l.blk < w.heap.size := by
  intro m l hm hl
  cases hb' : H m with
  | none => exact absurd hb' hm
  | some b' => exact (hH.blk m b' hb').lt l hl
 have ext : Ext (ownOf μ H) w (ownOf μ' (after mv [(n, some b)] H)) w' := by
  refine ⟨hsize, fun k hk hn => hkeep k hk fun l h1 h2 h3 => hn (.inr ⟨n, l, h1, h2, h3⟩), fun k hk hn => ?_, hout, hos, htape⟩
  rintro (hx | ⟨m, l, h1, h2, h3⟩)
  ·exact hn (.inl (by rwa [hX] at hx))
  ·by_cases hm : m = n
   ·subst hm
    rcases hnew l h2 with h4 | ⟨h4, l0, h5, h6⟩
    ·omega
    ·exact hn (.inr ⟨m, l0, h4, h5, h6.trans h3⟩)
   ·rw [hmvn m hm] at h2
    exact hn (.inr ⟨m, l, ((dom m).1 h1).resolve_left hm, h2, h3⟩)
 refine ⟨⟨fun m b' hm => ?_, fun m m' lm lm' h1 h2 h3 h4 h5 => ?_, fun m l h1 h2 => ?_, fun k hk => ?_⟩, ext, hX, hB, fun k hk => hkeep k (hH.xlt k hk) fun l h1 h2 h3 => ?_⟩
 ·by_cases hmn' : m = n
  ·subst hmn'
   simp only [after, List.find?, beq_self_eq_true, Option.some.injEq] at hm
   subst hm
   exact hb ext
  ·rw [old m hmn'] at hm
   cases hb' : H m with
   | none => rw [hb'] at hm; cases hm
   | some b0 =>
    rw [hb'] at hm
    simp only [Option.map_some, Option.some.injEq] at hm
    subst hm
    refine (hH.blk m b0 hb').scrub ext hmv (fun h => hmn' (hmn m h)) fun l hl => hkeep _ (lt m l (by simp [hb']) hl) fun l0 g1 g2 g3 => ?_
    exact hmn' (hH.inj m n l l0 (by simp [hb']) g1 hl g2 g3.symm)
 ·by_cases e1 : m = n
  ·subst e1
   by_cases e2 : m' = m
   ·exact e2.symm
   ·rw [hmvn m' e2] at h4
    have hm' := ((dom m').1 h2).resolve_left e2
    rcases hnew lm h3 with g | ⟨g1, l0, g2, g3⟩
    ·have := lt m' lm' hm' h4; omega
    ·exact hH.inj m m' l0 lm' g1 hm' g2 h4 (g3.trans h5)
  ·have hm := ((dom m).1 h1).resolve_left e1
   rw [hmvn m e1] at h3
   by_cases e2 : m' = n
   ·subst e2
    rcases hnew lm' h4 with g | ⟨g1, l0, g2, g3⟩
    ·have := lt m lm hm h3; omega
    ·exact hH.inj m m' lm l0 hm g1 h3 g2 (h5.trans g3.symm)
   ·rw [hmvn m' e2] at h4
    exact hH.inj m m' lm lm' hm (((dom m').1 h2).resolve_left e2) h3 h4 h5
 ·rw [hX]
  by_cases e1 : m = n
  ·subst e1
   rcases hnew l h2 with g | ⟨g1, l0, g2, g3⟩
   ·intro hx; have := hH.xlt _ hx; omega
   ·rw [← g3]; exact hH.dis m l0 g1 g2
  ·rw [hmvn m e1] at h2
   exact hH.dis m l (((dom m).1 h1).resolve_left e1) h2
 ·rw [hX] at hk; exact Nat.lt_of_lt_of_le (hH.xlt k hk) hsize
 ·subst h3; exact hH.dis n l h1 h2 hk

theorem HRel.same {μ : Map} {w w' : World} {H : Heap} (hH : HRel μ w H) (hsize : w.heap.size ≤ w'.heap.size) (hout : w'.output = w.output) (hos : w'.os = w.os) (htape : w'.tape = w.tape)
  (hkeep : ∀ k, k < w.heap.size → w'.heap[k]? = w.heap[k]?) : HRel μ w' H ∧ Ev μ H w μ H w' := by
 have ext : Ext (ownOf μ H) w (ownOf μ H) w' := ⟨hsize, fun k hk _ => hkeep k hk, fun _ _ h => h, hout, hos, htape⟩
 refine ⟨⟨fun m b hm => ?_, hH.inj, hH.dis, fun b hb => Nat.lt_of_lt_of_le (hH.xlt b hb) hsize⟩, ext, rfl, rfl, fun b hb => hkeep b (hH.xlt b hb)⟩
 have h := hH.blk m b hm
 exact h.ext ext rfl (fun _ _ => rfl) fun l hl => hkeep _ (h.lt l hl)

end Go.Gh
