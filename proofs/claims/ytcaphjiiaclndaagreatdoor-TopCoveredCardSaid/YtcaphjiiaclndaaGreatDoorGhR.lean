/- States; one operation as a step; a region that asks nothing. -/
import Derived.Test.YtcaphjiiaclndaaGreatDoorGhQ
import Derived.OrdersIn
namespace Go.Gh
set_option linter.unusedVariables false
set_option linter.unusedSimpArgs false

structure GS where
  env : List (Nat × G)
  hp : List (Nat × Blk)


def DefOK (μ : Map) (H : Heap) (w : World) (ds : List Deferred) : Prop :=
  μ.B ≤ w.heap.size ∧ ∃ Ds : List Nat, ds = Ds.map (fun D => { target := .collected D, args := #[] }) ∧ Ds.Nodup ∧ ∀ D ∈ Ds, μ.B ≤ D ∧ w.heap[D]? = some (.deferred (some [])) ∧ ¬ ownOf μ H D

theorem DefOK.ext {μ μ' : Map} {H H' : Heap} {w w' : World} {ds : List Deferred} (h : DefOK μ H w ds) (he : Ev μ H w μ' H' w') : DefOK μ' H' w' ds := by
  obtain ⟨h0, Ds, h1, h2, h3⟩ := h
  refine ⟨by rw [he.B]; exact Nat.le_trans h0 he.ext.size, Ds, h1, h2, fun D hD => ?_⟩
  obtain ⟨a1, a2, a3⟩ := h3 D hD
  have hlt : D < w.heap.size := (Array.getElem?_eq_some_iff.1 a2).1
  exact ⟨by rw [he.B]; exact a1, (he.ext.keep D hlt a3).trans a2, he.ext.nown D hlt a3⟩

structure SR (cx : Cx) (n : Nat) (E : Nat → G) (H : Heap) (μ : Map) (a : Act) (w : World) : Prop where
  heap : HRel μ w H
  env : ∀ t, VG μ w (ownOf μ H) (E t) (a.eval (.tmp t))
  defers : DefOK μ H w a.defers
  size : a.tmps.size = n
  glob : Glob cx μ w H

def gAny (cx : Cx) (o : Oper) (ev : Operand → G) (H : Heap) (es : List En) : Option (OR × List En) :=
  match o.op with
  | .call c => (match c.callee with | .value _ => (match gCall cx c ev H es with | some r => some r | none => gYield cx c ev H es) | _ => gOpX cx.T o ev H es)
  | _ => (match gOpX cx.T o ev H es with | some r => some r | none => gMap cx.P cx.T o ev H es)

section
variable {cx : Cx} {n : Nat} {E : Nat → G} {H : Heap} {μ : Map} {a : Act} {w : World}

theorem SR.ev (h : SR cx n E H μ a w) (x : Operand) : VG μ w (ownOf μ H) (evG E cx.gl x) (a.eval x) := by
  cases x with
  | tmp t => exact h.env t
  | const v =>
    show VG μ w (ownOf μ H) (if v.cells.toList.all (·.oneCell') then constG v else .undef) v
    split
    · rename_i hc; exact constG_rel v (.inl hc)
    · exact trivial
  | global g => exact h.glob g
  | func f => rfl

theorem gAny_ok (hcx : CxOK cx) {o : Oper} {ev : Operand → G} {H0 : Heap} {es es' : List En} {R : OR} (hg : gAny cx o ev H0 es = some (R, es')) (hc : AllP R.cs) (hrd : ∀ x ∈ R.rd, H x.1 = some x.2)
    (hx : ∀ x ∈ o.op.operands.toList, VG μ w (ownOf μ H) (ev x) (a.eval x)) (hH : HRel μ w H) (hgl : Glob cx μ w H) : OpWP cx o a μ w H R := by
  unfold gAny at hg
  split at hg
  · rename_i c ho
    split at hg
    · split at hg
      · rename_i r hr
        cases hg
        exact call_ok hcx ho hr hc hrd hx hH hgl
      · exact yield_ok hcx ho hg hc hrd hx hH hgl
    · exact (gOpX_ok hcx.tok hg hc hrd hx hH).wp hcx (gOpX_nd hg)
  · split at hg
    · rename_i r hr
      cases hg
      exact (gOpX_ok hcx.tok hr hc hrd hx hH).wp hcx (gOpX_nd hr)
    · exact (gMap_ok hcx.tok hg hc hrd hx hH).wp hcx (gMap_nd hg)

theorem Act.eval_put_tmp {a : Act} {dst : Option Tmp} {v : Value} {t : Nat} (hd : ∀ d, dst = some d → d < a.tmps.size) : (a.put dst v).eval (.tmp t) = if dst = some t then v else a.eval (.tmp t) := by
  cases dst with
  | none => simp [Act.put]
  | some d =>
    have hd := hd d rfl
    by_cases h : d = t
    · subst h; simp [Act.put, Act.eval, hd]
    · simp [Act.put, Act.eval, h, Array.getElem?_setIfInBounds_ne h]

theorem Act.put_size {a : Act} {dst : Option Tmp} {v : Value} : (a.put dst v).tmps.size = a.tmps.size := by
  cases dst <;> simp [Act.put]
theorem Act.put_def {a : Act} {dst : Option Tmp} {v : Value} : (a.put dst v).defers = a.defers := by
  cases dst <;> simp [Act.put]

theorem VG.scrub' {μ μ' : Map} {w w' : World} {H H' : Heap} {mv : List Nat} (h : Ev μ H w μ' H' w') (hm : ∀ n, n ∉ mv → μ' n = μ n) {g : G} {v : Value} (hv : VG μ w (ownOf μ H) g v) : VG μ' w' (ownOf μ' H') (g.scrub mv) v :=
  VG.scrub (ns := mv) h.ext hm hv

theorem SR.op (hcx : CxOK cx) (h : SR cx n E H μ a w) {o : Oper} {R : OR} (hr : OpWP cx o a μ w H R) (hd : ∀ d, o.dst = some d → d < n) {Q : Exit → Act → World → Prop} {K : Act → World → Prop}
    (k : ∀ μ' a' w', SR cx n (fun t => if o.dst = some t then R.val else (E t).scrub R.mv) (after R.mv R.wr H) μ' a' w' → Ev μ H w μ' (after R.mv R.wr H) w' → (∀ m, m ∉ R.mv → μ' m = μ m) → K a' w') : o.wpIn cx.F 0 cx.P a w K Q := by
  refine Oper.wpIn_mono ?_ (hr Q)
  rintro a' w' ⟨v, μ', rfl, h1, h2, h3, h4⟩
  refine k μ' _ w' ⟨h2, fun t => ?_, by rw [Act.put_def]; exact h.defers.ext h3, by rw [Act.put_size]; exact h.size, fun g => ?_⟩ h3 h1
  · rw [Act.eval_put_tmp (fun d e => by rw [h.size]; exact hd d e)]
    by_cases ht : o.dst = some t
    · rw [if_pos ht, if_pos ht]; exact h4
    · rw [if_neg ht, if_neg ht]; exact VG.scrub' h3 h1 (h.env t)
  · exact VA.ext h3.ext (by rw [hcx.gl]; simp) (h.glob g)

theorem SR.skip (h : SR cx n E H μ a w) {o : Oper} (hd : ∀ d, o.dst = some d → d < n) : SR cx n (fun t => if o.dst = some t then .a .unit0 else E t) H μ (a.put o.dst undef) w := by
  refine ⟨h.heap, fun t => ?_, by rw [Act.put_def]; exact h.defers, by rw [Act.put_size]; exact h.size, h.glob⟩
  rw [Act.eval_put_tmp (fun d e => by rw [h.size]; exact hd d e)]
  by_cases ht : o.dst = some t
  · rw [if_pos ht, if_pos ht]; exact rfl
  · rw [if_neg ht, if_neg ht]; exact h.env t
end

def gWant (ops : Array Oper) (o : Oper) (E : Nat → G) (es : List En) : Option (Bool × List Prop × List En) :=
  match o.guard with
  | none => some (true, [], es)
  | some (j, want) => (match (ops[j]?).bind (·.dst) with
    | some t => (match E t, es with
      | .r (.at (.bool cb)), .br d :: es' => some (d == want, [cb = d], es')
      | .r (.at .unit0), es => some (false, [], es)
      | _, _ => none)
    | none => none)

theorem gWant_ok {cx : Cx} {n : Nat} {E0 E : Nat → G} {H : Heap} {μ : Map} {a : Act} {w : World} (h : SR cx n E H μ a w) {ops : Array Oper} {o : Oper} {es es' : List En} {b : Bool} {cs : List Prop}
    (hg : gWant ops o E0 es = some (b, cs, es')) (hc : AllP cs) (hE : ∀ j want t, o.guard = some (j, want) → (ops[j]?).bind (·.dst) = some t → E t = E0 t) : Region.wanted o (yielded ops a.tmps) = b := by
  unfold gWant at hg
  unfold Region.wanted
  split at hg
  · rename_i h0
    simp only [Option.some.injEq, Prod.mk.injEq] at hg; obtain ⟨rfl, rfl, rfl⟩ := hg
    simp only [h0]
  · rename_i j want h0
    simp only [h0]
    split at hg
    · rename_i t ht
      split at hg
      · rename_i cb d es1 hev
        simp only [Option.some.injEq, Prod.mk.injEq] at hg; obtain ⟨rfl, rfl, rfl⟩ := hg
        have h1 := h.env t
        rw [hE j want t h0 ht, hev] at h1
        have h2 : a.tmps.getD t undef = .bool cb := h1
        have h3 : a.tmps[t]? = some (.bool cb) := by
          rw [Array.getD_eq_getD_getElem?] at h2
          cases h4 : a.tmps[t]? with
          | none => rw [h4] at h2; cases h2
          | some v => rw [h4] at h2; exact congrArg some h2
        unfold yielded
        rw [ht]
        simp only [Option.bind_some, h3]
        obtain ⟨rfl, _⟩ := hc
        cases cb <;> cases want <;> rfl
      · rename_i hev
        simp only [Option.some.injEq, Prod.mk.injEq] at hg; obtain ⟨rfl, rfl, rfl⟩ := hg
        have h1 := h.env t
        rw [hE j want t h0 ht, hev] at h1
        have h2 : a.tmps.getD t undef = .tuple #[] := h1
        unfold yielded
        rw [ht, Option.bind_some]
        rw [Array.getD_eq_getD_getElem?] at h2
        cases h4 : a.tmps[t]? with
        | none => rfl
        | some v => rw [h4] at h2; simp only [Option.getD_some] at h2; subst h2; rfl
      · cases hg
    · cases hg

def setE (env : List (Nat × G)) (d : Option Nat) (g : G) : List (Nat × G) := match d with | some t => (t, g) :: env.filter (fun x => !(x.1 == t)) | none => env
def scrubE (mv : List Nat) (env : List (Nat × G)) : List (Nat × G) := match mv with | [] => env | _ => env.map fun x => (x.1, x.2.scrub mv)
def scrubH (mv : List Nat) (hp : List (Nat × Blk)) : List (Nat × Blk) := match mv with | [] => hp | _ => hp.map fun x => (x.1, x.2.scrub mv)
def putH (n : Nat) (b : Option Blk) (hp : List (Nat × Blk)) : List (Nat × Blk) :=
  match b with
  | some b => if hp.any (·.1 == n) then hp.map (fun x => if x.1 == n then (n, b) else x) else hp ++ [(n, b)]
  | none => hp.filter fun x => !(x.1 == n)
def wrsH : List (Nat × Option Blk) → List (Nat × Blk) → List (Nat × Blk)
  | [], hp => hp
  | (n, b) :: wr, hp => putH n b (wrsH wr hp)

theorem G.scrub_undef (mv : List Nat) : G.scrub mv .undef = .undef := by
  simp [G.scrub, GR.scrub, GA.scrub]

theorem GA.scrub_nil (g : GA) : g.scrub [] = g := by unfold GA.scrub; rw [if_neg (by simp)]
theorem Slot.scrub_nil (s : Slot) : s.scrub [] = s := by cases s <;> simp [Slot.scrub, GA.scrub_nil]
theorem GR.scrub_nil (s : GR) : s.scrub [] = s := by cases s <;> simp [GR.scrub, GA.scrub_nil, funext Slot.scrub_nil]
theorem G.scrub_nil (s : G) : s.scrub [] = s := by cases s <;> simp [G.scrub, funext GR.scrub_nil, GR.scrub_nil]
theorem Blk.scrub_nil (s : Blk) : s.scrub [] = s := by cases s <;> simp [Blk.scrub, funext Slot.scrub_nil, G.scrub_nil]

theorem envOf_cons (x : Nat × G) (env : List (Nat × G)) (t : Nat) : envOf (x :: env) t = if x.1 = t then x.2 else envOf env t := by
  unfold envOf
  by_cases h : x.1 = t
  · rw [if_pos h, List.find?_cons_of_pos (by simpa using h)]
  · rw [if_neg h, List.find?_cons_of_neg (by simpa using h)]

theorem envOf_filter (env : List (Nat × G)) {d t : Nat} (h : d ≠ t) : envOf (env.filter fun x => !(x.1 == d)) t = envOf env t := by
  induction env with
  | nil => rfl
  | cons x env ih =>
    rw [List.filter_cons]
    by_cases hx : x.1 = d
    · rw [if_neg (by simp [hx]), ih, envOf_cons, if_neg (fun e => h (hx ▸ e))]
    · rw [if_pos (by simp [hx]), envOf_cons, envOf_cons, ih]

theorem envOf_setE (env : List (Nat × G)) (d : Option Nat) (g : G) (t : Nat) : envOf (setE env d g) t = if d = some t then g else envOf env t := by
  cases d with
  | none => simp [setE]
  | some d =>
    unfold setE
    rw [envOf_cons]
    by_cases h : d = t
    · simp [h]
    · rw [if_neg h, if_neg (by simpa using h), envOf_filter _ h]

theorem envOf_scrubE (env : List (Nat × G)) (mv : List Nat) (t : Nat) : envOf (scrubE mv env) t = (envOf env t).scrub mv := by
  unfold scrubE
  split
  · rw [G.scrub_nil]
  · induction env with
    | nil => exact (G.scrub_undef _).symm
    | cons x env ih => rw [List.map_cons, envOf_cons, envOf_cons]; split; · rfl
                       · exact ih

theorem mapOf_cons (x : Nat × Blk) (K : List (Nat × Blk)) (t : Nat) : mapOf (x :: K) t = if x.1 = t then some x.2 else mapOf K t := by
  unfold mapOf
  by_cases h : x.1 = t
  · rw [if_pos h, List.find?_cons_of_pos (by simpa using h)]; rfl
  · rw [if_neg h, List.find?_cons_of_neg (by simpa using h)]

theorem mapOf_append (K L : List (Nat × Blk)) (t : Nat) : mapOf (K ++ L) t = (mapOf K t).or (mapOf L t) := by
  induction K with
  | nil => simp [mapOf]
  | cons x K ih => rw [List.cons_append, mapOf_cons, mapOf_cons, ih]; split <;> rfl

theorem mapOf_putH (K : List (Nat × Blk)) (n : Nat) (b : Option Blk) (t : Nat) : mapOf (putH n b K) t = if n = t then b else mapOf K t := by
  unfold putH
  cases b with
  | none =>
    simp only []
    induction K with
    | nil => simp [mapOf]
    | cons x K ih =>
      rw [List.filter_cons]
      by_cases hx : x.1 = n
      · rw [if_neg (by simp [hx]), ih, mapOf_cons]
        by_cases h : n = t
        · simp [h]
        · rw [if_neg h, if_neg h, if_neg (fun e => h (hx ▸ e))]
      · rw [if_pos (by simp [hx]), mapOf_cons, mapOf_cons, ih]
        by_cases h : n = t
        · rw [if_pos h, if_pos h, if_neg (fun e => hx (h ▸ e))]
        · rw [if_neg h, if_neg h]
  | some b =>
    simp only []
    by_cases ha : K.any (·.1 == n) = true
    · rw [if_pos ha]
      induction K with
      | nil => cases ha
      | cons x K ih =>
        rw [List.map_cons, mapOf_cons, mapOf_cons]
        by_cases hx : x.1 = n
        · have : (x.1 == n) = true := by simpa using hx
          simp only [this, if_true]
          by_cases h : n = t
          · rw [if_pos h, if_pos h]
          · rw [if_neg h, if_neg h, if_neg (by rw [hx]; exact h)]
            by_cases ha' : K.any (·.1 == n) = true
            · rw [ih ha', if_neg h]
            · have : K.map (fun x => if (x.1 == n) = true then (n, b) else x) = K := by
                have h2 : ∀ y ∈ K, (if (y.1 == n) = true then (n, b) else y) = y := by
                  intro y hy
                  rw [if_neg]
                  intro h3
                  exact ha' (List.any_eq_true.2 ⟨y, hy, h3⟩)
                rw [List.map_congr_left h2]; simp
              rw [this]
        · have hx' : (x.1 == n) = false := by simpa using hx
          rw [List.any_cons, hx', Bool.false_or] at ha
          simp only [hx', Bool.false_eq_true, if_false]
          rw [ih ha]
          by_cases h : n = t
          · rw [if_pos h, if_pos h, if_neg (fun e => hx (e.trans h.symm))]
          · rw [if_neg h, if_neg h]
    · rw [if_neg ha, mapOf_append]
      have : mapOf K n = none := by
        cases h : mapOf K n with
        | none => rfl
        | some b' => exact absurd (List.any_eq_true.2 ⟨_, mapOf_mem h, by simp⟩) ha
      by_cases h : n = t
      · subst h; rw [this]; simp [mapOf]
      · have : mapOf [(n, b)] t = none := by simp [mapOf, List.find?, show (n == t) = false by simpa using h]
        rw [this, if_neg h, Option.or_none]

theorem mapOf_scrubH (mv : List Nat) (K : List (Nat × Blk)) (t : Nat) : mapOf (scrubH mv K) t = (mapOf K t).map (·.scrub mv) := by
  unfold scrubH
  split
  · cases mapOf K t <;> simp [Blk.scrub_nil]
  · induction K with
    | nil => rfl
    | cons x K ih => rw [List.map_cons, mapOf_cons, mapOf_cons, ih]; split <;> rfl

theorem mapOf_after (mv : List Nat) (wr : List (Nat × Option Blk)) (hp : List (Nat × Blk)) : mapOf (wrsH wr (scrubH mv hp)) = after mv wr (mapOf hp) := by
  funext t
  unfold after
  induction wr with
  | nil => rw [wrsH, mapOf_scrubH]; rfl
  | cons x wr ih =>
    obtain ⟨n, b⟩ := x
    rw [wrsH, mapOf_putH]
    by_cases h : n = t
    · rw [if_pos h, List.find?_cons_of_pos (by simpa using h)]
    · rw [if_neg h, List.find?_cons_of_neg (by simpa using h)]; exact ih

end Go.Gh
