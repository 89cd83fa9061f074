/- One operation with its calls. -/
import Derived.Test.YtcaphjiiaclndaaGreatDoorGhO
namespace Go.Gh
set_option linter.unusedVariables false
set_option linter.unusedSimpArgs false

def coA : CoA → GA → Option (GA × List Prop)
  | .nilTo t, .nils => if t.okB = true ∧ 0 < t.size then some (.lst t [] false, []) else none
  | .optNil t, .nils => some (.olst t none, [])
  | .opt t, .lst t' xs _ => if h : t' = t then some (.olst t (some (h ▸ xs)), [xs ≠ []]) else none
  | .unclip, .lst t xs _ => some (.lst t xs false, [])
  | .unopt, .olst t o => if t.okB = true ∧ 0 < t.size then some (.lst t (o.getD []) false, []) else none
  | .und, _ => some (.undef, [])
  | _, _ => none

section
variable {μ : Map} {w : World} {own : Nat → Prop}
theorem coA_rel {c : CoA} {g g' : GA} {cs : List Prop} {v : Value} (h : coA c g = some (g', cs)) (hc : AllP cs) (hv : VA μ w own g v) : VA μ w own g' v := by
  unfold coA at h
  split at h
  · split at h
    · rename_i hcond
      simp only [Option.some.injEq, Prod.mk.injEq] at h; obtain ⟨rfl, rfl⟩ := h
      simp only [VA] at hv; subst hv
      exact ⟨none, 0, rfl, ⟨⟨hcond.2, Ty.ok_of_okB hcond.1⟩, by simp [RepSl]⟩, by simp⟩
    · cases h
  · simp only [Option.some.injEq, Prod.mk.injEq] at h; obtain ⟨rfl, rfl⟩ := h
    exact .inl ⟨rfl, hv⟩
  · split at h
    · rename_i t' t xs b ht
      subst ht
      simp only [Option.some.injEq, Prod.mk.injEq] at h; obtain ⟨rfl, rfl⟩ := h
      obtain ⟨a, cap, rfl, hl, _⟩ := hv
      cases a with
      | none =>
        have h0 := hl.2.2.1 rfl
        have h1 := hl.2.1
        exact absurd (List.eq_nil_of_length_eq_zero (by omega)) hc.1
      | some ad => exact .inr ⟨_, ad, cap, rfl, rfl, hl⟩
    · cases h
  · simp only [Option.some.injEq, Prod.mk.injEq] at h; obtain ⟨rfl, rfl⟩ := h
    obtain ⟨a, cap, rfl, hl, _⟩ := hv
    exact ⟨a, cap, rfl, hl, by simp⟩
  · split at h
    · rename_i hcond
      simp only [Option.some.injEq, Prod.mk.injEq] at h; obtain ⟨rfl, rfl⟩ := h
      rcases hv with ⟨rfl, rfl⟩ | ⟨xs, ad, cap, rfl, rfl, hl⟩
      · exact ⟨none, 0, rfl, ⟨⟨hcond.2, Ty.ok_of_okB hcond.1⟩, by simp [RepSl]⟩, by simp⟩
      · exact ⟨some ad, cap, rfl, hl, by simp⟩
    · cases h
  · simp only [Option.some.injEq, Prod.mk.injEq] at h; obtain ⟨rfl, rfl⟩ := h
    trivial
  · cases h

def coSlots (c : CoA) : Nat → List Slot → Option (List Slot × List Prop)
  | 0, .cell g :: ss => (match coA c g with | some (g', cs) => some (.cell g' :: ss, cs) | none => none)
  | j + 1, s :: ss => (match coSlots c j ss with | some (ss', cs) => some (s :: ss', cs) | none => none)
  | _, _ => none

theorem coSlots_rel {c : CoA} : {j : Nat} → {ss ss' : List Slot} → {cs : List Prop} → {vs : List Value} → coSlots c j ss = some (ss', cs) → AllP cs → VS μ w own ss vs → VS μ w own ss' vs
  | 0, .cell g :: ss, ss', cs, vs, h, hc, hv => by
    simp only [coSlots] at h
    split at h
    · rename_i g' cs' hg
      simp only [Option.some.injEq, Prod.mk.injEq] at h; obtain ⟨rfl, rfl⟩ := h
      obtain ⟨v, vs', rfl, h1, h2, h3⟩ := hv
      exact ⟨v, vs', rfl, h1, coA_rel hg hc h2, h3⟩
    · cases h
  | 0, .arr .. :: _, _, _, _, h, _, _ => by simp [coSlots] at h
  | 0, [], _, _, _, h, _, _ => by simp [coSlots] at h
  | _ + 1, [], _, _, _, h, _, _ => by simp [coSlots] at h
  | j + 1, s :: ss, ss', cs, vs, h, hc, hv => by
    simp only [coSlots] at h
    split at h
    · rename_i ss1 cs1 h1
      simp only [Option.some.injEq, Prod.mk.injEq] at h; obtain ⟨rfl, rfl⟩ := h
      cases s with
      | cell g =>
        obtain ⟨v, vs', rfl, k1, k2, k3⟩ := hv
        exact ⟨v, vs', rfl, k1, k2, coSlots_rel h1 hc k3⟩
      | arr t n xs =>
        obtain ⟨k0, k1, c1, vs', rfl, k2, k3⟩ := hv
        exact ⟨k0, k1, c1, vs', rfl, k2, coSlots_rel h1 hc k3⟩
    · cases h

def coG (c : CoA) (j : Option Nat) : G → Option (G × List Prop)
  | .r (.at g) => (match j, coA c g with | none, some (g', cs) => some (.r (.at g'), cs) | _, _ => none)
  | .r (.agg ss) => (match j with
    | some j => (match coSlots c j ss with | some (ss', cs) => some (.r (.agg ss'), cs) | none => none)
    | none => none)
  | _ => none

theorem coG_rel {c : CoA} {j : Option Nat} {g g' : G} {cs : List Prop} {v : Value} (h : coG c j g = some (g', cs)) (hc : AllP cs) (hv : VG μ w own g v) : VG μ w own g' v := by
  unfold coG at h
  split at h
  · split at h
    · rename_i g1 cs1 h1
      simp only [Option.some.injEq, Prod.mk.injEq] at h; obtain ⟨rfl, rfl⟩ := h
      exact coA_rel h1 hc hv
    · cases h
  · split at h
    · split at h
      · rename_i ss1 cs1 h1
        simp only [Option.some.injEq, Prod.mk.injEq] at h; obtain ⟨rfl, rfl⟩ := h
        obtain ⟨vs, rfl, hs⟩ := hv
        exact ⟨vs, rfl, coSlots_rel h1 hc hs⟩
      · cases h
    · cases h
  · cases h
end

def gArg (H : Heap) : ArgCo → G → Option (G × List Nat × List (Nat × Blk) × List Prop)
  | .id, g => some (g, [], [], [])
  | .cast c, g => (match coG c none g with | some (g', cs) => some (g', [], [], cs) | none => none)
  | .castAt j c, g => (match coG c (some j) g with | some (g', cs) => some (g', [], [], cs) | none => none)
  | .lend, .r (.at (.sl n off len)) => (match H n with
    | some (.gr τ e xs mv) => some (.a (.lst τ ((List.take (off + len) xs).drop off) false), [n], [(n, .gr τ e xs mv)], [off + len ≤ List.length xs])
    | _ => none)
  | .lend, .r (.at (.vw n base off len)) => (match H n with
    | some (.var ss) => (match splitSlots ss base with
      | some (_, .arr τ _ xs :: _) => if τ.size = 1 then some (.a (.lst τ ((List.take (off + len) xs).drop off) false), [n], [(n, .var ss)], [off + len ≤ List.length xs]) else none
      | _ => none)
    | _ => none)
  | _, _ => none

def gArgs (H : Heap) : List ArgCo → List G → Option (List G × List Nat × List (Nat × Blk) × List Prop)
  | [], gs => some (gs, [], [], [])
  | c :: cos, g :: gs => (match gArg H c g, gArgs H cos gs with
    | some (g', l, rd, cs), some (gs', l', rd', cs') => some (g' :: gs', l ++ l', rd ++ rd', cs ++ cs')
    | _, _ => none)
  | _ :: _, [] => none

def fnOf : GA → List GA → List GA → Option (FuncId × List GA × List GA)
  | .fn f, xs, ys => some (f, xs, ys)
  | .app1 g c, xs, ys => fnOf g (c :: xs) ys
  | .app2 g c, xs, ys => fnOf g xs (c :: ys)
  | _, _, _ => none

theorem fnOf_rel {μ : Map} {w : World} {own : Nat → Prop} : {g : GA} → {xs ys xs' ys' : List GA} → {f : FuncId} → {fn : Fn} → {first caps : Array Value} → {vx vy : List Value} → fnOf g xs ys = some (f, xs', ys') → VA μ w own g (.func fn first caps) →
    VL μ w own (xs.map .at) vx → VL μ w own (ys.map .at) vy → fn = .func f ∧ VL μ w own (xs'.map .at) (first.toList ++ vx) ∧ VL μ w own (ys'.map .at) (caps.toList ++ vy)
  | .fn f0, xs, ys, xs', ys', f, fn, first, caps, vx, vy, h, hv, hx, hy => by
    simp only [fnOf, Option.some.injEq, Prod.mk.injEq] at h
    obtain ⟨rfl, rfl, rfl⟩ := h
    simp only [VA, Value.func.injEq] at hv
    obtain ⟨rfl, rfl, rfl⟩ := hv
    exact ⟨rfl, by simpa using hx, by simpa using hy⟩
  | .app1 g c, xs, ys, xs', ys', f, fn, first, caps, vx, vy, h, hv, hx, hy => by
    simp only [fnOf] at h
    obtain ⟨fn0, first0, caps0, cv, he, h1, h2⟩ := hv
    simp only [Value.func.injEq] at he
    obtain ⟨rfl, rfl, rfl⟩ := he
    have := fnOf_rel h h1 (vx := cv :: vx) ⟨cv, vx, rfl, h2, hx⟩ hy
    simpa using this
  | .app2 g c, xs, ys, xs', ys', f, fn, first, caps, vx, vy, h, hv, hx, hy => by
    simp only [fnOf] at h
    obtain ⟨fn0, first0, caps0, cv, he, h1, h2⟩ := hv
    simp only [Value.func.injEq] at he
    obtain ⟨rfl, rfl, rfl⟩ := he
    have := fnOf_rel h h1 hx (vy := cv :: vy) ⟨cv, vy, rfl, h2, hy⟩
    simpa using this
  | .undef, _, _, _, _, _, _, _, _, _, _, h, _, _, _ | .unit0, _, _, _, _, _, _, _, _, _, _, h, _, _, _ | .int .., _, _, _, _, _, _, _, _, _, _, h, _, _, _ | .bool _, _, _, _, _, _, _, _, _, _, _, h, _, _, _
  | .str _, _, _, _, _, _, _, _, _, _, _, h, _, _, _ | .lst .., _, _, _, _, _, _, _, _, _, _, h, _, _, _ | .olst .., _, _, _, _, _, _, _, _, _, _, h, _, _, _ | .nils, _, _, _, _, _, _, _, _, _, _, h, _, _, _
  | .sl .., _, _, _, _, _, _, _, _, _, _, h, _, _, _ | .ptr .., _, _, _, _, _, _, _, _, _, _, h, _, _, _ | .ptg .., _, _, _, _, _, _, _, _, _, _, h, _, _, _ | .vw .., _, _, _, _, _, _, _, _, _, _, h, _, _, _
  | .nilp, _, _, _, _, _, _, _, _, _, _, h, _, _, _ | .ipt .., _, _, _, _, _, _, _, _, _, _, h, _, _, _ | .ipa .., _, _, _, _, _, _, _, _, _, _, h, _, _, _ | .nilf, _, _, _, _, _, _, _, _, _, _, h, _, _, _
  | .mp _, _, _, _, _, _, _, _, _, _, _, h, _, _, _ | .nilm, _, _, _, _, _, _, _, _, _, _, h, _, _, _ | .yl _, _, _, _, _, _, _, _, _, _, _, h, _, _, _ => by simp [fnOf] at h

def gAts (xs : List GA) : List G := xs.map fun g => .r (.at g)

def namesOf (K : List (Nat × Blk)) : List Nat := K.map (·.1)

def subK (H : Heap) (ns : List Nat) : List (Nat × Blk) := ns.filterMap fun n => (H n).map fun b => (n, b)

def gCall (cx : Cx) (c : Call) (ev : Operand → G) (H : Heap) (es : List En) : Option (OR × List En) :=
  match c.callee, es with
  | .value fv, .call cos ns mvd v K0 :: es' => (match ev fv with
    | .r (.at g) => (match fnOf g [] [] with
      | some (f, xs, ys) => (match gArgs H cos (c.args.toList.map ev) with
        | some (gs, L, rd, cs) =>
          let ro := ns.filter fun n => !(namesOf K0).contains n
          let rw' := ns.filter fun n => (namesOf K0).contains n
          let K' := K0 ++ subK H ro
          let mv := (mvd.filter fun n => (namesOf K').contains n) ++ ((namesOf K').filter fun n => !ns.contains n)
          if L.all (fun n => !ns.contains n) = true ∧ ns.all (fun n => (H n).isSome) = true ∧ (K'.all fun x => x.2.men.all fun m => (namesOf K').contains m) = true ∧ (v.men.all fun m => (namesOf K').contains m) = true ∧
              (L.isEmpty || ((K'.all fun x => x.2.bare) && v.bare)) = true ∧ ((subK H ro).all fun x => x.2.men.all fun m => !mv.contains m) = true then
            some ({ val := v, rd := rd ++ subK H ns, wr := (rw'.map fun n => (n, mapOf K' n)) ++ ((K'.filter fun x => !ns.contains x.1).map fun x => (x.1, some x.2)), mv := mv,
                    cs := CallOK cx f (gAts xs ++ gs ++ gAts ys) (subK H ns) mvd v K' :: cs }, es')
          else none
        | none => none)
      | none => none)
    | _ => none)
  | _, _ => none

def gYield (cx : Cx) (c : Call) (ev : Operand → G) (H : Heap) (es : List En) : Option (OR × List En) :=
  match c.callee, es with
  | .value fv, .call cos ns mvd v K0 :: es' => (match ev fv, v with
    | .r (.at (.yl m)), .r (.at (.bool true)) => (match H m with
      | some (.lpb Rc) => (match gArgs H cos (c.args.toList.map ev) with
        | some (gs, L, rd, cs) =>
          let ro := ns.filter fun n => !(namesOf K0).contains n
          let rw' := ns.filter fun n => (namesOf K0).contains n
          let K' := K0 ++ subK H ro
          let mv := (mvd.filter fun n => (namesOf K').contains n) ++ ((namesOf K').filter fun n => !ns.contains n)
          if L = [] ∧ ns.contains m = false ∧ ns.all (fun n => (H n).isSome) = true ∧ (K'.all fun x => x.2.men.all fun m => (namesOf K').contains m) = true ∧ ((subK H ro).all fun x => x.2.men.all fun m => !mv.contains m) = true then
            some ({ val := v, rd := (m, .lpb Rc) :: (rd ++ subK H ns), wr := (rw'.map fun n => (n, mapOf K' n)) ++ ((K'.filter fun x => !ns.contains x.1).map fun x => (x.1, some x.2)), mv := mv,
                    cs := YOK cx Rc gs (subK H ns) mvd K' :: cs }, es')
          else none
        | none => none)
      | _ => none)
    | _, _ => none)
  | _, _ => none

def OpWP (cx : Cx) (o : Oper) (a : Act) (μ : Map) (w : World) (H : Heap) (R : OR) : Prop :=
  ∀ Q, o.wpIn cx.F 0 cx.P a w (fun a' w' => ∃ v μ', a' = a.put o.dst v ∧ (∀ m, m ∉ R.mv → μ' m = μ m) ∧ HRel μ' w' (after R.mv R.wr H) ∧ Ev μ H w μ' (after R.mv R.wr H) w' ∧
    VG μ' w' (ownOf μ' (after R.mv R.wr H)) R.val v) Q

theorem OpOK.wp {cx : Cx} (hcx : CxOK cx) {o : Oper} {a : Act} {μ : Map} {w : World} {H : Heap} {R : OR} (h : OpOK cx.P o a μ w H R) (hnd : ∀ c, o.op ≠ .defer c) : OpWP cx o a μ w H R := by
  obtain ⟨v, w', μ', hr, h1, h2, h3, h4⟩ := h
  intro Q
  unfold Oper.wpIn
  refine ⟨fun f _ => hcx.fn f, ?_⟩
  rw [Oper.semAt_eq _ _ _ hnd]
  rcases hr with hr | ⟨hr, rfl⟩
  · rw [hr]; exact ⟨v, μ', rfl, h1, h2, h3, h4⟩
  · rw [hr]; exact ⟨undef, μ', rfl, h1, h2, h3, h4⟩

theorem VGs.append {μ : Map} {w : World} {own : Nat → Prop} : {xs ys : List G} → {vx vy : List Value} → VGs μ w own xs vx → VGs μ w own ys vy → VGs μ w own (xs ++ ys) (vx ++ vy)
  | [], _, _, _, h, k => by simp only [VGs] at h; subst h; exact k
  | x :: xs, _, _, _, h, k => by
    obtain ⟨v, vs, rfl, h1, h2⟩ := h
    exact ⟨v, _, rfl, h1, VGs.append h2 k⟩

theorem VL.gats {μ : Map} {w : World} {own : Nat → Prop} : {xs : List GA} → {vs : List Value} → VL μ w own (xs.map .at) vs → VGs μ w own (gAts xs) vs
  | [], _, h => h
  | x :: xs, _, h => by
    obtain ⟨v, vs, rfl, h1, h2⟩ := h
    exact ⟨v, vs, rfl, h1, VL.gats h2⟩

theorem VGs.ext {μ μ' : Map} {w w' : World} {own own' : Nat → Prop} (h : Ext own w own' w') : {xs : List G} → {vs : List Value} → (∀ n, μ' n = μ n) → VGs μ w own xs vs → VGs μ' w' own' xs vs
  | [], _, _, hv => hv
  | x :: xs, _, hm, hv => by
    obtain ⟨v, vs, rfl, h1, h2⟩ := hv
    exact ⟨v, vs, rfl, h1.ext h (fun n _ => hm n), VGs.ext h hm h2⟩

theorem CallOK.ofOpt {cx : Cx} {f : FuncId} {gs : List G} {K : List (Nat × Blk)} {mvd : List Nat} {v : G} {K' : List (Nat × Blk)} {t : Ty} {xs : List t.den}
    (h : ∀ o : Option (List t.den), o.getD [] = xs → CallOK cx f (.r (.at (.olst t o)) :: gs) K mvd v K') : CallOK cx f (.r (.at (.lst t xs false)) :: gs) K mvd v K' := by
  refine ⟨(h (some xs) rfl).1, fun μ w cargs hH hv hG => ?_⟩
  obtain ⟨v0, vs, rfl, h1, h2⟩ := hv
  obtain ⟨a, cap, rfl, hl, _⟩ := h1
  cases a with
  | none =>
    have h0 := hl.2.2.1 rfl
    have h1 := hl.2.1
    have hx : xs = [] := List.eq_nil_of_length_eq_zero (by omega)
    subst hx
    subst h0
    exact (h none rfl).2 μ w _ hH ⟨_, _, rfl, .inl ⟨rfl, rfl⟩, h2⟩ hG
  | some ad => exact (h (some xs) rfl).2 μ w _ hH ⟨_, _, rfl, .inr ⟨_, ad, cap, rfl, rfl, hl⟩, h2⟩ hG

end Go.Gh
