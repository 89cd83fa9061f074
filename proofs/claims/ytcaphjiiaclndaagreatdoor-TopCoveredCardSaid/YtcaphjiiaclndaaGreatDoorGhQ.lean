/- A call goes as its contract says. -/
import Derived.Test.YtcaphjiiaclndaaGreatDoorGhP
import Derived.RangeFuncRecord
namespace Go.Gh
set_option linter.unusedVariables false
set_option linter.unusedSimpArgs false

theorem mapOf_subK (H : Heap) (ns : List Nat) (n : Nat) : mapOf (subK H ns) n = if n ∈ ns then H n else none := by
 unfold mapOf subK
 induction ns with
 | nil => simp
 | cons m ns ih =>
  cases hm : H m with
  | none =>
   rw [List.filterMap_cons_none (by simp [hm]), ih]
   by_cases h1 : n = m
   ·subst h1; simp [hm]
   ·simp [h1]
  | some b =>
   rw [List.filterMap_cons_some (b := (m, b)) (by simp [hm])]
   by_cases h1 : n = m
   ·subst h1; simp [hm]
   ·have : (m == n) = false := by simp; exact fun e => h1 e.symm
    rw [List.find?_cons_of_neg (by simp [this]), ih]
    simp [h1]

theorem mapOf_ne {K : List (Nat × Blk)} {n : Nat} : mapOf K n ≠ none ↔ n ∈ namesOf K := by
 unfold mapOf namesOf
 induction K with
 | nil => simp
 | cons x K ih =>
  by_cases h : x.1 = n
  ·subst h; simp [List.find?]
  ·have : (x.1 == n) = false := by simpa using h
   simp only [List.find?, this, List.map_cons, List.mem_cons]
   rw [ih]
   simp [show ¬ n = x.1 from fun e => h e.symm]

theorem mapOf_mem {K : List (Nat × Blk)} {n : Nat} {b : Blk} (h : mapOf K n = some b) : (n, b) ∈ K := by
 unfold mapOf at h
 cases hf : K.find? (·.1 == n) with
 | none => rw [hf] at h; cases h
 | some x =>
  rw [hf] at h
  simp only [Option.map_some, Option.some.injEq] at h
  have h1 := List.mem_of_find?_eq_some hf
  have h2 := List.find?_some hf
  simp only [beq_iff_eq] at h2
  subst h2; subst h
  exact h1

theorem find_tell (f : Nat → Option Blk) {n : Nat} : {ns : List Nat} → n ∈ ns → (ns.map fun n => (n, f n)).find? (·.1 == n) = some (n, f n)
 | m :: ns, h => by
  by_cases hm : m = n
  ·subst hm; simp
  ·have hmn : (m == n) = false := by simpa using hm
   rw [List.map_cons, List.find?_cons_of_neg (by simp [hmn])]
   exact find_tell f ((List.mem_cons.1 h).resolve_left fun e => hm e.symm)

theorem find_new {n : Nat} {ns : List Nat} (h1 : n ∉ ns) : {K : List (Nat × Blk)} → mapOf K n ≠ none → ((K.filter fun x => !ns.contains x.1).map fun x => (x.1, some x.2)).find? (·.1 == n) = some (n, mapOf K n)
 | [], h2 => absurd rfl h2
 | x :: K, h2 => by
  by_cases hx : x.1 = n
  ·subst hx
   have : ns.contains x.1 = false := by simpa using h1
   rw [List.filter_cons_of_pos (by simp only [this, Bool.not_false])]
   simp [mapOf]
  ·have hxn : (x.1 == n) = false := by simpa using hx
   have e1 : mapOf (x :: K) n = mapOf K n := by simp [mapOf, List.find?, hxn]
   rw [e1] at h2 ⊢
   have := find_new h1 h2
   rw [List.filter_cons]
   split
   ·rw [List.map_cons, List.find?_cons_of_neg (by simp [hxn])]; exact this
   ·exact this

theorem mapOf_app (K L : List (Nat × Blk)) (t : Nat) : mapOf (K ++ L) t = (mapOf K t).or (mapOf L t) := by
 unfold mapOf
 rw [List.find?_append]
 cases K.find? (·.1 == t) <;> rfl

theorem Blk.scrub_id' {mv : List Nat} {g : Blk} (h : ∀ m ∈ g.men, m ∉ mv) : g.scrub mv = g := by
 have ga : ∀ a : GA, (∀ m ∈ a.men, m ∉ mv) → a.scrub mv = a := by
  intro a h
  unfold GA.scrub
  rw [if_neg]
  intro ha
  obtain ⟨m, h1, h2⟩ := List.any_eq_true.1 ha
  exact h m h1 (by simpa using h2)
 cases g with
 | var ss =>
  have : ∀ s ∈ ss, Slot.scrub mv s = s := by
   intro s hs
   have h' : ∀ m ∈ s.men, m ∉ mv := fun m hm => h m (List.mem_flatMap.2 ⟨s, hs, hm⟩)
   cases s with
   | cell a => exact congrArg Slot.cell (ga a h')
   | arr => rfl
  exact congrArg Blk.var (by rw [List.map_congr_left this]; simp)
 | gr => rfl
 | mpb => rfl
 | itb => rfl
 | lpb R =>
  have gs : ∀ ss : List Slot, (∀ m ∈ menSlots ss, m ∉ mv) → ss.map (Slot.scrub mv) = ss := by
   intro ss h
   conv => rhs; rw [← List.map_id ss]
   refine List.map_congr_left fun s hs => ?_
   have h' : ∀ m ∈ s.men, m ∉ mv := fun m hm => h m (List.mem_flatMap.2 ⟨s, hs, hm⟩)
   cases s with
   | cell a => exact congrArg Slot.cell (ga a h')
   | arr => rfl
  have gr : ∀ g : GR, (∀ m ∈ g.men, m ∉ mv) → g.scrub mv = g := by
   intro g h
   cases g with
   | «at» a => exact congrArg GR.at (ga a h)
   | agg ss => exact congrArg GR.agg (gs ss h)
  have gg : ∀ g : G, (∀ m ∈ g.men, m ∉ mv) → g.scrub mv = g := by
   intro g h
   cases g with
   | r g => exact congrArg G.r (gr g h)
   | tup gs =>
    refine congrArg G.tup ?_
    conv => rhs; rw [← List.map_id gs]
    exact List.map_congr_left fun g hg => gr g fun m hm => h m (List.mem_flatMap.2 ⟨g, hg, hm⟩)
  have : (R.env.map fun x => (x.1, x.2.scrub mv)) = R.env := by
   conv => rhs; rw [← List.map_id R.env]
   exact List.map_congr_left fun x hx => by rw [gg x.2 fun m hm => h m (List.mem_flatMap.2 ⟨x, hx, hm⟩)]; rfl
  exact congrArg Blk.lpb (by rw [this])

section
variable {cx : Cx} {o : Oper} {a : Act} {μ : Map} {w : World} {H : Heap}

theorem lend_own (hH : HRel μ w H) {HK : Heap} {ns L : List Nat} (hK : ∀ n, HK n = if n ∈ ns then H n else none) {n : Nat} {l : Loc} (h1 : H n ≠ none) (h2 : n ∈ L) (h3 : n ∉ ns) (hl : μ n = some l) :
  ¬ ownOf ⟨μ.f, sideX μ H ns L, μ.B⟩ HK l.blk := by
 rintro ((hx | ⟨m, l', g1, g2, g3, g4, g5⟩) | ⟨m, l', g1, g2, g3⟩)
 ·exact hH.dis n l h1 hl hx
 ·have := hH.inj m n l' l g1 h1 g4 hl g5
  exact g3 (this ▸ h2)
 ·have hm : m ∈ ns ∧ H m ≠ none := by
   rw [hK] at g1
   by_cases h : m ∈ ns
   ·rw [if_pos h] at g1; exact ⟨h, g1⟩
   ·rw [if_neg h] at g1; exact absurd rfl g1
  have := hH.inj m n l' l hm.2 h1 g2 hl g3
  exact h3 (this ▸ hm.1)

theorem gArg_rel (hH : HRel μ w H) {HK : Heap} {ns L : List Nat} (hK : ∀ n, HK n = if n ∈ ns then H n else none) {H0 : Heap} {c : ArgCo} {g g' : G} {l : List Nat} {rd : List (Nat × Blk)} {cs : List Prop} {v : Value}
  (h : gArg H0 c g = some (g', l, rd, cs)) (hc : AllP cs) (hrd : ∀ x ∈ rd, H x.1 = some x.2) (hL : ∀ n ∈ l, n ∈ L) (hns : ∀ n ∈ l, n ∉ ns) (hv : VG μ w (ownOf μ H) g v) :
  VG ⟨μ.f, sideX μ H ns L, μ.B⟩ w (ownOf ⟨μ.f, sideX μ H ns L, μ.B⟩ HK) g' v := by
 obtain ⟨_, _, ext⟩ := hH.enter ns L hK
 unfold gArg at h
 split at h
 ·simp only [Option.some.injEq, Prod.mk.injEq] at h; obtain ⟨rfl, rfl, rfl, rfl⟩ := h
  exact VG.ext (μ := μ) ext (fun _ _ => rfl) hv
 ·split at h
  ·rename_i g1 cs1 h1
   simp only [Option.some.injEq, Prod.mk.injEq] at h; obtain ⟨rfl, rfl, rfl, rfl⟩ := h
   exact VG.ext (μ := μ) ext (fun _ _ => rfl) (coG_rel h1 hc hv)
  ·cases h
 ·split at h
  ·rename_i g1 cs1 h1
   simp only [Option.some.injEq, Prod.mk.injEq] at h; obtain ⟨rfl, rfl, rfl, rfl⟩ := h
   exact VG.ext (μ := μ) ext (fun _ _ => rfl) (coG_rel h1 hc hv)
  ·cases h
 ·rename_i n off len
  split at h
  ·rename_i τ e xs mv hn
   simp only [Option.some.injEq, Prod.mk.injEq] at h; obtain ⟨rfl, rfl, rfl, rfl⟩ := h
   have hle : off + len ≤ List.length xs := hc.1
   have hlen : ((List.take (off + len) xs).drop off).length = len := by simp; omega
   have hb0 := hrd (n, .gr τ e xs mv) (by simp)
   obtain ⟨⟨hp, hok⟩, hb⟩ := hH.blk n _ hb0
   have hv' : VA μ w (ownOf μ H) (.sl n off len) v := hv
   rcases hv' with ⟨h0, rfl, rfl, b, rfl⟩ | ⟨lc, of, hl, hcap, rfl, hof⟩
   ·refine ⟨b, 0, by rw [hlen], ⟨⟨hp, hok⟩, by rw [hlen]; exact Nat.le_refl _, by simp, fun ad had i x hx => ?_⟩, by simp⟩
    rw [List.getElem?_eq_none (by rw [hlen]; exact Nat.zero_le _)] at hx; cases hx
   ·rcases hb with ⟨h0, _⟩ | ⟨l', c', hl', hls, hb, hcs, hxl, hcm, hrep⟩
    ·rw [hl] at h0; cases h0
    ·rw [hl] at hl'; cases hl'
     refine ⟨_, _, by rw [hlen], ⟨⟨hp, hok⟩, by rw [hlen]; omega, by simp, fun ad had => ?_⟩, by simp⟩
     cases had
     refine fun i x hx => ⟨rfl, lend_own hH hK (by simp [hb0]) (hL n (by simp)) (hns n (by simp)) hl, ?_⟩
     have hx' : xs[off + i]? = some x := by
      rw [List.getElem?_drop, List.getElem?_take] at hx
      split at hx
      ·exact hx
      ·cases hx
     have hi : i < len := by
      rcases Nat.lt_or_ge i len with h | h
      ·exact h
      ·rw [List.getElem?_eq_none (by rw [hlen]; exact h)] at hx; cases hx
     obtain ⟨vs, k1, k2, k3⟩ := hrep.get (off + i) x hx'
     refine ⟨vs, k1, k2.ext ext hok, fun j u hu => cell_of_blk hb ?_⟩
     have := k3 j u hu
     rw [List.getElem?_take] at this
     split at this
     ·rw [List.getElem?_drop, Nat.add_mul] at this
      rw [hof (.inl (by omega)), hls]
      simpa only [Nat.add_assoc] using this
     ·cases this
  ·cases h
 ·rename_i n base off len
  split at h
  ·rename_i ss hn
   split at h
   ·rename_i hd τ k xs tl hsp
    split at h
    ·rename_i hsz
     simp only [Option.some.injEq, Prod.mk.injEq] at h; obtain ⟨rfl, rfl, rfl, rfl⟩ := h
     have hle : off + len ≤ List.length xs := hc.1
     have hlen : ((List.take (off + len) xs).drop off).length = len := by simp; omega
     have hb0 := hrd (n, .var ss) (by simp)
     obtain ⟨l', c', e, hl', hb, hvs⟩ := hH.blk n _ hb0
     have hv' : VA μ w (ownOf μ H) (.vw n base off len) v := hv
     obtain ⟨lc, of, c0, hl, rfl, hlc, hof⟩ := hv'
     rw [hl] at hl'; cases hl'
     obtain ⟨_, c1, c2, hc', h1, _, h3⟩ := VS.split hsp hvs
     obtain ⟨hok, hxl, d1, d2, rfl, h4, _⟩ := h3
     refine ⟨_, _, by rw [hlen], ⟨⟨by omega, hok⟩, by rw [hlen]; omega, by simp, fun ad had => ?_⟩, by simp⟩
     cases had
     refine fun i x hx => ⟨rfl, lend_own hH hK (by simp [hb0]) (hL n (by simp)) (hns n (by simp)) hl, ?_⟩
     have hx' : xs[off + i]? = some x := by
      rw [List.getElem?_drop, List.getElem?_take] at hx
      split at hx
      ·exact hx
      ·cases hx
     have hi : i < len := by
      rcases Nat.lt_or_ge i len with h | h
      ·exact h
      ·rw [List.getElem?_eq_none (by rw [hlen]; exact h)] at hx; cases hx
     obtain ⟨vs, k1, k2, k3⟩ := h4.get (off + i) x hx'
     refine ⟨vs, k1, k2.ext ext hok, fun j u hu => cell_of_blk hb ?_⟩
     have := k3 j u hu
     rw [hsz, Nat.mul_one] at this
     have hlt : off + i + j < d1.length := by
      rcases Nat.lt_or_ge (off + i + j) d1.length with h | h
      ·exact h
      ·rw [List.getElem?_eq_none h] at this; cases this
     rw [hof (by omega), hsz, Nat.mul_one, hc', ← h1, show c1.length + off + i + j = c1.length + (off + i + j) by omega, List.getElem?_append_right (by omega), Nat.add_sub_cancel_left, List.getElem?_append_left hlt]
     exact this
    ·cases h
   ·cases h
  ·cases h
 ·cases h

theorem gArgs_rel (hH : HRel μ w H) {HK : Heap} {ns L : List Nat} (hK : ∀ n, HK n = if n ∈ ns then H n else none) {H0 : Heap} {ev : Operand → G} :
  ∀ {cos : List ArgCo} {xs : List Operand} {gs : List G} {l : List Nat} {rd : List (Nat × Blk)} {cs : List Prop}, gArgs H0 cos (xs.map ev) = some (gs, l, rd, cs) → AllP cs → (∀ x ∈ rd, H x.1 = some x.2) → (∀ n ∈ l, n ∈ L) → (∀ n ∈ l, n ∉ ns) →
   (∀ x ∈ xs, VG μ w (ownOf μ H) (ev x) (a.eval x)) → VGs ⟨μ.f, sideX μ H ns L, μ.B⟩ w (ownOf ⟨μ.f, sideX μ H ns L, μ.B⟩ HK) gs (xs.map a.eval)
 | [], xs, gs, l, rd, cs, h, _, _, _, _, hx => by
  obtain ⟨_, _, ext⟩ := hH.enter ns L hK
  simp only [gArgs, Option.some.injEq, Prod.mk.injEq] at h; obtain ⟨rfl, rfl, rfl, rfl⟩ := h
  have : ∀ {xs : List Operand}, (∀ x ∈ xs, VG μ w (ownOf μ H) (ev x) (a.eval x)) → VGs μ w (ownOf μ H) (xs.map ev) (xs.map a.eval) := by
   intro xs
   induction xs with
   | nil => intro _; rfl
   | cons x xs ih => intro h; exact ⟨_, _, rfl, h x (by simp), ih fun y hy => h y (by simp [hy])⟩
  exact VGs.ext (μ := μ) ext (fun _ => rfl) (this hx)
 | c :: cos, [], gs, l, rd, cs, h, _, _, _, _, _ => by simp [gArgs] at h
 | c :: cos, x :: xs, gs, l, rd, cs, h, hc, hrd, hL, hns, hx => by
  simp only [List.map_cons, gArgs] at h
  split at h
  ·rename_i g' l1 rd1 cs1 gs' l2 rd2 cs2 h1 h2
   simp only [Option.some.injEq, Prod.mk.injEq] at h; obtain ⟨rfl, rfl, rfl, rfl⟩ := h
   obtain ⟨hc1, hc2⟩ := AllP.append hc
   refine ⟨_, _, rfl, gArg_rel hH hK h1 hc1 (fun y hy => hrd y (by simp [hy])) (fun n hn => hL n (by simp [hn])) (fun n hn => hns n (by simp [hn])) (hx x (by simp)), ?_⟩
   exact gArgs_rel hH hK h2 hc2 (fun y hy => hrd y (by simp [hy])) (fun n hn => hL n (by simp [hn])) (fun n hn => hns n (by simp [hn])) fun y hy => hx y (by simp [hy])
  ·cases h

theorem VGs.len' {μ : Map} {w : World} {own : Nat → Prop} : {gs : List G} → {vs : List Value} → VGs μ w own gs vs → vs.length = gs.length
 | [], _, h => by simp only [VGs] at h; subst h; rfl
 | _ :: _, _, h => by obtain ⟨v, vs', rfl, _, h2⟩ := h; simp [h2.len']

theorem call_back {H0 : Heap} {ns mvd L ro : List Nat} {K0 K' : List (Nat × Blk)} {v : G} (hH : HRel μ w H) (hsame : ∀ n ∈ ns, H n = H0 n) (hL : L.all (fun n => !ns.contains n) = true) (hall0 : ns.all (fun n => (H0 n).isSome) = true)
  (hrodef : ns.filter (fun n => !(namesOf K0).contains n) = ro) (hK'def : K0 ++ subK H0 ro = K') (hwf : (K'.all fun x => x.2.men.all fun m => (namesOf K').contains m) = true) (hwv : (v.men.all fun m => (namesOf K').contains m) = true)
  (hbare : (L.isEmpty || ((K'.all fun x => x.2.bare) && v.bare)) = true)
  (hro : ((subK H0 ro).all fun x => x.2.men.all fun m => !((mvd.filter fun n => (namesOf K').contains n) ++ ((namesOf K').filter fun n => !ns.contains n)).contains m) = true)
  {w' : World} {μc' : Map} {cv : Value} (hrel : HRel μc' w' (mapOf K')) (hvv : VG μc' w' (ownOf μc' (mapOf K')) v cv) (hev' : Ev ⟨μ.f, sideX μ H ns L, μ.B⟩ (mapOf (subK H0 ns)) w μc' (mapOf K') w')
  (hkept : ∀ n, mapOf (subK H0 ns) n ≠ none → n ∉ mvd → μc' n = μ n) :
  ∃ μ' : Map, (∀ m, m ∉ (mvd.filter fun n => (namesOf K').contains n) ++ ((namesOf K').filter fun n => !ns.contains n) → μ' m = μ m) ∧
   HRel μ' w' (after ((mvd.filter fun n => (namesOf K').contains n) ++ ((namesOf K').filter fun n => !ns.contains n)) (((ns.filter fun n => (namesOf K0).contains n).map fun n => (n, mapOf K' n)) ++ ((K'.filter fun x => !ns.contains x.1).map fun x => (x.1, some x.2))) H) ∧
   Ev μ H w μ' (after ((mvd.filter fun n => (namesOf K').contains n) ++ ((namesOf K').filter fun n => !ns.contains n)) (((ns.filter fun n => (namesOf K0).contains n).map fun n => (n, mapOf K' n)) ++ ((K'.filter fun x => !ns.contains x.1).map fun x => (x.1, some x.2))) H) w' ∧
   VG μ' w' (ownOf μ' (after ((mvd.filter fun n => (namesOf K').contains n) ++ ((namesOf K').filter fun n => !ns.contains n)) (((ns.filter fun n => (namesOf K0).contains n).map fun n => (n, mapOf K' n)) ++ ((K'.filter fun x => !ns.contains x.1).map fun x => (x.1, some x.2))) H)) v cv := by
 have hK : ∀ n, mapOf (subK H0 ns) n = if n ∈ ns then H n else none := by
  intro n
  rw [mapOf_subK]
  by_cases h : n ∈ ns
  ·rw [if_pos h, if_pos h, hsame n h]
  ·rw [if_neg h, if_neg h]
 have hLns : ∀ n ∈ L, n ∉ ns := by
  intro n hn
  have := List.all_eq_true.1 hL n hn
  simpa using this
 let mv := (mvd.filter fun n => (namesOf K').contains n) ++ ((namesOf K').filter fun n => !ns.contains n)
 let wr : List (Nat × Option Blk) := ((ns.filter fun n => (namesOf K0).contains n).map fun n => (n, mapOf K' n)) ++ ((K'.filter fun x => !ns.contains x.1).map fun x => (x.1, some x.2))
 let μ' : Map := ⟨fun n => if (namesOf K').contains n then μc' n else μ n, μ.X, μ.B⟩
 have hmem : ∀ n, (namesOf K').contains n = true ↔ mapOf K' n ≠ none := by
  intro n; rw [mapOf_ne]; simp
 have hμ' : ∀ n, (mapOf K' n ≠ none → μ' n = μc' n) ∧ (mapOf K' n = none → μ' n = μ n) := by
  intro n
  refine ⟨fun h => if_pos ((hmem n).2 h), fun h => if_neg fun h' => (hmem n).1 h' h⟩
 have hH' : ∀ n, after mv wr H n = if n ∈ ns ∨ mapOf K' n ≠ none then mapOf K' n else (H n).map (·.scrub mv) := by
  intro n
  unfold after
  have key : wr.find? (·.1 == n) = if (n ∈ ns ∧ (namesOf K0).contains n = true) ∨ (n ∉ ns ∧ mapOf K' n ≠ none) then some (n, mapOf K' n) else none := by
   simp only [wr, List.find?_append]
   by_cases h1 : n ∈ ns ∧ (namesOf K0).contains n = true
   ·rw [if_pos (.inl h1)]
    rw [find_tell (mapOf K') (List.mem_filter.2 h1)]; rfl
   ·have h0 : ((ns.filter fun n => (namesOf K0).contains n).map fun n => (n, mapOf K' n)).find? (·.1 == n) = none := by
     rw [List.find?_eq_none]
     intro x hx
     obtain ⟨m, hm, rfl⟩ := List.mem_map.1 hx
     simp only [beq_iff_eq]
     exact fun e => h1 (e ▸ List.mem_filter.1 hm)
    rw [h0, Option.none_or]
    by_cases h2 : n ∉ ns ∧ mapOf K' n ≠ none
    ·rw [if_pos (.inr h2)]
     exact find_new h2.1 h2.2
    ·rw [if_neg (fun h => h.elim (fun h => h1 h) (fun h => h2 h))]
     rw [List.find?_eq_none]
     intro x hx
     obtain ⟨y, hy, rfl⟩ := List.mem_map.1 hx
     simp only [beq_iff_eq]
     intro e
     have hy' := List.mem_filter.1 hy
     have : mapOf K' n ≠ none := mapOf_ne.2 (List.mem_map.2 ⟨y, hy'.1, e⟩)
     exact h2 ⟨by rw [← e]; simpa using hy'.2, this⟩
  rw [key]
  by_cases hns : n ∈ ns
  ·have e0 : (if n ∈ ns ∨ mapOf K' n ≠ none then mapOf K' n else (H n).map (·.scrub mv)) = mapOf K' n := if_pos (.inl hns)
   rw [e0]
   by_cases hk : (namesOf K0).contains n = true
   ·rw [if_pos (.inl ⟨hns, hk⟩)]
   ·rw [if_neg (fun h => h.elim (fun h => hk h.2) (fun h => h.1 hns))]
    -- only read
    have hro' : n ∈ ro := by rw [← hrodef]; exact List.mem_filter.2 ⟨hns, by simpa using hk⟩
    have hK0 : mapOf K0 n = none := by
     cases hm : mapOf K0 n with
     | none => rfl
     | some b => exact absurd (by simpa using mapOf_ne.1 (show mapOf K0 n ≠ none by rw [hm]; simp)) hk
    have hmk : mapOf K' n = H n := by
     rw [← hK'def, mapOf_app, hK0, Option.none_or, mapOf_subK, if_pos hro', hsame n hns]
    rw [hmk]
    cases hb : H n with
    | none => rfl
    | some b =>
     have hmem : (n, b) ∈ subK H0 ro := by
      simp only [subK, List.mem_filterMap]
      exact ⟨n, hro', by rw [← hsame n hns, hb]; rfl⟩
     have := List.all_eq_true.1 hro _ hmem
     exact (congrArg some (Blk.scrub_id' (mv := mv) (g := b) fun m hm hmm => by
      have h2 := List.all_eq_true.1 this m hm
      have h3 : mv.contains m = true := List.elem_eq_true_of_mem hmm
      rw [Bool.not_eq_true'] at h2
      exact Bool.false_ne_true (h2.symm.trans h3)))
  ·by_cases hk : mapOf K' n ≠ none
   ·rw [if_pos (.inr ⟨hns, hk⟩), if_pos (.inr hk)]
   ·rw [if_neg (fun h => h.elim (fun h => hns h.1) (fun h => hk h.2)), if_neg (fun h => h.elim (fun h => hns h) (fun h => hk h))]
 have hmvK : ∀ n ∈ mv, mapOf K' n ≠ none := by
  intro n hn
  rcases List.mem_append.1 hn with h | h
  ·exact (hmem n).1 (List.mem_filter.1 h).2
  ·exact mapOf_ne.2 (List.mem_filter.1 h).1
 obtain ⟨r1, r2, r3, r4⟩ := HRel.leave (mv := mv) hH ns L hK hrel hev' (fun n h1 h2 => by
   have hns : n ∈ ns := by
    by_cases h : n ∈ ns
    ·exact h
    ·exfalso; exact h2 (List.mem_append.2 (.inr (List.mem_filter.2 ⟨mapOf_ne.1 h1, by simpa using h⟩)))
   by_cases hm : n ∈ mvd
   ·exact absurd (List.mem_append.2 (.inl (List.mem_filter.2 ⟨hm, (hmem n).2 h1⟩))) h2
   ·refine hkept n ?_ hm
    rw [mapOf_subK, if_pos hns]
    intro h0
    have := List.all_eq_true.1 hall0 n hns
    rw [h0] at this; cases this)
  (fun n h1 h2 => List.mem_append.2 (.inr (List.mem_filter.2 ⟨mapOf_ne.1 h1, by simpa using h2⟩)))
  (fun n hn => hLns n hn)
  (fun n b hb m hm => mapOf_ne.2 (by
   have := List.all_eq_true.1 hwf _ (mapOf_mem hb)
   have := List.all_eq_true.1 this m hm
   simpa using this))
  (fun hne n b hb => by
   simp only [Bool.or_eq_true, Bool.and_eq_true] at hbare
   rcases hbare with h | h
   ·exact absurd (by simpa using h) hne
   ·exact List.all_eq_true.1 h.1 _ (mapOf_mem hb)) hH' hmvK hμ' rfl rfl
 refine ⟨μ', r3, r1, r2, ?_⟩
 have hvm : ∀ m ∈ v.men, μ' m = μc' m := fun m hm => (hμ' m).1 (mapOf_ne.2 (by
  have := List.all_eq_true.1 hwv m hm
  simpa using this))
 by_cases hLe : L = []
 ·have e2 : Ext (ownOf μc' (mapOf K')) w' (ownOf μ' (after mv wr H)) w' := ⟨Nat.le_refl _, fun _ _ _ => rfl, fun b _ h h' => h (r4 hLe b h'), rfl, rfl, rfl⟩
  exact hvv.ext e2 hvm
 ·simp only [Bool.or_eq_true, Bool.and_eq_true] at hbare
  rcases hbare with h | h
  ·exact absurd (by simpa using h) hLe
  ·have := hvv.bare (own' := ownOf μ' (after mv wr H)) h.2
   exact this.ext (own' := ownOf μ' (after mv wr H)) .refl hvm


theorem call_ok (hcx : CxOK cx) {c : Call} (ho : o.op = .call c) {ev : Operand → G} {H0 : Heap} {es es' : List En} {R : OR} (hg : gCall cx c ev H0 es = some (R, es')) (hc : AllP R.cs) (hrd : ∀ x ∈ R.rd, H x.1 = some x.2)
  (hx : ∀ x ∈ o.op.operands.toList, VG μ w (ownOf μ H) (ev x) (a.eval x)) (hH : HRel μ w H) (hgl : Glob cx μ w H) : OpWP cx o a μ w H R := by
 unfold gCall at hg
 split at hg
 rotate_left
 ·cases hg
 rename_i fv cos ns mvd v K0 es1 hcal
 split at hg
 rotate_left
 ·cases hg
 rename_i g hev
 split at hg
 rotate_left
 ·cases hg
 rename_i f xs ys hfn
 split at hg
 rotate_left
 ·cases hg
 rename_i gs L rd cs hargs
 simp only [] at hg
 split at hg
 rotate_left
 ·cases hg
 rename_i hcond
 obtain ⟨hL, hall0, hwf, hwv, hbare, hro⟩ := hcond
 simp only [Option.some.injEq, Prod.mk.injEq] at hg
 obtain ⟨rfl, rfl⟩ := hg
 obtain ⟨hcall, hcs⟩ := hc
 generalize hrodef : ns.filter (fun n => !(namesOf K0).contains n) = ro at *
 generalize hK'def : K0 ++ subK H0 ro = K' at *
 -- the caller's blocks are those that were told
 have hsame : ∀ n ∈ ns, H n = H0 n := by
  intro n hn
  cases hn0 : H0 n with
  | none =>
   have := List.all_eq_true.1 hall0 n hn
   rw [hn0] at this; cases this
  | some b =>
   have : (n, b) ∈ subK H0 ns := by
    simp only [subK, List.mem_filterMap]
    exact ⟨n, hn, by simp [hn0]⟩
   exact hrd (n, b) (by simp [this])
 have hK : ∀ n, mapOf (subK H0 ns) n = if n ∈ ns then H n else none := by
  intro n
  rw [mapOf_subK]
  by_cases h : n ∈ ns
  ·rw [if_pos h, if_pos h, hsame n h]
  ·rw [if_neg h, if_neg h]
 have hLns : ∀ n ∈ L, n ∉ ns := by
  intro n hn
  have := List.all_eq_true.1 hL n hn
  simpa using this
 obtain ⟨hKrel, _, ext⟩ := hH.enter ns L hK
 have hxf := hx fv (by simp [ho, Op.operands, Call.operands, hcal])
 rw [hev] at hxf
 have hxf' : VA μ w (ownOf μ H) g (a.eval fv) := hxf
 -- the function value
 obtain ⟨fn, first, caps, hfv⟩ : ∃ fn first caps, a.eval fv = .func fn first caps := by
  cases g <;> simp only [fnOf, reduceCtorEq] at hfn
  case fn f0 => exact ⟨_, _, _, hxf'⟩
  case app1 => obtain ⟨_, _, _, _, h, _⟩ := hxf'; exact ⟨_, _, _, h⟩
  case app2 => obtain ⟨_, _, _, _, h, _⟩ := hxf'; exact ⟨_, _, _, h⟩
 rw [hfv] at hxf'
 obtain ⟨rfl, hfirst, hcaps⟩ := fnOf_rel hfn hxf' (vx := []) rfl (vy := []) rfl
 simp only [List.append_nil] at hfirst hcaps
 have hargs' := gArgs_rel hH hK (a := a) hargs hcs (fun x hx' => hrd x (by simp [hx'])) (fun n hn => hn) hLns (fun x hx' => hx x (by
  simp only [ho, Op.operands, Call.operands, hcal, Array.toList_append, List.mem_append]; exact .inr hx'))
 have hall := VGs.append (VGs.append (VGs.ext (μ := μ) (μ' := ⟨μ.f, sideX μ H ns L, μ.B⟩) ext (fun _ => rfl) (VL.gats hfirst)) hargs') (VGs.ext (μ := μ) (μ' := ⟨μ.f, sideX μ H ns L, μ.B⟩) ext (fun _ => rfl) (VL.gats hcaps))
 obtain ⟨⟨fd, code, hf1, hf2, hf3⟩, hcalls⟩ := hcall
 have hcl := hcalls ⟨μ.f, sideX μ H ns L, μ.B⟩ w _ hKrel hall (fun g => VA.ext (μ := μ) ext (fun _ _ => rfl) (hgl g))
 intro Q
 have hrun : (execOp a.eval o).run cx.P w = .ok (.enter f ((first.toList ++ c.args.toList.map a.eval ++ caps.toList).toArray)) w := by
  have e1 : first ++ Array.map a.eval c.args ++ caps = (first.toList ++ c.args.toList.map a.eval ++ caps.toList).toArray := by
   apply Array.ext'; simp
  simp only [execOp, ho, resolve, hcal, Sem.run_bind, hfv, Deferred.ofValue, Sem.run_pure, Result.andThen_ok, invoke]
  have h1 : fd.name ≠ "runtime.NumGoroutine" := by simpa using hf2
  simp [callFunc, hf1, h1, hf3, ← e1]
 unfold Oper.wpIn
 refine ⟨fun f _ => hcx.fn f, ?_⟩
 rw [Oper.semAt_eq _ _ _ (by rw [ho]; intro c h; cases h), hrun]
 refine ⟨(by rw [hcx.dep]; intro h; cases h), CallsIn.mono (hcx.calls hcl) ?_⟩
 rintro e w' ⟨cv, μc', rfl, hrel, hvv, hev', hkept⟩
 obtain ⟨μ', r3, r1, r2, r4⟩ := call_back hH hsame hL hall0 hrodef hK'def hwf hwv hbare hro hrel hvv hev' hkept
 exact ⟨cv, μ', rfl, r3, r1, r2, r4⟩

theorem yield_ok (hcx : CxOK cx) {c : Call} (ho : o.op = .call c) {ev : Operand → G} {H0 : Heap} {es es' : List En} {R : OR} (hg : gYield cx c ev H0 es = some (R, es')) (hc : AllP R.cs) (hrd : ∀ x ∈ R.rd, H x.1 = some x.2)
  (hx : ∀ x ∈ o.op.operands.toList, VG μ w (ownOf μ H) (ev x) (a.eval x)) (hH : HRel μ w H) (hgl : Glob cx μ w H) : OpWP cx o a μ w H R := by
 unfold gYield at hg
 split at hg
 rotate_left
 ·cases hg
 rename_i fv cos ns mvd v K0 es1 hcal
 split at hg
 rotate_left
 ·cases hg
 rename_i m hev
 split at hg
 rotate_left
 ·cases hg
 rename_i Rc hHm
 split at hg
 rotate_left
 ·cases hg
 rename_i gs L rd cs hargs
 simp only [] at hg
 split at hg
 rotate_left
 ·cases hg
 rename_i hcond
 obtain ⟨rfl, hm, hall0, hwf, hro⟩ := hcond
 simp only [Option.some.injEq, Prod.mk.injEq] at hg
 obtain ⟨rfl, rfl⟩ := hg
 obtain ⟨hcall, hcs⟩ := hc
 generalize hrodef : ns.filter (fun n => !(namesOf K0).contains n) = ro at *
 generalize hK'def : K0 ++ subK H0 ro = K' at *
 have hsame : ∀ n ∈ ns, H n = H0 n := by
  intro n hn
  cases hn0 : H0 n with
  | none =>
   have := List.all_eq_true.1 hall0 n hn
   rw [hn0] at this; cases this
  | some b =>
   have : (n, b) ∈ subK H0 ns := by
    simp only [subK, List.mem_filterMap]
    exact ⟨n, hn, by simp [hn0]⟩
   exact hrd (n, b) (by simp [this])
 have hK : ∀ n, mapOf (subK H0 ns) n = if n ∈ ns then H n else none := by
  intro n
  rw [mapOf_subK]
  by_cases h : n ∈ ns
  ·rw [if_pos h, if_pos h, hsame n h]
  ·rw [if_neg h, if_neg h]
 have hmns : m ∉ ns := by simpa using hm
 obtain ⟨hKrel, _, ext⟩ := hH.enter ns [] hK
 have hHm' := hrd (m, .lpb Rc) (by simp)
 obtain ⟨l, tmps, hl, ⟨fn, df, hlp⟩, hnt, henv⟩ := hH.blk m _ hHm'
 have hxf := hx fv (by simp [ho, Op.operands, Call.operands, hcal])
 rw [hev] at hxf
 obtain ⟨l', hl', hfv⟩ : ∃ l, μ m = some l ∧ a.eval fv = .func (.yield l.blk) #[] #[] := hxf
 rw [hl] at hl'; cases hl'
 have hargs' := gArgs_rel hH hK (a := a) hargs hcs (fun x hx' => hrd x (by simp [hx'])) (fun n hn => hn) (by simp) (fun x hx' => hx x (by
  simp only [ho, Op.operands, Call.operands, hcal, Array.toList_append, List.mem_append]; exact .inr hx'))
 obtain ⟨hlen, hround⟩ := hcall
 have hX : sideX μ H ns [] l.blk := .inr ⟨m, l, by rw [hHm']; simp, hmns, by simp, hl, rfl⟩
 have hcl := hround ⟨μ.f, sideX μ H ns [], μ.B⟩ w tmps _ l.blk fn df hlp hX hKrel hargs' (fun t => VG.ext (μ := μ) ext (fun _ _ => rfl) (henv t)) hnt (fun g => VA.ext (μ := μ) ext (fun _ _ => rfl) (hgl g))
 intro Q
 have hsz : (c.args.toList.map a.eval).toArray.size = Rc.ps.size := by rw [← hlen]; have := hargs'.len'; simpa using this
 have hrun : (execOp a.eval o).run cx.P w = .ok (.round l.blk fn ((Rc.ps.zip (c.args.toList.map a.eval).toArray).foldl (fun t (p, v) => t.setIfInBounds p v) tmps) Rc.asg Rc.body) w := by
  have e1 : Array.map a.eval c.args = (c.args.toList.map a.eval).toArray := by apply Array.ext'; simp
  have hy := run_yield (P := cx.P) (args := (c.args.toList.map a.eval).toArray) hlp hsz
  simp only [execOp, ho, resolve, hcal, Sem.run_bind, hfv, Deferred.ofValue, Sem.run_pure, Result.andThen_ok, invoke]
  simpa [e1] using hy
 unfold Oper.wpIn
 refine ⟨fun f _ => hcx.fn f, ?_⟩
 rw [Oper.semAt_eq _ _ _ (by rw [ho]; intro c h; cases h), hrun]
 refine ⟨(by rw [hcx.dep]; intro h; cases h), RoundIn.mono (hcx.round hcl) ?_⟩
 rintro e w' ⟨μc', rfl, hrel, hev', hkept⟩
 obtain ⟨μ', r3, r1, r2, r4⟩ := call_back (v := .r (.at (.bool true))) (cv := .bool true) hH hsame (by simp) hall0 hrodef hK'def hwf (by simp [G.men, GR.men, GA.men]) (by simp) hro hrel rfl hev' hkept
 exact ⟨.bool true, μ', rfl, r3, r1, r2, r4⟩

end
end Go.Gh
