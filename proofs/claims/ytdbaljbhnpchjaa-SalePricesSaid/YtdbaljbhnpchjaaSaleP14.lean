/- SalePrices: the plain law. -/
import Derived.Test.YtdbaljbhnpchjaaSaleB14
namespace Go.Gh.Sale
set_option linter.unusedVariables false
set_option linter.unusedSimpArgs false

def imin (x y : Int) : Int := if x < y then x else y
def imax (x y : Int) : Int := if x > y then x else y
def mnL (m : Nat) (p a : List Int) : List Int := (List.range m).map fun (l : Nat) => imin (pr p l) (pr a l)
def mxL (m : Nat) (p a : List Int) : List Int := (List.range m).map fun (l : Nat) => imax (pr p l) (pr a l)
theorem mnL_len {m : Nat} {p a : List Int} : (mnL m p a).length = m := by simp [mnL]
theorem mxL_len {m : Nat} {p a : List Int} : (mxL m p a).length = m := by simp [mxL]
theorem mnL_pr {m l : Nat} {p a : List Int} (hl : l < m) : pr (mnL m p a) l = imin (pr p l) (pr a l) := by
 rw [pr_nat (by rw [mnL_len]; exact hl)]; unfold mnL; simp
theorem mxL_pr {m l : Nat} {p a : List Int} (hl : l < m) : pr (mxL m p a) l = imax (pr p l) (pr a l) := by
 rw [pr_nat (by rw [mxL_len]; exact hl)]; unfold mxL; simp
abbrev St : Type := List Int × List Int
def Il (m : Nat) (c : St) : Prop := c.1.length = m ∧ c.2.length = m
def stepP (m : Nat) (s : List (List Int)) (p : List Int) (c : St) (t : List Int) : St := if fairB m s p t = true then (mnL m p c.1, mxL m p c.2) else c
theorem stepP_len {m : Nat} {s : List (List Int)} {p : List Int} {c : St} {t : List Int} (h : Il m c) : Il m (stepP m s p c t) := by
 unfold stepP
 split
 ·exact ⟨mnL_len, mxL_len⟩
 ·exact h
theorem fold_len {α : Type} {m : Nat} {G : St → α → St} (hG : ∀ c x, Il m c → Il m (G c x)) : ∀ (xs : List α) (c : St), Il m c → Il m (xs.foldl G c)
 | [], _, h => h
 | x :: xs, c, h => fold_len hG xs _ (hG c x h)

section
variable {m F : Nat} {s : List (List Int)} {p : List Int}
theorem f61_p3_eq (hm : m ≤ 5) (hp : Pd m p) {W : Int} {g : Bool} : ∀ (k j : Nat) (a b a0 b0 : List Int), j ≤ m → m < k + j → a.length = m → b.length = m → a0.length = m → b0.length = m → (∀ l : Nat, l < m → pr a l = if l < j then imin (pr p l) (pr a0 l) else pr a0 l) → (∀ l : Nat, l < m → pr b l = if l < j then imax (pr p l) (pr b0 l) else pr b0 l) →
  f61_p3 F p s W g 0 m 0 m k j a b = some (mnL m p a0, mxL m p b0) := by
 have hpl := hp.len
 intro k
 induction k with
 | zero => intro j a b a0 b0 _ h; omega
 | succ k ih =>
  intro j a b a0 b0 h1 h2 h3 h4 h5 h6 h7 h8
  unfold f61_p3
  by_cases hj : j < m
  ·have ha := h7 j hj
   have hb := h8 j hj
   rw [if_neg (by omega)] at ha hb
   rw [if_pos (by simp; omega), at_get (by omega), Option.bind_some, req_pos (by omega), Int.toNat_natCast, Nat.zero_add, pr_opt (by omega), Option.bind_some, req_pos (by omega), pr_opt (by omega), Option.bind_some, req_pos (by omega), req_pos (by omega), w64_succ (by omega), ← pr_nat (by omega), ha, hb]
   refine ih (j + 1) _ _ a0 b0 (by omega) (by omega) (by rw [List.length_set]; exact h3) (by rw [List.length_set]; exact h4) h5 h6 (fun l hl => ?_) (fun l hl => ?_)
   ·rw [pr_set (by omega)]
    by_cases e : l = j
    ·rw [if_pos e, e]; exact (if_pos (by omega : j < j + 1)).symm
    ·rw [if_neg e, h7 l hl]
     by_cases e2 : l < j
     ·rw [if_pos e2, if_pos (by omega)]
     ·rw [if_neg e2, if_neg (by omega)]
   ·rw [pr_set (by omega)]
    by_cases e : l = j
    ·rw [if_pos e, e]; exact (if_pos (by omega : j < j + 1)).symm
    ·rw [if_neg e, h8 l hl]
     by_cases e2 : l < j
     ·rw [if_pos e2, if_pos (by omega)]
     ·rw [if_neg e2, if_neg (by omega)]
  ·rw [if_neg (by simp; omega)]
   have e1 : ∀ {x y : List Int}, x.length = m → y.length = m → (∀ l : Nat, l < m → pr x l = pr y l) → x = y := fun {x y} hx hy h => List.ext_getElem (by omega) fun l g1 g2 => by
    have := h l (by omega)
    rwa [pr_nat g1, pr_nat g2] at this
   rw [e1 h3 mnL_len fun l hl => by rw [h7 l hl, if_pos (by omega), mnL_pr hl], e1 h4 mxL_len fun l hl => by rw [h8 l hl, if_pos (by omega), mxL_pr hl]]

theorem f61_eq (hF : 100 ≤ F) (hv : Vs m s) (hp : Pd m p) {t : List Int} (ht : t ∈ ds m (-1) s.length 0 (all_ m)) {g : Bool} {c : St} (hc : Il m c) : f61 F t s (W m s (-1)) g c.1 c.2 0 m 0 m p = some (g, stepP m s p c t) := by
 obtain ⟨h1, h2⟩ := ds_range _ _ _ _ ht
 have ho := ds_okD _ _ _ _ ht
 have hd := (ds_dv hv.m5 (all_lt hv.m5) ht).1
 unfold f61
 rw [f62_eq hF hv hp h1 h2, Option.bind_some, f37_eq hF hv hp h1 h2 ho, Option.bind_some]
 cases hb : fairB m s p t with
 | true =>
  have hfair := (fairB_iff (m := m) (s := s) hp h1 h2).1 hb
  have w1 := hfair.opt hd (va_none s) (best_dv hv)
  have w2 := best_opt hv hd
  have hw : wv s t = W m s (-1) := by
   rw [wv_wt s t h1]
   rw [best_wt hv] at w1 w2
   exact Int.le_antisymm w2 w1
  rw [if_pos (by decide), if_pos rfl, f49_eq hF hv h1 h2, Option.bind_some, wB_wv, hw]
  unfold f61_p0
  rw [if_neg (by simp), Option.bind_some, show f61_p3 F p s (W m s (-1)) g 0 m 0 m F 0 c.1 c.2 = _ from f61_p3_eq hv.m5 hp F 0 c.1 c.2 c.1 c.2 (by omega) (by have := hv.m5; omega) hc.1 hc.2 hc.1 hc.2 (fun l _ => by rw [if_neg (by omega)]) (fun l _ => by rw [if_neg (by omega)]), Option.bind_some]
  unfold stepP
  rw [if_pos hb]
 | false =>
  rw [if_pos (by decide), if_neg (by decide)]
  unfold stepP
  rw [if_neg (by rw [hb]; decide)]

theorem f97_7_p2_eq (hF : 100 ≤ F) (hm : m ≤ 5) {L : Nat} {l : List Int} (hl : l.length ≤ 20) (ha : Avail m L l) {W B : Int} {g : Bool} {rec : List Int → List (List Int) → Int → Bool → List Int → List Int → Nat → Nat → Nat → Nat → List Int → Int → Int → Option (Bool × List Int × List Int)} {G : St → Int → St}
  (hrec : ∀ x c, x ∈ cand m L true → Il m c → rec (l ++ [x]) s W g c.1 c.2 0 m 0 m p B m = some (g, G c x)) (hG : ∀ c x, Il m c → Il m (G c x)) : ∀ (k j : Nat) (c : St), m < k + j → j ≤ m → Il m c → f97_7_p2 F rec l s W 0 m 0 m p B m k j g c.1 c.2 = some (g, (lotsF m L true j).foldl G c) := by
 intro k
 induction k with
 | zero => intro j c h _; omega
 | succ k ih =>
  intro j c h1 h2 h3
  unfold f97_7_p2
  by_cases hj : j < m
  ·rw [if_pos (by simp; omega), if_neg (by simp), f53_eq (by omega) hF, Option.bind_some, lotsF_step hj, ha.2 j hj, w64_succ (by omega)]
   unfold f97_7_p5
   by_cases hc : (j : Int) ∈ l
   ·rw [decide_eq_true hc, if_pos rfl, Option.bind_some]
    simp only [Bool.not_true, Bool.and_false, Bool.false_eq_true, if_false]
    exact ih (j + 1) c (by omega) (by omega) h3
   ·have hmem : (j : Int) ∈ cand m L true := by
     rw [lotsF_zero]
     refine List.mem_cons_of_mem _ ?_
     unfold lotsF
     simp only [if_true, List.mem_map, List.mem_filter]
     refine ⟨j, ⟨by simpa using hj, ?_⟩, rfl⟩
     rw [ha.2 j hj, decide_eq_false hc]; rfl
    rw [decide_eq_false hc, if_neg (by decide), f95_eq, Option.bind_some, req_pos (by simp; omega), hrec _ c hmem h3, Option.bind_some, Option.bind_some]
    simp only [Bool.not_false, Bool.and_true, if_true, List.foldl_cons]
    exact ih (j + 1) _ (by omega) (by omega) (hG c _ h3)
  ·rw [if_neg (by simp; omega), lotsF_end (by omega)]
   rfl

theorem f97_7_eq (hF : 100 ≤ F) (hv : Vs m s) (hp : Pd m p) {g : Bool} : ∀ (r k : Nat) (l : List Int) (L : Nat) (c : St), l.length + r = s.length → r < k → Avail m L l → (∀ t ∈ ds m (-1) r l.length L, l ++ t ∈ ds m (-1) s.length 0 (all_ m)) → Il m c →
  f97_7 F k l s (W m s (-1)) g c.1 c.2 0 m 0 m p s.length m = some (g, ((ds m (-1) r l.length L).map (l ++ ·)).foldl (stepP m s p) c) := by
 have hm := hv.m5
 have hn := hv.n
 intro r
 induction r with
 | zero =>
  intro k l L c h1 h2 h3 h4 h5
  obtain ⟨k, rfl⟩ : ∃ q, k = q + 1 := ⟨k - 1, by omega⟩
  show f97_7_b F (f97_7 F k) l s _ g c.1 c.2 0 m 0 m p s.length m = _
  have hmem := h4 [] (by simp [ds])
  rw [List.append_nil] at hmem
  unfold f97_7_b
  rw [if_pos (by simp; omega), f61_eq hF hv hp hmem h5, Option.bind_some]
  simp [ds]
 | succ r ih =>
  intro k l L c h1 h2 h3 h4 h5
  obtain ⟨k, rfl⟩ : ∃ q, k = q + 1 := ⟨k - 1, by omega⟩
  obtain ⟨F', hF'⟩ : ∃ F', F = F' + 1 := ⟨F - 1, by omega⟩
  show f97_7_b F (f97_7 F k) l s _ g c.1 c.2 0 m 0 m p s.length m = _
  unfold f97_7_b
  rw [if_neg (by simp; omega), ds_step, foldl_flat]
  have hrec : ∀ x (c : St), x ∈ cand m L true → Il m c → f97_7 F k (l ++ [x]) s (W m s (-1)) g c.1 c.2 0 m 0 m p s.length m = some (g, ((ds m (-1) r (l.length + 1) (dx L x)).map ((l ++ [x]) ++ ·)).foldl (stepP m s p) c) := by
   intro x c hx hc
   have := ih k (l ++ [x]) (dx L x) c (by simp; omega) (by omega) (h3.next hm hx) (fun t ht => by
    rw [List.append_assoc]
    refine h4 (x :: t) ?_
    have hi : decide ((l.length : Int) ≠ -1) = true := by simp <;> omega
    simp only [ds, hi]
    refine List.mem_flatMap.2 ⟨x, hx, List.mem_map.2 ⟨t, ?_, rfl⟩⟩
    simpa using ht) hc
   rw [this]
   simp
  have hG : ∀ (c : St) x, Il m c → Il m (((ds m (-1) r (l.length + 1) (dx L x)).map ((l ++ [x]) ++ ·)).foldl (stepP m s p) c) := fun c x hc => fold_len (fun c x h => stepP_len h) _ c hc
  have e := f97_7_p2_eq (p := p) (B := (s.length : Int)) hF hm (by omega : l.length ≤ 20) h3 hrec hG F' 0
  have h0 : (-1 : Int) ∈ cand m L true := by simp [cand]
  have hc1 := hG c (-1) h5
  have e1 := e _ (by omega) (by omega) hc1
  have hr0 := hrec (-1) c h0 h5
  rw [lotsF_zero, List.foldl_cons]
  have e0 : f97_7_p2 F (f97_7 F k) l s (W m s (-1)) 0 m 0 m p s.length m F (-1) g c.1 c.2 = f97_7_p2 F (f97_7 F k) l s (W m s (-1)) 0 m 0 m p s.length m F' ((0 : Nat) : Int) g (((ds m (-1) r (l.length + 1) (dx L (-1))).map ((l ++ [-1]) ++ ·)).foldl (stepP m s p) c).1 (((ds m (-1) r (l.length + 1) (dx L (-1))).map ((l ++ [-1]) ++ ·)).foldl (stepP m s p) c).2 := by
   have hq : ∀ q : Nat, q = F' + 1 → f97_7_p2 F (f97_7 F k) l s (W m s (-1)) 0 m 0 m p s.length m q (-1) g c.1 c.2 = f97_7_p2 F (f97_7 F k) l s (W m s (-1)) 0 m 0 m p s.length m (F' + 1) (-1) g c.1 c.2 := fun q hq => by rw [hq]
   rw [hq F hF']
   rw [f97_7_p2]
   rw [if_pos (by simp; omega), if_pos (by decide), f95_eq, Option.bind_some, req_pos (by simp; omega), hr0, Option.bind_some, show w64 ((-1 : Int) + 1) = ((0 : Nat) : Int) by decide]
  rw [e0, e1, Option.bind_some]

def gl4 : Nat → List (List Int)
 | 0 => [[]]
 | k + 1 => (List.range 5).flatMap fun (x : Nat) => (gl4 k).map ((x : Int) :: ·)
theorem gl4_mem : ∀ {l : List Int}, (∀ x ∈ l, 0 ≤ x ∧ x ≤ 4) → l ∈ gl4 l.length
 | [], _ => by simp [gl4]
 | x :: xs, h => by
  have hx := h x (by simp)
  rw [List.length_cons, gl4]
  exact List.mem_flatMap.2 ⟨x.toNat, List.mem_range.2 (by omega), List.mem_map.2 ⟨xs, gl4_mem (fun y hy => h y (by simp [hy])), by rw [show ((x.toNat : Nat) : Int) = x by omega]⟩⟩
theorem gl4_pd : ∀ {k : Nat} {l : List Int}, l ∈ gl4 k → l.length = k ∧ ∀ x ∈ l, 0 ≤ x ∧ x ≤ 4
 | 0, l, h => by simp [gl4] at h; subst h; exact ⟨rfl, by simp⟩
 | k + 1, l, h => by
  rw [gl4] at h
  obtain ⟨x, hx, h⟩ := List.mem_flatMap.1 h
  obtain ⟨t, ht, rfl⟩ := List.mem_map.1 h
  obtain ⟨h1, h2⟩ := gl4_pd ht
  have := List.mem_range.1 hx
  refine ⟨by simp [h1], fun y hy => ?_⟩
  rcases List.mem_cons.1 hy with rfl | hy
  ·omega
  ·exact h2 y hy
def stepG (m : Nat) (s : List (List Int)) (c : St) (p : List Int) : St := (ds m (-1) s.length 0 (all_ m)).foldl (stepP m s p) c
theorem f60_eq (hF : 100 ≤ F) (hv : Vs m s) (hp : Pd m p) {g : Bool} {c : St} (hc : Il m c) : f60 F p s m (W m s (-1)) g c.1 c.2 0 m 0 m = some (g, stepG m s c p) := by
 have hn := hv.n
 have e := f97_7_eq (g := g) hF hv hp s.length F [] (all_ m) c (by simp) (by omega) (Avail.all hv.m5) (fun t ht => ht) hc
 unfold f60 f54_5
 rw [e, Option.bind_some, Option.bind_some]
 simp [stepG]
theorem f94_1_eq (hF : 100 ≤ F) (hv : Vs m s) {g : Bool} : ∀ (r k : Nat) (l : List Int) (c : St), l.length + r = m → r < k → (∀ x ∈ l, 0 ≤ x ∧ x ≤ 4) → Il m c →
  f94_1 F k l s m (W m s (-1)) g c.1 c.2 0 m 0 m m 4 = some (g, ((gl4 r).map (l ++ ·)).foldl (stepG m s) c) := by
 have hm := hv.m5
 have hG : ∀ (c : St) p, Il m c → Il m (stepG m s c p) := fun c p hc => fold_len (fun c x h => stepP_len h) _ c hc
 intro r
 induction r with
 | zero =>
  intro k l c h1 h2 h3 h5
  obtain ⟨k, rfl⟩ : ∃ q, k = q + 1 := ⟨k - 1, by omega⟩
  show f94_1_b F (f94_1 F k) l s m _ g c.1 c.2 0 m 0 m m 4 = _
  have hp : Pd m l := Pd.of ⟨by omega, fun x hx => by have := h3 x hx; omega⟩
  unfold f94_1_b
  rw [if_pos (by simp; omega), f60_eq hF hv hp h5, Option.bind_some]
  simp [gl4]
 | succ r ih =>
  intro k l c h1 h2 h3 h5
  obtain ⟨k, rfl⟩ : ∃ q, k = q + 1 := ⟨k - 1, by omega⟩
  show f94_1_b F (f94_1 F k) l s m _ g c.1 c.2 0 m 0 m m 4 = _
  have loop : ∀ (q j : Nat) (c : St), j ≤ 5 → 5 < q + j → Il m c → f94_1_p2 F (f94_1 F k) l s m (W m s (-1)) 0 m 0 m m 4 q j g c.1 c.2 = some (g, (((List.range 5).drop j).flatMap fun (x : Nat) => (gl4 r).map ((l ++ [(x : Int)]) ++ ·)).foldl (stepG m s) c) := by
   intro q
   induction q with
   | zero => intro j c _ h; omega
   | succ q ihq =>
    intro j c h6 h7 h8
    unfold f94_1_p2
    by_cases hj : j < 5
    ·rw [if_pos (by simp; omega), f95_eq, Option.bind_some, req_pos (by simp; omega), ih k (l ++ [(j : Int)]) c (by simp; omega) (by omega) (fun x hx => by
      rcases List.mem_append.1 hx with hx | hx
      ·exact h3 x hx
      ·simp at hx; subst hx; omega) h8, Option.bind_some, w64_succ (by omega)]
     dsimp only
     rw [ihq (j + 1) _ (by omega) (by omega) (fold_len hG _ c h8), show (List.range 5).drop j = j :: (List.range 5).drop (j + 1) by rw [List.drop_eq_getElem_cons (by simpa using hj)]; simp, List.flatMap_cons, List.foldl_append]
    ·rw [if_neg (by simp; omega), List.drop_eq_nil_of_le (by simp; omega)]
     rfl
  unfold f94_1_b
  rw [if_neg (by simp; omega), show f94_1_p2 F (f94_1 F k) l s m (W m s (-1)) 0 m 0 m m 4 F 0 g c.1 c.2 = _ from loop F 0 c (by omega) (by omega) h5, Option.bind_some, List.drop_zero]
  have e : ((gl4 (r + 1)).map (l ++ ·)) = (List.range 5).flatMap fun (x : Nat) => (gl4 r).map ((l ++ [(x : Int)]) ++ ·) := by
   rw [gl4, List.map_flatMap]
   congr 1
   funext x
   rw [List.map_map]
   congr 1
   funext t
   simp
  rw [e]

theorem imin_le {x y : Int} : imin x y ≤ x ∧ imin x y ≤ y ∧ (imin x y = x ∨ imin x y = y) := by unfold imin; split <;> omega
theorem imax_le {x y : Int} : x ≤ imax x y ∧ y ≤ imax x y ∧ (imax x y = x ∨ imax x y = y) := by unfold imax; split <;> omega
structure Bd (m : Nat) (s : List (List Int)) (c : St) : Prop where
 len : Il m c
 lo : ∀ l : Nat, l < m → pr (lowP m s) l ≤ pr c.1 l
 hi : ∀ l : Nat, l < m → pr c.2 l ≤ pr (highP m s) l
def Le (m : Nat) (c' c : St) : Prop := ∀ l : Nat, l < m → pr c'.1 l ≤ pr c.1 l ∧ pr c.2 l ≤ pr c'.2 l
theorem Le.refl {c : St} : Le m c c := fun _ _ => ⟨Int.le_refl _, Int.le_refl _⟩
theorem Le.trans {c d e : St} (h1 : Le m c d) (h2 : Le m d e) : Le m c e := fun l hl => ⟨Int.le_trans (h1 l hl).1 (h2 l hl).1, Int.le_trans (h2 l hl).2 (h1 l hl).2⟩
theorem fold_keep {α : Type} {G : St → α → St} {ok : α → Prop} (hB : ∀ c x, ok x → Bd m s c → Bd m s (G c x)) (hL : ∀ c x, ok x → Bd m s c → Le m (G c x) c) : ∀ (xs : List α) (c : St), (∀ x ∈ xs, ok x) → Bd m s c → Bd m s (xs.foldl G c) ∧ Le m (xs.foldl G c) c ∧ ∀ x ∈ xs, ∃ c1, Bd m s c1 ∧ Le m (xs.foldl G c) (G c1 x)
 | [], c, _, h => ⟨h, Le.refl, by simp⟩
 | x :: xs, c, ho, h => by
  have hx := ho x (by simp)
  obtain ⟨h1, h2, h3⟩ := fold_keep hB hL xs (G c x) (fun y hy => ho y (by simp [hy])) (hB c x hx h)
  refine ⟨h1, h2.trans (hL c x hx h), fun y hy => ?_⟩
  rcases List.mem_cons.1 hy with rfl | hy
  ·exact ⟨c, h, h2⟩
  ·exact h3 y hy

theorem stepP_keep (hv : Vs m s) (hp : Pd m p) {c : St} {t : List Int} (ht : t ∈ ds m (-1) s.length 0 (all_ m)) (h : Bd m s c) : Bd m s (stepP m s p c t) ∧ Le m (stepP m s p c t) c := by
 obtain ⟨h1, h2⟩ := ds_range _ _ _ _ ht
 have hd := (ds_dv hv.m5 (all_lt hv.m5) ht).1
 unfold stepP
 split
 ·rename_i hb
  have hfair := (fairB_iff (m := m) (s := s) hp h1 h2).1 hb
  have hf2 := hfair.other hd (va_none s) (best_dv hv) (best_opt hv hd)
  refine ⟨⟨⟨mnL_len, mxL_len⟩, fun l hl => ?_, fun l hl => ?_⟩, fun l hl => ?_⟩
  ·have q1 := lowP_least hv hf2 hl
   have q2 := h.lo l hl
   have q3 := (imin_le (x := pr p l) (y := pr c.1 l)).2.2
   show _ ≤ pr (mnL m p c.1) l
   rw [mnL_pr hl]; omega
  ·have q1 := highP_most hv hf2 hl
   have q2 := h.hi l hl
   have q3 := (imax_le (x := pr p l) (y := pr c.2 l)).2.2
   show pr (mxL m p c.2) l ≤ _
   rw [mxL_pr hl]; omega
  ·show pr (mnL m p c.1) l ≤ _ ∧ _ ≤ pr (mxL m p c.2) l
   rw [mnL_pr hl, mxL_pr hl]
   exact ⟨imin_le.2.1, imax_le.2.1⟩
 ·exact ⟨h, Le.refl⟩
theorem stepG_keep (hv : Vs m s) (hp : Pd m p) {c : St} (h : Bd m s c) : Bd m s (stepG m s c p) ∧ Le m (stepG m s c p) c ∧ (fairB m s p (bestD m s) = true → ∀ l : Nat, l < m → pr (stepG m s c p).1 l ≤ pr p l ∧ pr p l ≤ pr (stepG m s c p).2 l) := by
 obtain ⟨h1, h2, h3⟩ := fold_keep (m := m) (s := s) (G := stepP m s p) (ok := fun t => t ∈ ds m (-1) s.length 0 (all_ m)) (fun c x hx hc => (stepP_keep hv hp hx hc).1) (fun c x hx hc => (stepP_keep hv hp hx hc).2) (ds m (-1) s.length 0 (all_ m)) c (fun x hx => hx) h
 refine ⟨h1, h2, fun hb l hl => ?_⟩
 obtain ⟨c1, g1, g2⟩ := h3 _ (best_mem hv).1
 have g3 := g2 l hl
 have g4 : stepP m s p c1 (bestD m s) = (mnL m p c1.1, mxL m p c1.2) := if_pos hb
 rw [g4] at g3
 have e1 : pr (mnL m p c1.1) l = imin (pr p l) (pr c1.1 l) := mnL_pr hl
 have e2 : pr (mxL m p c1.2) l = imax (pr p l) (pr c1.2 l) := mxL_pr hl
 have q1 := (imin_le (x := pr p l) (y := pr c1.1 l)).1
 have q2 := (imax_le (x := pr p l) (y := pr c1.2 l)).1
 dsimp only at g3
 unfold stepG
 omega

theorem pd_low (hv : Vs m s) : Pd m (lowP m s) := ⟨lowP_len, fun l hl => lowP_bd hv hl⟩
theorem high_init (hv : Vs m s) : ∀ l : Nat, l < m → 0 ≤ pr (highP m s) l ∧ ((∃ i, i < s.length ∧ pr (highP m s) l ≤ va s i l) ∨ pr (highP m s) l = 0) := fun l hl => by
 have hH := highP_fair hv
 refine ⟨hH.nn l hl, ?_⟩
 rcases own_or hv (l := l) with ⟨b, hb, e⟩ | h'
 ·have := hH.own b hb
  rw [e] at this
  exact .inl ⟨b, hb, by omega⟩
 ·exact .inr (hH.free l hl h')
theorem pd_high (hv : Vs m s) : Pd m (highP m s) := ⟨highP_len, fun l hl => by
 obtain ⟨h1, h2⟩ := high_init hv l hl
 refine ⟨h1, ?_⟩
 rcases h2 with ⟨i, _, h⟩ | h
 ·have := va_bd hv (i := i) (x := (l : Int)); omega
 ·omega⟩
theorem low_high (hv : Vs m s) {l : Nat} (hl : l < m) : pr (lowP m s) l ≤ pr (highP m s) l := lowP_least hv (highP_fair hv) hl

theorem grid_eq (hv : Vs m s) (h4 : ∀ r ∈ s, ∀ x ∈ r, x ≤ (4 : Int)) : (gl4 m).foldl (stepG m s) (List.replicate m 99, List.replicate m 0) = (lowP m s, highP m s) := by
 have hH4 : ∀ l : Nat, l < m → pr (highP m s) l ≤ 4 := fun l hl => by
  obtain ⟨h1, h2⟩ := high_init hv l hl
  rcases h2 with ⟨i, hi, h⟩ | h
  ·have hlen := (hv.ok _ (List.getElem_mem hi)).1
   have := h4 _ (List.getElem_mem hi) _ (List.getElem_mem (l := s[i]) (n := l) (by omega))
   rw [va_at hv hi hl] at this
   omega
  ·omega
 have hin : ∀ p : List Int, p.length = m → (∀ l : Nat, l < m → 0 ≤ pr p l ∧ pr p l ≤ 4) → p ∈ gl4 m := fun p hp h => by
  have := gl4_mem (l := p) fun x hx => by
   obtain ⟨i, hi, rfl⟩ := List.getElem_of_mem hx
   have := h i (by omega)
   rwa [pr_nat hi] at this
  rwa [hp] at this
 have hlow := hin _ lowP_len fun l hl => ⟨(lowP_bd hv hl).1, Int.le_trans (low_high hv hl) (hH4 l hl)⟩
 have hhigh := hin _ highP_len fun l hl => ⟨(highP_fair hv).nn l hl, hH4 l hl⟩
 have h0 : Bd m s (List.replicate m 99, List.replicate m 0) := ⟨⟨by simp, by simp⟩, fun l hl => by
  have := (lowP_bd hv hl).2
  have e : pr (List.replicate m 99) l = 99 := by rw [pr_nat (by simpa using hl)]; simp
  show _ ≤ pr (List.replicate m 99) l
  omega, fun l hl => by
  show pr (List.replicate m 0) l ≤ _
  rw [pr_zero hl]; exact (highP_fair hv).nn l hl⟩
 have pdOf : ∀ p ∈ gl4 m, Pd m p := fun p hp => by
  obtain ⟨a1, a2⟩ := gl4_pd hp
  exact Pd.of ⟨a1, fun x hx => by have := a2 x hx; omega⟩
 obtain ⟨k1, k2, k3⟩ := fold_keep (m := m) (s := s) (G := stepG m s) (ok := fun p => p ∈ gl4 m) (fun c p hp hc => (stepG_keep hv (pdOf p hp) hc).1) (fun c p hp hc => (stepG_keep hv (pdOf p hp) hc).2.1) (gl4 m) _ (fun p hp => hp) h0
 have hbl := best_len hv
 have fl_ : fairB m s (lowP m s) (bestD m s) = true := (fairB_iff (pd_low hv) hbl.1 hbl.2).2 (lowP_fair hv)
 have fh_ : fairB m s (highP m s) (bestD m s) = true := (fairB_iff (pd_high hv) hbl.1 hbl.2).2 (highP_fair hv)
 obtain ⟨c1, b1, l1⟩ := k3 _ hlow
 obtain ⟨c2, b2, l2⟩ := k3 _ hhigh
 have s1 := (stepG_keep hv (pd_low hv) b1).2.2 fl_
 have s2 := (stepG_keep hv (pd_high hv) b2).2.2 fh_
 refine Prod.ext (pr_ext hv k1.len.1 lowP_len fun l hl => ?_) (pr_ext hv k1.len.2 highP_len fun l hl => ?_)
 ·have q1 := k1.lo l hl
  have q2 := (l1 l hl).1
  have q3 := (s1 l hl).1
  dsimp only
  omega
 ·have q1 := k1.hi l hl
  have q2 := (l2 l hl).2
  have q3 := (s2 l hl).2
  dsimp only
  omega

theorem f63_eq (hF : 100 ≤ F) (hv : Vs m s) {t : List Int} (ht : t ∈ ds m (-1) s.length 0 (all_ m)) : f63 F t s (lowP m s) (highP m s) (W m s (-1)) true = some true := by
 obtain ⟨h1, h2⟩ := ds_range _ _ _ _ ht
 have hd := (ds_dv hv.m5 (all_lt hv.m5) ht).1
 unfold f63 f63_p0
 rw [f49_eq hF hv h1 h2, Option.bind_some, wB_wv]
 by_cases hw : wv s t = W m s (-1)
 ·have hge : wt s.length (va s) (lot m s) ≤ wt s.length (va s) (fl t) := by rw [best_wt hv, ← hw, wv_wt s t h1]; exact Int.le_refl _
  have fb1 := (fairB_iff (m := m) (s := s) (pd_low hv) h1 h2).2 ((lowP_fair hv).other (best_dv hv) (va_none s) hd hge)
  have fb2 := (fairB_iff (m := m) (s := s) (pd_high hv) h1 h2).2 ((highP_fair hv).other (best_dv hv) (va_none s) hd hge)
  rw [if_pos (by simpa using hw), if_pos rfl, f62_eq hF hv (pd_low hv) h1 h2, fb1, Option.bind_some, if_pos rfl, f62_eq hF hv (pd_high hv) h1 h2, fb2, Option.bind_some, Option.bind_some]
 ·rw [if_neg (by simpa using hw), Option.bind_some]
theorem f97_8_eq (hF : 100 ≤ F) (hv : Vs m s) : ∀ (r k : Nat) (l : List Int) (L : Nat), l.length + r = s.length → r < k → Avail m L l → (∀ t ∈ ds m (-1) r l.length L, l ++ t ∈ ds m (-1) s.length 0 (all_ m)) →
  f97_8 F k l s (lowP m s) (highP m s) (W m s (-1)) true s.length m = some true := by
 have hm := hv.m5
 have hn := hv.n
 intro r
 induction r with
 | zero =>
  intro k l L h1 h2 h3 h4
  obtain ⟨k, rfl⟩ : ∃ q, k = q + 1 := ⟨k - 1, by omega⟩
  show f97_8_b F (f97_8 F k) l s _ _ _ true s.length m = _
  have hmem := h4 [] (by simp [ds])
  rw [List.append_nil] at hmem
  unfold f97_8_b
  rw [if_pos (by simp; omega), f63_eq hF hv hmem, Option.bind_some]
 | succ r ih =>
  intro k l L h1 h2 h3 h4
  obtain ⟨k, rfl⟩ : ∃ q, k = q + 1 := ⟨k - 1, by omega⟩
  obtain ⟨F', rfl⟩ : ∃ F', F = F' + 1 := ⟨F - 1, by omega⟩
  show f97_8_b (F' + 1) (f97_8 (F' + 1) k) l s _ _ _ true s.length m = _
  have hrec : ∀ x, x ∈ cand m L true → f97_8 (F' + 1) k (l ++ [x]) s (lowP m s) (highP m s) (W m s (-1)) true s.length m = some true := fun x hx => by
   refine ih k (l ++ [x]) (dx L x) (by simp; omega) (by omega) (h3.next hm hx) fun t ht => ?_
   rw [List.append_assoc]
   refine h4 (x :: t) ?_
   have hi : decide ((l.length : Int) ≠ -1) = true := by simp <;> omega
   simp only [ds, hi]
   refine List.mem_flatMap.2 ⟨x, hx, List.mem_map.2 ⟨t, ?_, rfl⟩⟩
   simpa using ht
  have loop : ∀ (q j : Nat), j ≤ m → m < q + j → f97_8_p2 (F' + 1) (f97_8 (F' + 1) k) l s (lowP m s) (highP m s) (W m s (-1)) s.length m q j true = some true := by
   intro q
   induction q with
   | zero => intro j _ h; omega
   | succ q ihq =>
    intro j h5 h6
    unfold f97_8_p2
    by_cases hj : j < m
    ·rw [if_pos (by simp; omega), if_neg (by simp), f53_eq (by omega) hF, Option.bind_some, w64_succ (by omega)]
     unfold f97_8_p5
     by_cases hc : (j : Int) ∈ l
     ·rw [decide_eq_true hc, if_pos rfl, Option.bind_some]
      exact ihq (j + 1) (by omega) (by omega)
     ·have hmem : (j : Int) ∈ cand m L true := mem_cand_of ⟨by omega, by omega⟩ fun _ => by
       rw [Int.toNat_natCast, h3.2 j hj, decide_eq_false hc]; rfl
      rw [decide_eq_false hc, if_neg (by decide), f95_eq, Option.bind_some, req_pos (by simp; omega), hrec _ hmem, Option.bind_some, Option.bind_some]
      exact ihq (j + 1) (by omega) (by omega)
    ·rw [if_neg (by simp; omega)]
  have h0 : (-1 : Int) ∈ cand m L true := by simp [cand]
  unfold f97_8_b
  rw [if_neg (by simp; omega)]
  have e0 : f97_8_p2 (F' + 1) (f97_8 (F' + 1) k) l s (lowP m s) (highP m s) (W m s (-1)) s.length m (F' + 1) (-1) true = some true := by
   rw [f97_8_p2]
   rw [if_pos (by simp; omega), if_pos (by decide), f95_eq, Option.bind_some, req_pos (by simp; omega), hrec _ h0, Option.bind_some, show w64 ((-1 : Int) + 1) = ((0 : Nat) : Int) by decide]
   exact loop F' 0 (by omega) (by omega)
  rw [e0, Option.bind_some]

theorem f14_p2_eq (hv : Vs m s) {r : List Int} (hr : r.length = m) : ∀ (k i : Nat), i ≤ m → m < k + i → f14_p2 F r s (lowP m s) (highP m s) k i = some .c1 := by
 have hm := hv.m5
 intro k
 induction k with
 | zero => intro i _ h; omega
 | succ k ih =>
  intro i h1 h2
  unfold f14_p2
  by_cases hi : i < m
  ·have q1 := lowP_bd hv hi
   have q2 := low_high hv hi
   have q3 := (pd_high hv).bd i hi
   have hl1 : (lowP m s).length = m := lowP_len
   have hl2 : (highP m s).length = m := highP_len
   rw [if_pos (by simp; omega), at_get (by omega), Option.bind_some, ← pr_nat (by omega), if_neg (by simp; omega), at_get (by omega), Option.bind_some, ← pr_nat (by omega), if_neg (by simp; omega), if_neg (by simp; omega), w64_succ (by omega)]
   exact ih (i + 1) (by omega) (by omega)
  ·rw [if_neg (by simp; omega)]
end

theorem rep_look : ((List.range 4).all fun (m : Nat) => decide (f59 10000 [99] (m : Int) = some (m, List.replicate m 99))) = true := by decide +kernel
theorem f59_eq {m : Nat} (hm : m ≤ 3) : f59 10000 [99] (m : Int) = some (m, List.replicate m 99) := by
 have h := rep_look
 simp only [List.all_eq_true, List.mem_range, decide_eq_true_eq] at h
 exact h m (by omega)

theorem f14_plain (b l : Int) (w : List Int) (hb : 0 ≤ b ∧ b ≤ 255) (hl : 0 ≤ l ∧ l ≤ 255) (hw : w.length = 16) (hx : ∀ x : Int, x ∈ w → 0 ≤ x ∧ x ≤ 255) : f14 10000 b l w = some true := by
 obtain ⟨s, m, e43, hv, hs, hm, h4⟩ := made_eq (F := 10000) (most := 4) (nb := 3) (nl := 3) (by omega) (by omega) ⟨by omega, by omega⟩ (by omega) hb hl hw hx
 have hn := hv.n
 obtain ⟨r, q1, q2⟩ := hv.at0
 have hck := hv.ck
 have hl1 : (lowP m s).length = m := lowP_len
 have hl2 : (highP m s).length = m := highP_len
 have e39 : f39 10000 s = some (lowP m s, 0) := by rw [f39_eq (by omega), if_neg (by simp [hv.ck]), hv.head]
 have e41 : f41 10000 s = some (highP m s, 0) := by rw [f41_eq (by omega), if_neg (by simp [hv.ck]), hv.head]
 have eg := f94_1_eq (F := 10000) (g := true) (by omega) hv m 10000 [] (List.replicate m 99, List.replicate m 0) (by simp) (by omega) (by simp) ⟨by simp, by simp⟩
 have em : (gl4 m).map (([] : List Int) ++ ·) = gl4 m := by simp
 rw [em, grid_eq hv h4] at eg
 have el := f97_8_eq (F := 10000) (by omega) hv s.length 10000 [] (all_ m) (by simp) (by omega) (Avail.all hv.m5) (fun t ht => ht)
 have e23 : ∀ l : List Int, l.length ≤ 50 → f23 10000 l l = some true := fun l hl => by rw [f23_eq (by omega) (by omega)]; simp
 have ew : (mo m (-1) s 0 (all_ m)).1 = W m s (-1) := rfl
 unfold f14
 rw [show f43 10000 b l w 3 3 4 = some s from e43, Option.bind_some, q1, Option.bind_some, e39, Option.bind_some]
 dsimp only
 rw [e41, Option.bind_some]
 dsimp only
 rw [if_neg (by decide), if_neg (by decide), if_neg (by simp; omega), if_neg (by simp; omega), show f14_p2 10000 r s (lowP m s) (highP m s) 10000 0 = _ from f14_p2_eq hv q2 10000 0 (by omega) (by omega), Option.bind_some]
 dsimp only
 rw [great_eq (by omega) hv, Option.bind_some, q2, f59_eq hm, Option.bind_some]
 dsimp only
 rw [req_pos (by omega), Int.toNat_natCast, ew]
 unfold f50_1
 rw [eg, Option.bind_some, Option.bind_some]
 dsimp only
 unfold f54_6
 rw [el, Option.bind_some, Option.bind_some, if_pos rfl, Nat.zero_add, List.drop_zero, List.drop_zero, List.take_of_length_le (by omega), List.take_of_length_le (by omega), e23 _ (by omega), Option.bind_some, req_pos (by omega), if_pos rfl, e23 _ (by omega), Option.bind_some, req_pos (by omega), if_pos rfl, works10]
 rfl

end Go.Gh.Sale
