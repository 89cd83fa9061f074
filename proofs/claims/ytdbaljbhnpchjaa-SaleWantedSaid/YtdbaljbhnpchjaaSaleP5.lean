/- SaleWanted: the plain law. -/
import Derived.Test.YtdbaljbhnpchjaaSaleB5
namespace Go.Gh.Sale
set_option linter.unusedVariables false
set_option linter.unusedSimpArgs false

/-- The error of a sale with prices. -/
def pE (s : List (List Int)) (p : List Int) : Int := if ckS s ≠ 0 then ckS s else rowE (s[0]?.getD []).length p
theorem pE_ok {s : List (List Int)} {p : List Int} (h : pE s p = 0) : Vs (s[0]?.getD []).length s ∧ Pd (s[0]?.getD []).length p := by
  unfold pE at h
  by_cases hc : ckS s = 0
  · rw [if_neg (by simpa using hc)] at h
    exact ⟨ckS_ok hc, Pd.of (rowE_ok h)⟩
  · rw [if_pos hc] at h; exact absurd h hc

section
variable {m F : Nat} {s : List (List Int)} {p : List Int}
theorem f83_gen (hF : 100 ≤ F) (s : List (List Int)) (p : List Int) : f83 F s p = some (if ckS s ≠ 0 then .c0 (ckS s) else .c1 (rowE (s[0]?.getD []).length p) [] s ((s[0]?.getD []).length : Nat)) := by
  unfold f83
  rw [f65_eq hF, Option.bind_some]
  by_cases h : ckS s = 0
  · have hm := (ckS_ok h).m5
    rw [if_neg (by simpa using h), if_neg (by simpa using h)]
    unfold f83_p0_1
    dsimp only
    rw [if_pos (by decide), f76_eq hF (by omega), Option.bind_some, Option.bind_some]
  · rw [if_pos h, if_pos h]
    unfold f83_p0
    dsimp only
    rw [if_neg (by simpa using h), Option.bind_some]
theorem f85_eq (hF : 100 ≤ F) (s : List (List Int)) (p : List Int) : f85 F s p = some (pE s p) := by
  unfold f85 f85_p0 pE
  rw [f25_eq hF, Option.bind_some]
  by_cases h : ckS s = 0
  · rw [if_pos (by simpa using h), f82_eq hF (ckS_ok h), Option.bind_some, Option.bind_some, if_neg (by simpa using h)]
  · rw [if_neg (by simpa using h), Option.bind_some, if_pos h]
theorem f32_gen (hF : 100 ≤ F) (s : List (List Int)) (p : List Int) : f32 F s p = some (if pE s p ≠ 0 then ([], pE s p) else (wls (s[0]?.getD []).length s p, 0)) := by
  by_cases h : pE s p = 0
  · obtain ⟨hv, hp⟩ := pE_ok h
    rw [if_neg (by simpa using h), f32_good hF hv hp]
  · rw [if_pos h]
    unfold f32
    rw [f83_gen hF, Option.bind_some]
    unfold pE at h ⊢
    by_cases hc : ckS s = 0
    · rw [if_neg (by simpa using hc)] at h
      rw [if_neg (by simpa using hc), if_neg (by simpa using hc)]
      dsimp only
      rw [if_pos (by simpa using h)]
    · rw [if_pos hc, if_pos hc]
      dsimp only
      rw [if_pos (by simpa using hc)]
theorem f34_gen (hF : 100 ≤ F) (s : List (List Int)) (p : List Int) : f34 F s p = some (if pE s p ≠ 0 then ([], pE s p) else match overG F (s[0]?.getD []).length s p with | none => ([], 13) | some b => (b, 0)) := by
  by_cases h : pE s p = 0
  · obtain ⟨hv, hp⟩ := pE_ok h
    rw [if_neg (by simpa using h), f34_good hF hv hp]
    rfl
  · rw [if_pos h]
    unfold f34
    rw [f83_gen hF, Option.bind_some]
    unfold pE at h ⊢
    by_cases hc : ckS s = 0
    · rw [if_neg (by simpa using hc)] at h
      rw [if_neg (by simpa using hc), if_neg (by simpa using hc)]
      dsimp only
      rw [if_pos (by simpa using h)]
    · rw [if_pos hc, if_pos hc]
      dsimp only
      rw [if_pos (by simpa using hc)]

/- The reference: what a bidder wants. -/
theorem f86_p1_eq {b : Nat} (hv : Vs m s) (hp : Pd m p) (hb : b < s.length) : ∀ (k j : Nat), j ≤ m → m < k + j → f86_p1 F s p b k (mxw (gv s p b) j) j = some (mxg m s p b) := by
  have hm := hv.m5
  have hlen := (hv.ok _ (List.getElem_mem hb)).1
  have hpl := hp.len
  intro k
  induction k with
  | zero => intro j _ h; omega
  | succ k ih =>
    intro j h1 h2
    unfold f86_p1
    by_cases hj : j < m
    · have hg := gv_bd (i := b) hv hp hj
      have e : s[b][j]'(by omega) - p[j]'(by omega) = gv s p b j := by
        unfold gv
        rw [← va_at hv hb hj (by omega), pr_nat (by omega)]
      rw [if_pos (by simp; omega), at_get hb, Option.bind_some, at_get (by omega), Option.bind_some, at_get (by omega), Option.bind_some, w64_succ (by omega), e, w64_in (n := gv s p b j) (by omega)]
      have := ih (j + 1) (by omega) (by omega)
      rw [mxw] at this
      exact this
    · rw [if_neg (by simp; omega)]
      obtain rfl : j = m := by omega
      rfl
theorem f86_p6_eq {b : Nat} (hv : Vs m s) (hp : Pd m p) (hb : b < s.length) {b0 : List Int} (hb0 : b0.length ≤ 1) : ∀ (k j : Nat), j ≤ m → m < k + j → f86_p6 F s p b (mxg m s p b) k j (b0 ++ ((List.range j).filter fun l => decide (gv s p b l = mxg m s p b)).map (fun (l : Nat) => (l : Int))) = some (b0 ++ ((List.range m).filter fun l => decide (gv s p b l = mxg m s p b)).map (fun (l : Nat) => (l : Int))) := by
  have hm := hv.m5
  have hlen := (hv.ok _ (List.getElem_mem hb)).1
  have hpl := hp.len
  intro k
  induction k with
  | zero => intro j _ h; omega
  | succ k ih =>
    intro j h1 h2
    unfold f86_p6
    by_cases hj : j < m
    · have hg := gv_bd (i := b) hv hp hj
      have e : s[b][j]'(by omega) - p[j]'(by omega) = gv s p b j := by
        unfold gv
        rw [← va_at hv hb hj (by omega), pr_nat (by omega)]
      have hlf := List.length_filter_le (fun l => decide (gv s p b l = mxg m s p b)) (List.range j)
      rw [List.length_range] at hlf
      have := ih (j + 1) (by omega) (by omega)
      rw [fr_succ] at this
      rw [if_pos (by simp; omega), at_get hb, Option.bind_some, at_get (by omega), Option.bind_some, at_get (by omega), Option.bind_some, w64_succ (by omega)]
      unfold f86_p9
      rw [e, w64_in (n := gv s p b j) (by omega)]
      by_cases ht : gv s p b j = mxg m s p b
      · rw [if_pos (decide_eq_true ht)] at this
        rw [if_pos (by simpa using ht), req_pos (by simp; omega), Option.bind_some, List.append_assoc]
        exact this
      · rw [if_neg (by simpa using ht), List.append_nil] at this
        rw [if_neg (by simpa using ht), Option.bind_some]
        exact this
    · rw [if_neg (by simp; omega)]
      obtain rfl : j = m := by omega
      rfl
theorem f86_p6_1_is {b x : Int} : ∀ (k : Nat) (j : Int) (l : List Int), f86_p6_1 F s p b x k j l = f86_p6 F s p b x k j l := by
  intro k
  induction k with
  | zero => intro j l; rfl
  | succ k ih =>
    intro j l
    unfold f86_p6_1 f86_p6
    simp only [ih]
    rfl
theorem f86_eq {b : Nat} (hF : 100 ≤ F) (hv : Vs m s) (hp : Pd m p) (hb : b < s.length) : f86 F s p b = some (wl m s p b) := by
  have hm := hv.m5
  have e := fun (b0 : List Int) hb0 => f86_p6_eq (F := F) (b0 := b0) hv hp hb hb0 F 0 (by omega) (by omega)
  rw [show ((List.range 0).filter fun l => decide (gv s p b l = mxg m s p b)).map (fun (l : Nat) => (l : Int)) = [] from rfl] at e
  unfold f86
  rw [show f86_p1 F s p b F 0 0 = _ from f86_p1_eq hv hp hb F 0 (by omega) (by omega), Option.bind_some]
  unfold f86_p4 wl
  by_cases h0 : mxg m s p b = 0
  · have := e [-1] (by simp)
    rw [List.append_nil] at this
    rw [if_pos (by simpa using h0), req_pos (by simp), Option.bind_some]
    dsimp only
    rw [show f86_p6 F s p b (mxg m s p b) F 0 [-1] = _ from this, Option.bind_some, take0, if_pos h0]
  · have := e [] (by simp)
    rw [List.append_nil] at this
    rw [if_neg (by simpa using h0), Option.bind_some]
    dsimp only
    rw [f86_p6_1_is, show f86_p6 F s p b (mxg m s p b) F 0 [] = _ from this, Option.bind_some, take0, if_neg h0]
theorem f33_p2_eq (hF : 100 ≤ F) (hv : Vs m s) (hp : Pd m p) : ∀ (k j : Nat), j ≤ s.length → s.length < k + j → f33_p2 F s p k j ((List.range j).map (wl m s p)) = some (wls m s p) := by
  have hn := hv.n
  intro k
  induction k with
  | zero => intro j _ h; omega
  | succ k ih =>
    intro j h1 h2
    unfold f33_p2
    by_cases hj : j < s.length
    · rw [if_pos (by simp; omega), f86_eq hF hv hp hj, Option.bind_some, req_pos (by simp; omega), w64_succ (by omega)]
      have e : (List.range j).map (wl m s p) ++ [wl m s p j] = (List.range (j + 1)).map (wl m s p) := by simp [List.range_succ]
      rw [e]
      exact ih (j + 1) (by omega) (by omega)
    · rw [if_neg (by simp; omega)]
      obtain rfl : j = s.length := by omega
      rfl
theorem f33_gen (hF : 100 ≤ F) (s : List (List Int)) (p : List Int) : f33 F s p = some (if pE s p ≠ 0 then ([], pE s p) else (wls (s[0]?.getD []).length s p, 0)) := by
  unfold f33
  rw [f85_eq hF, Option.bind_some]
  by_cases h : pE s p = 0
  · obtain ⟨hv, hp⟩ := pE_ok h
    have hn := hv.n
    rw [if_neg (by simpa using h), if_neg (by simpa using h), show f33_p2 F s p F 0 [] = _ from f33_p2_eq hF hv hp F 0 (by omega) (by omega), Option.bind_some, take0]
  · rw [if_pos (by simpa using h), if_pos h]

/- Fair. -/
theorem worthA_ok (hv : Vs m s) {d : List Int} (h : (worthA s d).2 = 0) : d.length = s.length ∧ (∀ x ∈ d, -1 ≤ x ∧ x < m) ∧ okD (all_ m) d = true := by
  have e := f21_gen (F := 100) (by omega) s d
  have h' := h
  unfold worthA at h
  rw [if_neg (by simp [hv.ck]), hv.head] at h
  by_cases hl : (d.length : Int) = s.length
  · rw [if_neg (by simpa using hl)] at h
    have hw : wE m (all_ m) d = 0 := by
      by_cases hw : wE m (all_ m) d = 0
      · exact hw
      · rw [if_pos hw] at h; exact absurd h hw
    have hx := wE_range d _ hw
    refine ⟨by omega, hx, ?_⟩
    have e2 := f21_eq (F := 100) (by omega) hv (by omega : d.length = s.length) hx
    cases ho : okD (all_ m) d with
    | true => rfl
    | false =>
      rw [e, ho, if_neg (by decide)] at e2
      have : worthA s d = (0, 6) := by simpa using e2
      rw [this] at h'
      exact absurd h' (by decide)
  · rw [if_pos hl] at h; exact absurd h (by decide)
def fairA (s : List (List Int)) (p d : List Int) : Int := if pE s p ≠ 0 then pE s p else if (worthA s d).2 ≠ 0 then (worthA s d).2 else if fairB (s[0]?.getD []).length s p d = true then 0 else 14
theorem f37_gen (hF : 100 ≤ F) (s : List (List Int)) (p d : List Int) : f37 F s p d = some (fairA s p d) := by
  unfold fairA
  by_cases h : pE s p = 0
  · obtain ⟨hv, hp⟩ := pE_ok h
    rw [if_neg (by simpa using h)]
    by_cases hw : (worthA s d).2 = 0
    · obtain ⟨w1, w2, w3⟩ := worthA_ok hv hw
      rw [if_neg (by simpa using hw), f37_eq hF hv hp w1 w2 w3]
    · rw [if_pos hw]
      unfold f37
      rw [f83_eq hF hv hp, Option.bind_some]
      unfold f37_p0_1
      dsimp only
      rw [if_pos (by decide), f21_gen hF, Option.bind_some, Option.bind_some, if_pos (by simpa using hw)]
  · rw [if_pos h]
    unfold f37
    rw [f83_gen hF, Option.bind_some]
    unfold pE at h ⊢
    by_cases hc : ckS s = 0
    · rw [if_neg (by simpa using hc)] at h
      rw [if_neg (by simpa using hc), if_neg (by simpa using hc)]
      unfold f37_p0_1
      dsimp only
      rw [if_neg (by simpa using h), Option.bind_some, if_pos (by simpa using h)]
    · rw [if_pos hc, if_pos hc]
      unfold f37_p0
      dsimp only
      rw [if_neg (by simpa using hc), Option.bind_some, if_pos (by simpa using hc)]
theorem f38_p3_eq (hF : 100 ≤ F) (hv : Vs m s) (hp : Pd m p) {l : List Int} (hl : l.length = s.length) (hx : ∀ x ∈ l, -1 ≤ x ∧ x < m) : ∀ (k j : Nat), j ≤ s.length → s.length < k + j → (f38_p3 F s p l k j = some .c1 ∧ ∀ i, j ≤ i → i < s.length → owng s p i (fl l i) = mxg m s p i) ∨ (f38_p3 F s p l k j = some .c0 ∧ ∃ i, i < s.length ∧ owng s p i (fl l i) ≠ mxg m s p i) := by
  have hn := hv.n
  have hm := hv.m5
  intro k
  induction k with
  | zero => intro j _ h; omega
  | succ k ih =>
    intro j h1 h2
    unfold f38_p3
    by_cases hj : j < s.length
    · have hr := hx _ (List.getElem_mem (l := l) (n := j) (by omega))
      have hfl : fl l j = l[j]'(by omega) := fl_get (by omega)
      have hwl := (wl_range (m := m) (i := j) (s := s) (p := p)).2
      have hmw := mem_wl (m := m) (s := s) (p := p) (i := j) hr
      rw [if_pos (by simp; omega), f86_eq hF hv hp hj, Option.bind_some, at_get (by omega), Option.bind_some, f74_eq (by omega) hF, Option.bind_some, w64_succ (by omega)]
      by_cases hok : owng s p j (fl l j) = mxg m s p j
      · rw [if_pos (by rw [decide_eq_true_eq, hmw, ← hfl]; exact hok)]
        rcases ih (j + 1) (by omega) (by omega) with ⟨c, d⟩ | h
        · refine .inl ⟨c, fun i h4 h5 => ?_⟩
          by_cases e : i = j
          · subst e; exact hok
          · exact d i (by omega) h5
        · exact .inr h
      · rw [if_neg (by rw [decide_eq_true_eq, hmw, ← hfl]; exact hok)]
        exact .inr ⟨rfl, j, hj, hok⟩
    · rw [if_neg (by simp; omega)]
      exact .inl ⟨rfl, fun i h4 h5 => by omega⟩
theorem f38_p8_eq (hF : 100 ≤ F) (hm : m ≤ 5) (hp : Pd m p) {l : List Int} (hl : l.length ≤ 50) : ∀ (k j : Nat), j ≤ m → m < k + j → (f38_p8 F p l k j = some .c1 ∧ ∀ y : Nat, j ≤ y → y < m → pr p y > 0 → (y : Int) ∈ l) ∨ (f38_p8 F p l k j = some .c0 ∧ ∃ y : Nat, y < m ∧ pr p y > 0 ∧ (y : Int) ∉ l) := by
  have hpl := hp.len
  intro k
  induction k with
  | zero => intro j _ h; omega
  | succ k ih =>
    intro j h1 h2
    unfold f38_p8
    by_cases hj : j < m
    · rw [if_pos (by simp; omega), f74_eq (by omega) hF, Option.bind_some, w64_succ (by omega)]
      by_cases h4 : (j : Int) ∈ l
      · rw [if_pos (by simpa using h4)]
        rcases ih (j + 1) (by omega) (by omega) with ⟨a, b⟩ | h
        · refine .inl ⟨a, fun y h5 h6 h7 => ?_⟩
          by_cases e : y = j
          · subst e; exact h4
          · exact b y (by omega) h6 h7
        · exact .inr h
      · rw [if_neg (by simpa using h4), at_get (by omega), Option.bind_some, ← pr_nat (by omega)]
        by_cases h3 : pr p j > 0
        · rw [if_pos (by simpa using h3)]
          exact .inr ⟨rfl, j, hj, h3, h4⟩
        · rw [if_neg (by simpa using h3)]
          rcases ih (j + 1) (by omega) (by omega) with ⟨a, b⟩ | h
          · refine .inl ⟨a, fun y h5 h6 h7 => ?_⟩
            by_cases e : y = j
            · subst e; exact absurd h7 h3
            · exact b y (by omega) h6 h7
          · exact .inr h
    · rw [if_neg (by simp; omega)]
      exact .inl ⟨rfl, fun y h4 h5 => by omega⟩
theorem f38_gen (hF : 100 ≤ F) (s : List (List Int)) (p d : List Int) (hd : d.length ≤ 50) : f38 F s p d = some (fairA s p d) := by
  unfold f38 f38_p0 fairA
  rw [f85_eq hF, Option.bind_some]
  by_cases h : pE s p = 0
  · obtain ⟨hv, hp⟩ := pE_ok h
    have hn := hv.n
    have hm := hv.m5
    rw [if_pos (by simpa using h), f22_eq hF s d hd, Option.bind_some, if_neg (by simpa using h)]
    dsimp only
    rw [Option.bind_some]
    by_cases hw : (worthA s d).2 = 0
    · obtain ⟨w1, w2, w3⟩ := worthA_ok hv hw
      rw [if_neg (by simpa using hw), if_neg (by simpa using hw)]
      rcases f38_p3_eq hF hv hp w1 w2 F 0 (by omega) (by omega) with ⟨a, b⟩ | ⟨a, i, i1, i2⟩
      · rw [show f38_p3 F s p d F 0 = _ from a, Option.bind_some]
        dsimp only
        rcases f38_p8_eq hF hm hp (l := d) (by omega) F 0 (by omega) (by omega) with ⟨c, d'⟩ | ⟨c, y, y1, y2, y3⟩
        · rw [show f38_p8 F p d F 0 = _ from c, Option.bind_some]
          have e : fairB (s[0]?.getD []).length s p d = true := by
            unfold fairB
            simp only [Bool.and_eq_true, List.all_eq_true, List.mem_range, decide_eq_true_eq]
            exact ⟨fun i hi => b i (by omega) hi, fun y hy => d' y (by omega) hy⟩
          rw [if_pos e]
        · rw [show f38_p8 F p d F 0 = _ from c, Option.bind_some]
          rw [if_neg fun h => ?_]
          unfold fairB at h
          simp only [Bool.and_eq_true, List.all_eq_true, List.mem_range, decide_eq_true_eq] at h
          exact y3 (h.2 y y1 y2)
      · rw [show f38_p3 F s p d F 0 = _ from a, Option.bind_some]
        dsimp only
        rw [if_neg fun h => ?_]
        unfold fairB at h
        simp only [Bool.and_eq_true, List.all_eq_true, List.mem_range, decide_eq_true_eq] at h
        exact i2 (h.1 i i1)
    · rw [if_pos (by simpa using hw), if_pos hw]
  · rw [if_neg (by simpa using h), Option.bind_some, if_pos (by simpa using h), if_pos h]

/- The reference's groups. -/
def anyM (m : Nat) (s : List (List Int)) (p g : List Int) (l : Int) : Bool := g.any fun x => decide (l ∈ wl m s p x.toNat)
theorem f90_p5_eq (hF : 100 ≤ F) (hv : Vs m s) (hp : Pd m p) {g : List Int} (hg : ∀ x ∈ g, 0 ≤ x ∧ x < s.length) (hgl : g.length ≤ 20) {l : Nat} : ∀ (k i : Nat) (c : Bool) (out : List Int), i ≤ g.length → g.length < k + i → out.length ≤ 20 →
    f90_p5_1 F s p g l k c i out = some (c || anyM m s p (g.drop i) (-1), if (l : Int) ∈ out then out else if anyM m s p (g.drop i) l = true then out ++ [(l : Int)] else out) := by
  have hm := hv.m5
  intro k
  induction k with
  | zero => intro i c out _ h; omega
  | succ k ih =>
    intro i c out h1 h2 h3
    unfold f90_p5_1
    by_cases hi : i < g.length
    · obtain ⟨x, hx⟩ : ∃ x : Nat, g[i] = x := ⟨g[i].toNat, by have := hg _ (List.getElem_mem hi); omega⟩
      have hr := hg _ (List.getElem_mem hi)
      have hwl := (wl_range (m := m) (i := x) (s := s) (p := p)).2
      have ea : ∀ y, anyM m s p (g.drop i) y = (decide (y ∈ wl m s p x) || anyM m s p (g.drop (i + 1)) y) := fun y => by
        unfold anyM
        rw [drop_cons hi, List.any_cons, hx, Int.toNat_natCast]
      rw [hx] at hr
      rw [if_pos (by simp; omega), at_get hi, Option.bind_some, hx, f86_eq hF hv hp (by omega), Option.bind_some, w64_succ (by omega), ea, ea]
      have put : ∀ c : Bool, (if decide ((l : Int) ∈ wl m s p x) = true then
            Option.bind (if (l : Int) ∈ out then some out else some (out ++ [(l : Int)])) fun x36 => f90_p5_1 F s p g l k c ((i + 1 : Nat) : Int) x36
          else f90_p5_1 F s p g l k c ((i + 1 : Nat) : Int) out) = some (c || anyM m s p (g.drop (i + 1)) (-1), if (l : Int) ∈ out then out else if (decide ((l : Int) ∈ wl m s p x) || anyM m s p (g.drop (i + 1)) l) = true then out ++ [(l : Int)] else out) := fun c => by
        by_cases hw : (l : Int) ∈ wl m s p x
        · rw [if_pos (decide_eq_true hw), decide_eq_true hw, Bool.true_or, if_pos rfl]
          by_cases ho : (l : Int) ∈ out
          · rw [if_pos ho, if_pos ho, Option.bind_some, ih (i + 1) c out (by omega) (by omega) h3, if_pos ho]
          · rw [if_neg ho, if_neg ho, Option.bind_some]
            by_cases h19 : out.length ≤ 19
            · rw [ih (i + 1) c _ (by omega) (by omega) (by simp; omega), if_pos (by simp)]
            · have key : ∀ (k i : Nat) (c : Bool) (out : List Int), i ≤ g.length → g.length < k + i → out.length ≤ 21 → (l : Int) ∈ out → f90_p5_1 F s p g l k c i out = some (c || anyM m s p (g.drop i) (-1), out) := by
                intro k
                induction k with
                | zero => intro i c out _ h; omega
                | succ k ih =>
                  intro i c out h1 h2 h3 ho
                  unfold f90_p5_1
                  by_cases hi : i < g.length
                  · obtain ⟨x, hx⟩ : ∃ x : Nat, g[i] = x := ⟨g[i].toNat, by have := hg _ (List.getElem_mem hi); omega⟩
                    have hr := hg _ (List.getElem_mem hi)
                    have hwl := (wl_range (m := m) (i := x) (s := s) (p := p)).2
                    rw [hx] at hr
                    have ea : anyM m s p (g.drop i) (-1) = (decide ((-1 : Int) ∈ wl m s p x) || anyM m s p (g.drop (i + 1)) (-1)) := by
                      unfold anyM
                      rw [drop_cons hi, List.any_cons, hx, Int.toNat_natCast]
                    rw [if_pos (by simp; omega), at_get hi, Option.bind_some, hx, f86_eq hF hv hp (by omega), Option.bind_some, w64_succ (by omega), ea, take0, f74_eq (x := (l : Int)) (by omega : (wl m s p x).length ≤ 50) hF, f74_eq (x := (-1 : Int)) (by omega : (wl m s p x).length ≤ 50) hF, f74_eq (by omega : out.length ≤ 50) hF]
                    simp only [Option.bind_some, f90_p8_3, f90_p8_4, decide_eq_true ho, if_true]
                    cases c with
                    | true =>
                      rw [if_pos rfl, Bool.true_or]
                      have := ih (i + 1) true out (by omega) (by omega) h3 ho
                      rw [Bool.true_or] at this
                      split <;> exact this
                    | false =>
                      rw [if_neg (by decide), Bool.false_or]
                      have := ih (i + 1) (decide ((-1 : Int) ∈ wl m s p x)) out (by omega) (by omega) h3 ho
                      split <;> exact this
                  · rw [if_neg (by simp; omega), List.drop_eq_nil_of_le (by omega)]
                    simp [anyM]
              exact key k (i + 1) c _ (by omega) (by omega) (by simp; omega) (by simp)
        · rw [if_neg (by simpa using hw), decide_eq_false hw, Bool.false_or]
          exact ih (i + 1) c out (by omega) (by omega) h3
      have e8 : ∀ c : Bool, f90_p8_3 F s p g out l i (decide ((l : Int) ∈ out)) = if (l : Int) ∈ out then some out else some (out ++ [(l : Int)]) := fun c => by
        unfold f90_p8_3
        by_cases ho : (l : Int) ∈ out
        · rw [if_pos (decide_eq_true ho), if_pos ho]
        · rw [if_neg (by simpa using ho), if_neg ho, req_pos (by simp; omega)]
      have e8' : ∀ c : Bool, f90_p8_4 F s p g out c l i (decide ((l : Int) ∈ out)) = if (l : Int) ∈ out then some out else some (out ++ [(l : Int)]) := fun c => by
        unfold f90_p8_4
        by_cases ho : (l : Int) ∈ out
        · rw [if_pos (decide_eq_true ho), if_pos ho]
        · rw [if_neg (by simpa using ho), if_neg ho, req_pos (by simp; omega)]
      cases c with
      | true =>
        rw [if_pos rfl, f74_eq (by omega) hF, Option.bind_some, take0, f74_eq (by omega) hF, Option.bind_some, e8 true]
        have := put true
        rw [Bool.true_or] at this ⊢
        exact this
      | false =>
        rw [if_neg (by decide), f74_eq (by omega) hF, Option.bind_some, f74_eq (by omega) hF, Option.bind_some, take0, f74_eq (by omega) hF, Option.bind_some, e8']
        rw [Bool.false_or]
        exact put (decide ((-1 : Int) ∈ wl m s p x))
    · rw [if_neg (by simp; omega), List.drop_eq_nil_of_le (by omega)]
      simp [anyM]
theorem f90_p1_eq (hF : 100 ≤ F) (hv : Vs m s) (hp : Pd m p) {g : List Int} (hg : ∀ x ∈ g, 0 ≤ x ∧ x < s.length) (hgl : g.length ≤ 20) : ∀ (k l : Nat) (c : Bool), l ≤ m → m < k + l →
    f90_p1 F s p g k c l (((List.range l).filter fun (y : Nat) => anyM m s p g y).map (fun (y : Nat) => (y : Int))) = some (c || (decide (l < m) && anyM m s p g (-1)), ((List.range m).filter fun (y : Nat) => anyM m s p g y).map (fun (y : Nat) => (y : Int))) := by
  have hm := hv.m5
  have hpl := hp.len
  intro k
  induction k with
  | zero => intro l c _ h; omega
  | succ k ih =>
    intro l c h1 h2
    unfold f90_p1
    by_cases hl : l < m
    · have hlf := List.length_filter_le (fun (y : Nat) => anyM m s p g y) (List.range l)
      rw [List.length_range] at hlf
      have hno : (l : Int) ∉ ((List.range l).filter fun (y : Nat) => anyM m s p g y).map (fun (y : Nat) => (y : Int)) := fun h => by
        obtain ⟨y, hy, e⟩ := List.mem_map.1 h
        have := List.mem_range.1 (List.mem_filter.1 hy).1
        omega
      have e5 := f90_p5_eq (l := l) hF hv hp hg hgl F 0 c (((List.range l).filter fun (y : Nat) => anyM m s p g y).map (fun (y : Nat) => (y : Int))) (by omega) (by omega) (by simp; omega)
      rw [List.drop_zero, if_neg hno] at e5
      rw [if_pos (by simp; omega), show f90_p5_1 F s p g l F c 0 _ = _ from e5, Option.bind_some, w64_succ (by omega)]
      dsimp only
      have := ih (l + 1) (c || anyM m s p g (-1)) (by omega) (by omega)
      rw [fr_succ] at this
      have e : (if anyM m s p g l = true then ((List.range l).filter fun (y : Nat) => anyM m s p g y).map (fun (y : Nat) => (y : Int)) ++ [(l : Int)] else ((List.range l).filter fun (y : Nat) => anyM m s p g y).map (fun (y : Nat) => (y : Int))) = ((List.range l).filter fun (y : Nat) => anyM m s p g y).map (fun (y : Nat) => (y : Int)) ++ (if anyM m s p g l = true then [(l : Int)] else []) := by
        split
        · rfl
        · rw [List.append_nil]
      rw [e, this, decide_eq_true hl]
      cases c <;> cases anyM m s p g (-1) <;> simp
    · rw [if_neg (by simp; omega)]
      obtain rfl : l = m := by omega
      simp
/-- A list of bidders who want too much. -/
def badL (m : Nat) (s : List (List Int)) (p g : List Int) : Bool := !anyM m s p g (-1) && decide (((List.range m).filter fun (y : Nat) => anyM m s p g y).length < g.length)
theorem f90_eq (hF : 100 ≤ F) (hv : Vs m s) (hp : Pd m p) (h0 : 0 < m) {g : List Int} (hg : ∀ x ∈ g, 0 ≤ x ∧ x < s.length) (hgl : g.length ≤ 20) : f90 F s p g = some (((List.range m).filter fun (y : Nat) => anyM m s p g y).map (fun (y : Nat) => (y : Int)), anyM m s p g (-1)) := by
  have hm := hv.m5
  have e := f90_p1_eq hF hv hp hg hgl F 0 false (by omega) (by omega)
  unfold f90
  rw [show f90_p1 F s p g F false 0 [] = _ from e, Option.bind_some]
  dsimp only
  rw [take0, decide_eq_true h0, Bool.true_and, Bool.false_or]

def nxt (b : List Int) : Nat := match b.getLast? with | none => 0 | some y => y.toNat + 1
/-- The groups that begin with some bidders. -/
def extG (n : Nat) : Nat → List Int → List (List Int)
  | 0, b => [b]
  | k + 1, b => ((List.range n).drop (nxt b)).flatMap fun (x : Nat) => extG n k (b ++ [(x : Int)])
def res103 (o : Option (List Int)) : f103_R := match o with | none => .c0 | some l => .c1 l
theorem nxt_snoc {b : List Int} {x : Nat} : nxt (b ++ [(x : Int)]) = x + 1 := by unfold nxt; simp
theorem f103_p2_eq {b : List Int} (hb : ∀ x ∈ b, 0 ≤ x ∧ x < 100) (hbl : b.length ≤ 50) {k : Int} : f103_p2 F s p b k = some ((nxt b : Nat) : Int) := by
  unfold f103_p2 nxt
  by_cases h : b = []
  · subst h; rw [if_neg (by simp)]; rfl
  · have hl : 0 < b.length := List.length_pos_iff.2 h
    have hx := hb _ (List.getLast_mem h)
    have e : at? b ((b.length : Int) - 1) = some (b.getLast h) := by
      rw [show ((b.length : Int) - 1) = ((b.length - 1 : Nat) : Int) by omega, at_get (by omega), List.getLast_eq_getElem]
    have eL : b.getLast? = some (b.getLast h) := by rw [List.getLast?_eq_some_getLast h]
    rw [if_pos (by simpa using hl), w64_in (by omega), e, Option.bind_some, eL, w64_in (by omega)]
    dsimp only
    congr 1
    omega
theorem find_flat1 {α : Type} {P : List Int → Bool} {G : α → List (List Int)} (x : α) (xs : List α) : ((x :: xs).flatMap G).find? P = (((G x).find? P).or ((xs.flatMap G).find? P)) := by
  rw [List.flatMap_cons, List.find?_append]
theorem f103_eq (hF : 100 ≤ F) (hv : Vs m s) (hp : Pd m p) (h0 : 0 < m) : ∀ (q k : Nat) (b : List Int), q < k → (∀ x ∈ b, 0 ≤ x ∧ x < s.length) → b.length + q ≤ 10 → f103 F k s p b q = some (res103 ((extG s.length q b).find? (badL m s p))) := by
  have hn := hv.n
  intro q
  induction q with
  | zero =>
    intro k b h1 h2 h3
    obtain ⟨k, rfl⟩ : ∃ r, k = r + 1 := ⟨k - 1, by omega⟩
    show f103_b F (f103 F k) s p b 0 = _
    unfold f103_b
    rw [if_pos (by decide), f90_eq hF hv hp h0 h2 (by omega), Option.bind_some]
    dsimp only
    unfold extG
    rw [List.find?_cons]
    unfold badL
    cases hany : anyM m s p b (-1) with
    | true => rw [if_pos rfl]; rfl
    | false =>
      rw [if_neg (by decide), List.length_map]
      by_cases hc : ((List.range m).filter fun (y : Nat) => anyM m s p b y).length < b.length
      · rw [if_pos (by simpa using hc), decide_eq_true hc]; rfl
      · rw [if_neg (by simpa using hc), decide_eq_false hc]; rfl
  | succ q ih =>
    intro k b h1 h2 h3
    obtain ⟨k, rfl⟩ : ∃ r, k = r + 1 := ⟨k - 1, by omega⟩
    show f103_b F (f103 F k) s p b ((q + 1 : Nat) : Int) = _
    have loop : ∀ (r j : Nat), j ≤ s.length + 1 → s.length + 1 < r + j → f103_p4 F (f103 F k) s p b ((q + 1 : Nat) : Int) r j = some (match (((List.range s.length).drop j).flatMap fun (x : Nat) => extG s.length q (b ++ [(x : Int)])).find? (badL m s p) with | none => .c1 | some l => .c0 l) := by
      intro r
      induction r with
      | zero => intro j _ h; omega
      | succ r ihr =>
        intro j h4 h5
        unfold f103_p4
        by_cases hj : j < s.length
        · have hd : (List.range s.length).drop j = j :: (List.range s.length).drop (j + 1) := by rw [List.drop_eq_getElem_cons (by simpa using hj)]; simp
          have hrec := ih k (b ++ [(j : Int)]) (by omega) (fun x hx => by
            rcases List.mem_append.1 hx with hx | hx
            · exact h2 x hx
            · simp at hx; omega) (by simp; omega)
          rw [if_pos (by simp; omega), req_pos (by simp; omega), req_pos (by simp; omega), take0, List.nil_append, w64_in (by omega), show ((q + 1 : Nat) : Int) - 1 = (q : Int) by omega, hrec, Option.bind_some, hd, find_flat1]
          cases hf : (extG s.length q (b ++ [(j : Int)])).find? (badL m s p) with
          | none =>
            unfold res103
            dsimp only
            rw [Option.none_or, w64_succ (by omega)]
            exact ihr (j + 1) (by omega) (by omega)
          | some l =>
            have hbad := List.find?_some hf
            have hne : l ≠ [] := fun e => by
              subst e
              unfold badL at hbad
              simp at hbad
            unfold res103
            dsimp only
            rw [req_pos hne, Option.some_or]
        · rw [if_neg (by simp; omega), List.drop_eq_nil_of_le (by simp; omega)]
          rfl
    unfold f103_b
    rw [if_neg (by simp; omega), f103_p2_eq (fun x hx => by have := h2 x hx; omega) (by omega), Option.bind_some]
    have hnx : nxt b ≤ s.length + 1 := by
      unfold nxt
      cases hg : b.getLast? with
      | none => dsimp only; omega
      | some y =>
        have := h2 y (List.mem_of_getLast? hg)
        dsimp only; omega
    rw [loop F (nxt b) hnx (by omega), Option.bind_some, extG]
    cases (((List.range s.length).drop (nxt b)).flatMap fun (x : Nat) => extG s.length q (b ++ [(x : Int)])).find? (badL m s p) <;> rfl
/-- All groups, the smaller ones first. -/
def allG (n : Nat) : List (List Int) := (List.range n).flatMap fun k => extG n (k + 1) []
theorem f87_p1_eq (hF : 100 ≤ F) (hv : Vs m s) (hp : Pd m p) (h0 : 0 < m) : ∀ (k q : Nat), q ≤ s.length → s.length < k + q → f87_p1 F s p k ((q + 1 : Nat) : Int) = some (match (((List.range s.length).drop q).flatMap fun k => extG s.length (k + 1) []).find? (badL m s p) with | none => .c1 | some l => .c0 l) := by
  have hn := hv.n
  have hpl := hp.len
  intro k
  induction k with
  | zero => intro q _ h; omega
  | succ k ih =>
    intro q h1 h2
    unfold f87_p1
    by_cases hq : q < s.length
    · have hd : (List.range s.length).drop q = q :: (List.range s.length).drop (q + 1) := by rw [List.drop_eq_getElem_cons (by simpa using hq)]; simp
      rw [if_pos (by simp; omega), if_pos (by simp; omega), f103_eq hF hv hp h0 (q + 1) F [] (by omega) (by simp) (by simp; omega), Option.bind_some, hd, find_flat1]
      cases hf : (extG s.length (q + 1) []).find? (badL m s p) with
      | none =>
        unfold res103
        dsimp only
        rw [Option.none_or, w64_succ (by omega)]
        exact ih (q + 1) (by omega) (by omega)
      | some l =>
        have hbad := List.find?_some hf
        have hne : l ≠ [] := fun e => by
          subst e
          unfold badL at hbad
          simp at hbad
        unfold res103
        dsimp only
        rw [req_pos hne, Option.some_or]
    · rw [if_neg (by simp; omega), List.drop_eq_nil_of_le (by simp; omega)]
      rfl

end

/- The order of groups. -/
def mskG (l : List Int) : Nat := l.foldl (fun a x => a + 2 ^ x.toNat) 0
def keyG (g : Nat) : Nat := pcN g * 32 + (31 - ((List.range 5).filter (g.testBit ·)).foldl (fun a i => a + 2 ^ (4 - i)) 0)
/-- The masks of all groups in order. -/
def permG (n : Nat) : List Nat := (allG n).map mskG
def ltG (a b : List Int) : Bool := decide (a.length < b.length) || (decide (a.length = b.length) && decide ((f56 10000 a (some b)).getD 0 < 0))
def lookG1 : Bool := (List.range 6).all fun n => decide (allG n = (permG n).map (mbG n)) && ((List.range (2 ^ n)).all fun g => decide (g = 0 ∨ g ∈ permG n)) && ((permG n).all fun g => decide (1 ≤ g ∧ g < 2 ^ n)) && decide ((permG n).Pairwise fun g h => keyG g < keyG h) && ((List.range (2 ^ n)).all fun g => decide (mbG n g = mbG 5 g))
theorem lookG1_true : lookG1 = true := by decide +kernel
def lookG2 : Bool := (List.range 32).all fun g => (List.range 32).all fun h => g == 0 || h == 0 || ltG (mbG 5 g) (mbG 5 h) == decide (keyG g < keyG h)
theorem lookG2_true : lookG2 = true := by decide +kernel
theorem look_G1 {n : Nat} (hn : n ≤ 5) : allG n = (permG n).map (mbG n) ∧ (∀ g, 1 ≤ g → g < 2 ^ n → g ∈ permG n) ∧ (∀ g ∈ permG n, 1 ≤ g ∧ g < 2 ^ n) ∧ (permG n).Pairwise (fun g h => keyG g < keyG h) ∧ ∀ g, g < 2 ^ n → mbG n g = mbG 5 g := by
  have h := lookG1_true
  unfold lookG1 at h
  simp only [List.all_eq_true, List.mem_range, Bool.and_eq_true, decide_eq_true_eq] at h
  obtain ⟨⟨⟨⟨h1, h2⟩, h3⟩, h4⟩, h5⟩ := h n (by omega)
  exact ⟨h1, fun g g1 g2 => (h2 g g2).resolve_left (by omega), h3, h4, h5⟩
theorem look_G2 {n g h : Nat} (hn : n ≤ 5) (g1 : 1 ≤ g) (g2 : g < 2 ^ n) (h1 : 1 ≤ h) (h2 : h < 2 ^ n) : ltG (mbG n g) (mbG n h) = decide (keyG g < keyG h) := by
  have hp : 2 ^ n ≤ 2 ^ 5 := Nat.pow_le_pow_right (by decide) hn
  obtain ⟨_, _, _, _, e⟩ := look_G1 hn
  rw [e g g2, e h h2]
  have hq := lookG2_true
  unfold lookG2 at hq
  simp only [List.all_eq_true, List.mem_range, Bool.or_eq_true, beq_iff_eq] at hq
  rcases hq g (by omega) h (by omega) with (hq | hq) | hq
  · omega
  · omega
  · exact hq

section
variable {m : Nat} {s : List (List Int)} {p : List Int}
theorem selG_lt {g : Nat} {b : List Int} (hb : badG m s p g = true) : selG 10000 m s p (some b) g = if ltG (mbG s.length g) b = true then some (mbG s.length g) else some b := by
  unfold selG ltG
  rw [if_pos hb]
  dsimp only
  by_cases h1 : (mbG s.length g).length < b.length
  · rw [if_pos h1, if_pos (by simp [h1])]
  · rw [if_neg h1]
    by_cases h2 : (mbG s.length g).length = b.length ∧ (f56 10000 (mbG s.length g) (some b)).getD 0 < 0
    · rw [if_pos h2, if_pos (by simp [h2.1, h2.2])]
    · rw [if_neg h2, if_neg (by simp [h1]; intro h3; simpa [h3] using h2)]
/-- The group of the smallest key among all bad ones. -/
theorem selR_min (hn : s.length ≤ 5) : ∀ (q g : Nat) (best : Option (List Int)), 1 ≤ g → g + q = 2 ^ s.length → ((best = none ∧ ∀ h, 1 ≤ h → h < g → badG m s p h = false) ∨ ∃ h0, 1 ≤ h0 ∧ h0 < 2 ^ s.length ∧ badG m s p h0 = true ∧ best = some (mbG s.length h0) ∧ ∀ h, 1 ≤ h → h < g → badG m s p h = true → keyG h0 ≤ keyG h) →
    ((selR 10000 m s p q g best = none ∧ ∀ h, 1 ≤ h → h < 2 ^ s.length → badG m s p h = false) ∨ ∃ h0, 1 ≤ h0 ∧ h0 < 2 ^ s.length ∧ badG m s p h0 = true ∧ selR 10000 m s p q g best = some (mbG s.length h0) ∧ ∀ h, 1 ≤ h → h < 2 ^ s.length → badG m s p h = true → keyG h0 ≤ keyG h) := by
  intro q
  induction q with
  | zero =>
    intro g best h1 h2 h3
    obtain rfl : g = 2 ^ s.length := by omega
    exact h3
  | succ q ih =>
    intro g best h1 h2 h3
    rw [selR]
    refine ih (g + 1) _ (by omega) (by omega) ?_
    cases hb : badG m s p g with
    | false =>
      have e : selG 10000 m s p best g = best := by unfold selG; rw [if_neg (by rw [hb]; decide)]
      rw [e]
      rcases h3 with ⟨a, b⟩ | ⟨h0, a, b, c, d, f⟩
      · refine .inl ⟨a, fun h k1 k2 => ?_⟩
        by_cases e : h = g
        · subst e; exact hb
        · exact b h k1 (by omega)
      · refine .inr ⟨h0, a, b, c, d, fun h k1 k2 k3 => ?_⟩
        by_cases e : h = g
        · subst e; rw [hb] at k3; cases k3
        · exact f h k1 (by omega) k3
    | true =>
      rcases h3 with ⟨a, b⟩ | ⟨h0, a, b, c, d, f⟩
      · subst a
        refine .inr ⟨g, h1, by omega, hb, ?_, fun h k1 k2 k3 => ?_⟩
        · unfold selG; rw [if_pos hb]
        · by_cases e : h = g
          · subst e; exact Nat.le_refl _
          · rw [b h k1 (by omega)] at k3; cases k3
      · subst d
        rw [selG_lt hb, look_G2 hn h1 (by omega) a b]
        by_cases hk : keyG g < keyG h0
        · rw [if_pos (decide_eq_true hk)]
          refine .inr ⟨g, h1, by omega, hb, rfl, fun h k1 k2 k3 => ?_⟩
          by_cases e : h = g
          · subst e; exact Nat.le_refl _
          · have := f h k1 (by omega) k3; omega
        · rw [if_neg (by simpa using hk)]
          refine .inr ⟨h0, a, b, c, rfl, fun h k1 k2 k3 => ?_⟩
          by_cases e : h = g
          · subst e; omega
          · exact f h k1 (by omega) k3
theorem anyM_iff {g : Nat} {l : Int} (hl : -1 ≤ l ∧ l < m) : anyM m s p (mbG s.length g) l = true ↔ ∃ i, i < s.length ∧ g.testBit i = true ∧ owng s p i l = mxg m s p i := by
  unfold anyM mbG
  simp only [List.any_eq_true, decide_eq_true_eq]
  constructor
  · rintro ⟨x, hx, h⟩
    obtain ⟨i, hi, rfl⟩ := List.mem_map.1 hx
    rw [Int.toNat_natCast] at h
    obtain ⟨h1, h2⟩ := List.mem_filter.1 hi
    exact ⟨i, List.mem_range.1 h1, h2, (mem_wl hl).1 h⟩
  · rintro ⟨i, h1, h2, h3⟩
    exact ⟨(i : Int), List.mem_map.2 ⟨i, List.mem_filter.2 ⟨List.mem_range.2 h1, h2⟩, rfl⟩, by rw [Int.toNat_natCast]; exact (mem_wl hl).2 h3⟩
theorem badL_badG (hm : m ≤ 5) {g : Nat} : badL m s p (mbG s.length g) = badG m s p g := by
  unfold badL badG
  have h1 : anyM m s p (mbG s.length g) (-1) = fiG m s p g s.length := by
    rw [Bool.eq_iff_iff, anyM_iff ⟨by omega, by omega⟩, fi_iff]
    constructor
    · rintro ⟨i, a, b, c⟩; rw [owng_none] at c; exact ⟨i, a, b, c.symm⟩
    · rintro ⟨i, a, b, c⟩; exact ⟨i, a, b, by rw [owng_none]; exact c.symm⟩
  have h2 : ((List.range m).filter fun (y : Nat) => anyM m s p (mbG s.length g) y).length = pcN (unG m s p g s.length) := by
    have e1 : ((List.range m).filter fun (y : Nat) => anyM m s p (mbG s.length g) y) = (List.range m).filter ((unG m s p g s.length).testBit ·) := List.filter_congr fun y hy => by
      have hy := List.mem_range.1 hy
      rw [Bool.eq_iff_iff, anyM_iff ⟨by omega, by omega⟩, un_bit]
      constructor
      · rintro ⟨i, a, b, c⟩; exact ⟨i, a, b, by rw [wb_bit, decide_eq_true hy, Bool.true_and]; exact decide_eq_true c⟩
      · rintro ⟨i, a, b, c⟩
        rw [wb_bit, decide_eq_true hy, Bool.true_and, decide_eq_true_eq] at c
        exact ⟨i, a, b, c⟩
    have e2 : (((List.range m).filter ((unG m s p g s.length).testBit ·)).length : Int) = ((pcN (unG m s p g s.length) : Nat) : Int) := by
      unfold pcN
      rw [cnt_sm, cnt_sm]
      have e := sm_more (m := m) (f := fun l => if (unG m s p g s.length).testBit l = true then (1 : Int) else 0) (fun l hl => by
        rw [if_neg]
        intro h
        obtain ⟨i, _, _, h3⟩ := un_bit.1 h
        rw [wb_bit, decide_eq_false (by omega)] at h3
        cases h3) (5 - m)
      rw [show m + (5 - m) = 5 by omega] at e
      exact e.symm
    rw [e1]; omega
  rw [h1, h2]
theorem over_find (hv : Vs m s) : overG 10000 m s p = (allG s.length).find? (badL m s p) := by
  have hn := hv.n
  have hm := hv.m5
  have h1 : 1 ≤ 2 ^ s.length := Nat.one_le_two_pow
  obtain ⟨g1, g2, g3, g4, _⟩ := look_G1 hn.2
  have hsel := selR_min (m := m) (s := s) (p := p) hn.2 (2 ^ s.length - 1) 1 none (by omega) (by omega) (.inl ⟨rfl, fun h k1 k2 => by omega⟩)
  rw [g1, List.find?_map]
  have eb : (badL m s p ∘ mbG s.length) = badG m s p := funext fun g => badL_badG hm
  rw [eb]
  unfold overG
  rcases hsel with ⟨a, b⟩ | ⟨h0, a, b, c, d, f⟩
  · rw [a, List.find?_eq_none.2 fun g hg => by rw [b g (g3 g hg).1 (g3 g hg).2]; decide]
    rfl
  · rw [d]
    cases hf : (permG s.length).find? (badG m s p) with
    | none =>
      have := List.find?_eq_none.1 hf h0 (g2 h0 a b)
      exact absurd c this
    | some k =>
      obtain ⟨k1, as, bs, k2, k3⟩ := List.find?_eq_some_iff_append.1 hf
      have hk := g3 k (List.mem_of_find?_eq_some hf)
      have hle := f k hk.1 hk.2 k1
      have hmem := g2 h0 a b
      rw [k2] at hmem g4
      have hkb : h0 = k := by
        rcases List.mem_append.1 hmem with h | h
        · have := k3 h0 h
          rw [c] at this
          cases this
        · rcases List.mem_cons.1 h with h | h
          · exact h
          · have := (List.pairwise_cons.1 (List.pairwise_append.1 g4).2.1).1 h0 h
            omega
      rw [hkb]; rfl
theorem f35_gen (s : List (List Int)) (p : List Int) : f35 10000 s p = some (if pE s p ≠ 0 then ([], pE s p) else match overG 10000 (s[0]?.getD []).length s p with | none => ([], 13) | some b => (b, 0)) := by
  unfold f35
  rw [f85_eq (by omega), Option.bind_some]
  by_cases h : pE s p = 0
  · obtain ⟨hv, hp⟩ := pE_ok h
    have hn := hv.n
    generalize hmm : (s[0]?.getD []).length = m at *
    rw [if_neg (by simpa using h), if_neg (by simpa using h)]
    by_cases h0 : 0 < m
    · have e := f87_p1_eq (F := 10000) (by omega) hv hp h0 10000 0 (by omega) (by omega)
      rw [List.drop_zero] at e
      unfold f87
      rw [show f87_p1 10000 s p 10000 1 = _ from e, over_find hv]
      unfold allG
      cases hf : ((List.range s.length).flatMap fun k => extG s.length (k + 1) []).find? (badL m s p) with
      | none => rfl
      | some l =>
        have hbad := List.find?_some hf
        have hne : l ≠ [] := fun e => by
          subst e
          unfold badL at hbad
          simp at hbad
        dsimp only
        rw [Option.bind_some, Option.bind_some]
        dsimp only
        rw [req_pos hne]
    · have hpl := hp.len
      have e : f87_p1 10000 s p 10000 1 = some .c1 := by
        show f87_p1 10000 s p (9999 + 1) 1 = _
        unfold f87_p1
        rw [if_pos (by rw [decide_eq_true_eq]; omega), if_neg (by rw [decide_eq_true_eq]; omega)]
      have eo : overG 10000 m s p = none := by
        unfold overG
        rw [selR_none]
        refine ⟨rfl, fun g k1 k2 => ?_⟩
        cases hb : badG m s p g with
        | false => rfl
        | true =>
          exfalso
          have hne := bad_ne hb
          obtain ⟨x, hx⟩ := List.exists_mem_of_ne_nil _ hne
          unfold mbG at hx
          obtain ⟨i, hi, rfl⟩ := List.mem_map.1 hx
          obtain ⟨k3, k4⟩ := List.mem_filter.1 hi
          have hm0 : m = 0 := by omega
          have : fiG m s p g s.length = true := fi_iff.2 ⟨i, List.mem_range.1 k3, k4, by subst hm0; rfl⟩
          unfold badG at hb
          rw [this] at hb
          cases hb
      unfold f87
      rw [e, eo]
      rfl
  · rw [if_pos (by simpa using h), if_pos h]

theorem f36_same {l : List (List Int)} (h1 : l.length ≤ 50) (h2 : ∀ x ∈ l, x.length ≤ 50) : f36 10000 l l = some true := by
  have loop : ∀ (k j : Nat), j ≤ l.length → l.length < k + j → f36_p2 10000 l l k j = some .c1 := by
    intro k
    induction k with
    | zero => intro j _ h; omega
    | succ k ih =>
      intro j h3 h4
      unfold f36_p2
      by_cases hj : j < l.length
      · have := h2 _ (List.getElem_mem hj)
        rw [if_pos (by simp; omega), at_get hj, Option.bind_some, Option.bind_some, f23_eq (by omega) (by omega), Option.bind_some, if_pos (by simp), w64_succ (by omega)]
        exact ih (j + 1) (by omega) (by omega)
      · rw [if_neg (by simp; omega)]
  unfold f36
  rw [if_neg (by simp), show f36_p2 10000 l l 10000 0 = _ from loop 10000 0 (by omega) (by omega)]
  rfl
end

theorem f15_p2_some {F : Nat} {s : List (List Int)} (hs : s.length ≤ 30) : ∀ (k i : Nat), i ≤ s.length → s.length < k + i → ∃ r, f15_p2 F s k i = some r := by
  intro k
  induction k with
  | zero => intro i _ h; omega
  | succ k ih =>
    intro i h1 h2
    unfold f15_p2
    by_cases hi : i < s.length
    · rw [if_pos (by simp; omega), at_get hi, Option.bind_some, w64_succ (by omega)]
      split
      · exact ⟨_, rfl⟩
      · exact ih (i + 1) (by omega) (by omega)
    · rw [if_neg (by simp; omega)]
      exact ⟨_, rfl⟩
theorem f15_some {F : Nat} (hF : 100 ≤ F) (s : List (List Int)) : ∃ b, f15 F s = some b := by
  unfold f15
  by_cases h : (s.length : Int) > 30
  · rw [if_pos (by simpa using h)]; exact ⟨_, rfl⟩
  · rw [if_neg (by simpa using h)]
    obtain ⟨r, e⟩ := f15_p2_some (F := F) (s := s) (by omega) F 0 (by omega) (by omega)
    rw [show f15_p2 F s F 0 = _ from e, Option.bind_some]
    cases r <;> exact ⟨_, rfl⟩

theorem f5_plain (s : List (List Int)) (p d : List Int) : f5 10000 s p d = some true := by
  obtain ⟨c, hc⟩ := f15_some (F := 10000) (by omega) s
  unfold f5
  rw [hc, Option.bind_some]
  by_cases h1 : c = true
  · rw [if_pos h1, works10]; rfl
  · rw [if_neg h1]
    by_cases h2 : (p.length : Int) > 30
    · rw [if_pos (by simpa using h2), works10]; rfl
    · rw [if_neg (by simpa using h2)]
      by_cases h3 : (d.length : Int) > 30
      · rw [if_pos (by simpa using h3), works10]; rfl
      · rw [if_neg (by simpa using h3)]
        have e36 : f36 10000 (if pE s p ≠ 0 then (([] : List (List Int)), pE s p) else (wls (s[0]?.getD []).length s p, 0)).1 (if pE s p ≠ 0 then (([] : List (List Int)), pE s p) else (wls (s[0]?.getD []).length s p, 0)).1 = some true := by
          refine f36_same ?_ fun x hx => ?_
          · by_cases h : pE s p = 0
            · have hn := (pE_ok h).1.n
              rw [if_neg (by simpa using h)]
              dsimp only
              rw [wls_len]; omega
            · rw [if_pos h]; simp
          · by_cases h : pE s p = 0
            · have hm := (pE_ok h).1.m5
              rw [if_neg (by simpa using h)] at hx
              dsimp only at hx
              unfold wls at hx
              obtain ⟨i, _, rfl⟩ := List.mem_map.1 hx
              have := (wl_range (m := (s[0]?.getD []).length) (i := i) (s := s) (p := p)).2
              omega
            · rw [if_pos h] at hx; cases hx
        have e23 : ∀ l : List Int, l.length ≤ 50 → f23 10000 l l = some true := fun l hl => by rw [f23_eq (by omega) (by omega)]; simp
        have hol : (if pE s p ≠ 0 then (([] : List Int), pE s p) else match overG 10000 (s[0]?.getD []).length s p with | none => ([], 13) | some b => (b, 0)).1.length ≤ 50 := by
          by_cases h : pE s p = 0
          · rw [if_neg (by simpa using h)]
            have hn := (pE_ok h).1.n
            have h1 : 1 ≤ 2 ^ s.length := Nat.one_le_two_pow
            rcases selR_min (m := (s[0]?.getD []).length) (s := s) (p := p) hn.2 (2 ^ s.length - 1) 1 none (by omega) (by omega) (.inl ⟨rfl, fun h k1 k2 => by omega⟩) with ⟨a, _⟩ | ⟨h0, _, _, _, a, _⟩
            · unfold overG; rw [a]; simp
            · unfold overG; rw [a]
              have := mb_len (g := h0) (n := s.length)
              dsimp only
              omega
          · rw [if_pos h]; simp
        simp only [f32_gen (F := 10000) (by omega) s p, f33_gen (F := 10000) (by omega) s p, f34_gen (F := 10000) (by omega) s p, f35_gen s p, Option.bind_some, e36, if_true, beq_self_eq_true, e23 _ hol, f37_gen (F := 10000) (by omega) s p d, f38_gen (F := 10000) (by omega) s p d (by omega), works10]

end Go.Gh.Sale
