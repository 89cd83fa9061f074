/- The plain law of FanCounted. -/
import Derived.Test.YtidfbhlhogkfmaaFanM
import Derived.Test.YtidfbhlhogkfmaaFanP10
import Derived.Test.YtidfbhlhogkfmaaFanQ
import Derived.Test.YtidfbhlhogkfmaaFanR
namespace Go.Gh.Fan
set_option linter.unusedVariables false
set_option linter.unusedSimpArgs false

/-- The first missing kind from one on, of so many. -/
def nx (l : List Int) : Nat → Nat → Nat
  | 0, k => k
  | m + 1, k => if posF 0 l (k : Int) = [] then k else nx l m (k + 1)

theorem nx_bound (l : List Int) : ∀ m k, k ≤ nx l m k ∧ nx l m k ≤ k + m
  | 0, k => by simp [nx]
  | m + 1, k => by
    have := nx_bound l m (k + 1)
    unfold nx; split <;> omega
theorem nx_miss (l : List Int) : ∀ m k, nx l m k < k + m → posF 0 l ((nx l m k : Nat) : Int) = []
  | 0, k, h => by simp [nx] at h
  | m + 1, k, h => by
    unfold nx at h ⊢
    by_cases g : posF 0 l (k : Int) = []
    · rw [if_pos g]; exact g
    · rw [if_neg g] at h ⊢
      exact nx_miss l m (k + 1) (by omega)
theorem nx_all (l : List Int) : ∀ m k, nx l m k = k + m → ∀ j, k ≤ j → j < k + m → posF 0 l (j : Int) ≠ []
  | 0, k, _, j, h1, h2 => by omega
  | m + 1, k, h, j, h1, h2 => by
    unfold nx at h
    by_cases g : posF 0 l (k : Int) = []
    · rw [if_pos g] at h; omega
    · rw [if_neg g] at h
      by_cases e : j = k
      · rw [e]; exact g
      · exact nx_all l m (k + 1) (by omega) j (by omega) (by omega)

/-- All completions, the first missing kind first. -/
def ec (w : Bool) (n : Nat) : Nat → List Int → List (List Int)
  | 0, _ => []
  | f + 1, l => if n < nx l n 1 then [l] else compAt w (ec w n f) l (nx l n 1) l.length 0

section
variable {n : Nat} {w : Bool}

theorem ec_mem {x : List Int} : ∀ (f : Nat) (l : List Int), Val (n : Int) w l → mis n l < f → (x ∈ ec w n f l ↔ Q (n : Int) w l x)
  | f + 1, l, v, hf => by
    have hb := nx_bound l n 1
    unfold ec
    by_cases h : n < nx l n 1
    · have h0 : posF 0 l 0 = [] := v.full.2 fun k h1 h2 => by
        have := nx_all l n 1 (by omega) k.toNat (by omega) (by omega)
        rwa [show ((k.toNat : Nat) : Int) = k by omega] at this
      rw [if_pos h, List.mem_singleton]
      constructor
      · intro e; rw [e]; exact ⟨v, h0, sub_self l⟩
      · intro hq; exact full_sub h0 hq.2.2
    · have hm := nx_miss l n 1 (by omega)
      rw [if_neg h, compAt_mem]
      generalize nx l n 1 = k at *
      have hk : 1 ≤ k ∧ (k : Int) ≤ (n : Int) := by omega
      constructor
      · rintro ⟨q, _, _, q3, q4⟩
        have hfit := (fit_may hm).1 q3
        have hlt := mis_lt v ⟨hk.1, by omega⟩ hm hfit
        exact Q.of_put hk.1 hfit ((ec_mem f _ (put_val v hk hm hfit) (by omega)).1 q4)
      · intro hq
        obtain ⟨a, _, hfit, hq'⟩ := hq.put hk hm
        have := fit_of hfit
        have hlt := mis_lt v ⟨hk.1, by omega⟩ hm hfit
        exact ⟨a, by omega, by omega, (fit_may hm).2 hfit, (ec_mem f _ (put_val v hk hm hfit) (by omega)).2 hq'⟩

theorem ec_nodup : ∀ (f : Nat) (l : List Int), Val (n : Int) w l → mis n l < f → (ec w n f l).Nodup
  | f + 1, l, v, hf => by
    have hb := nx_bound l n 1
    unfold ec
    by_cases h : n < nx l n 1
    · rw [if_pos h]; simp
    · have hm := nx_miss l n 1 (by omega)
      rw [if_neg h]
      generalize nx l n 1 = k at *
      have hk : 1 ≤ k ∧ (k : Int) ≤ (n : Int) := by omega
      apply compAt_nodup
      · intro q hq
        have hfit := (fit_may hm).1 hq
        have hlt := mis_lt v ⟨hk.1, by omega⟩ hm hfit
        exact ec_nodup f _ (put_val v hk hm hfit) (by omega)
      · intro q x hq hx
        have hfit := (fit_may hm).1 hq
        have hlt := mis_lt v ⟨hk.1, by omega⟩ hm hfit
        exact Q.at_put hk hfit ((ec_mem f _ (put_val v hk hm hfit) (by omega)).1 hx)

theorem ec_len {f : Nat} {l : List Int} (v : Val (n : Int) w l) (hf : mis n l < f) : (ec w n f l).length = (comp w n l).length := by
  have hm : ∀ x, x ∈ ec w n f l ↔ x ∈ comp w n l := fun x => by
    have := all_mem (x := x) v
    rw [Int.toNat_natCast] at this
    rw [ec_mem f l v hf, this]
  have hn := all_nodup v
  rw [Int.toNat_natCast] at hn
  exact Nat.le_antisymm ((ec_nodup f l v hf).length_le_of_subset fun x hx => (hm x).1 hx) (hn.length_le_of_subset fun x hx => (hm x).2 hx)

theorem foldl_some : ∀ (L : List (List Int)) (u : List Int), L.foldl bet (some u) ≠ none
  | [], u, h => by cases h
  | y :: L, u, h => by
    rw [List.foldl_cons] at h
    unfold bet at h
    simp only at h
    split at h
    · exact foldl_some L _ h
    · exact foldl_some L _ h

/-- The best one of all completions, in whatever order. -/
theorem best_head {f : Nat} {l : List Int} (v : Val (n : Int) w l) (hf : mis n l < f) {L : List (List Int)} (hm : ∀ x, x ∈ L ↔ Q (n : Int) w l x) : L.foldl bet none = (rc w n f l).head? := by
  have hs := rc_sorted f l v hf
  have hr := fun x => rc_mem (x := x) f l v hf
  cases hb : L.foldl bet none with
  | none =>
    have hnil : L = [] := by
      cases L with
      | nil => rfl
      | cons x L =>
        rw [List.foldl_cons] at hb
        exact absurd hb (foldl_some L x)
    cases hc : rc w n f l with
    | nil => rfl
    | cons x L' =>
      have := (hm x).2 ((hr x).1 (by rw [hc]; simp))
      rw [hnil] at this; cases this
  | some y =>
    have hy := bet_min _ _ _ hb
    have hmy : y ∈ L := by
      rcases bet_min.bet_mem _ _ _ hb with h | h
      · exact h
      · cases h
    cases hc : rc w n f l with
    | nil =>
      have := (hr y).2 ((hm y).1 hmy)
      rw [hc] at this; cases this
    | cons x L' =>
      have hx := (hm x).2 ((hr x).1 (by rw [hc]; simp))
      have hyr := (hr y).2 ((hm y).1 hmy)
      rw [hc] at hyr hs
      rcases List.mem_cons.1 hyr with e | e
      · rw [e]; rfl
      · exact absurd ((List.pairwise_cons.1 hs).1 y e) (hy.1 x hx)
end

/- comparing lists of one length -/
theorem cmp_app : ∀ (x y z : List Int), x.length = y.length → cmpL (x ++ z) (y ++ z) = cmpL x y
  | [], [], z, _ => cmp_irr z
  | [], _ :: _, _, h => by simp at h
  | _ :: _, [], _, h => by simp at h
  | a :: x, b :: y, z, h => by
    simp only [List.cons_append, cmpL]
    rw [cmp_app x y z (by simpa using h)]

theorem pad_app {x : List Int} (h : x.length ≤ 16) : tab 16 (atv x) = x ++ List.replicate (16 - x.length) 0 := by
  apply List.ext_getElem?
  intro i
  rcases Nat.lt_or_ge i 16 with g | g
  · rw [tab_get g]
    rcases Nat.lt_or_ge i x.length with q | q
    · rw [List.getElem?_append_left q, get_atv q]
    · rw [List.getElem?_append_right q, List.getElem?_replicate, if_pos (by omega), atv, List.getElem?_eq_none q]; rfl
  · rw [List.getElem?_eq_none (by rw [tab_len]; omega), List.getElem?_eq_none (by simp; omega)]

theorem cmp_pad {x y : List Int} (h : x.length ≤ 16) (hxy : x.length = y.length) : cmpL (tab 16 (atv x)) (tab 16 (atv y)) = cmpL x y := by
  rw [pad_app h, pad_app (x := y) (by omega), hxy, cmp_app _ _ _ hxy]

theorem f42_1_eq {F : Nat} {xs ys : List Int} (hF : xs.length < F) (hl : xs.length ≤ 1000) : f42_1 F xs (some ys) = some (cmpL xs ys) := by
  have key : ∀ (s t p q : List Int) (f : Nat), s.length < f → p.length + s.length ≤ 1000 → p.length = q.length →
      ∃ r, f42_1_p1 F (p ++ s) (some (q ++ t)) f p.length = some r ∧ (r = .c0 (cmpL s t) ∨ (r = .c1 ∧ cmpL s t = if s.length < t.length then -1 else 0)) := by
    intro s
    induction s with
    | nil =>
      intro t p q f hf hl hpq
      obtain ⟨f, rfl⟩ : ∃ g, f = g + 1 := ⟨f - 1, by simp at hf; omega⟩
      refine ⟨.c1, by simp [f42_1_p1], .inr ⟨rfl, ?_⟩⟩
      cases t with
      | nil => rfl
      | cons y t => simp [cmpL]
    | cons x s ih =>
      intro t p q f hf hl hpq
      obtain ⟨f, rfl⟩ : ∃ g, f = g + 1 := ⟨f - 1, by simp at hf; omega⟩
      simp only [List.length_cons] at hf hl
      have hlt : ((p.length : Int) < (((p ++ x :: s).length : Nat) : Int)) := by simp; omega
      simp only [f42_1_p1, decide_eq_true hlt, if_true, at_mid, Option.bind_some, Option.getD_some]
      cases t with
      | nil =>
        have : (p.length : Int) ≥ (((q ++ []).length : Nat) : Int) := by simp; omega
        exact ⟨.c0 1, by rw [if_pos (by simpa using this)], .inl rfl⟩
      | cons y t =>
        have : ¬ (p.length : Int) ≥ (((q ++ y :: t).length : Nat) : Int) := by simp; omega
        rw [if_neg (by simpa using this), hpq, at_mid]
        simp only [Option.bind_some, f75_eq, cmpL]
        by_cases h1 : x < y
        · exact ⟨.c0 (-1), by simp [h1], .inl (by simp [h1])⟩
        · by_cases h2 : y < x
          · exact ⟨.c0 1, by simp [h1, h2], .inl (by simp [h1, h2])⟩
          · obtain ⟨r, g1, g2⟩ := ih t (p ++ [x]) (q ++ [y]) f (by omega) (by simp; omega) (by simp [hpq])
            simp only [List.append_assoc, List.singleton_append, List.length_append, List.length_singleton] at g1
            refine ⟨r, ?_, ?_⟩
            · rw [if_neg h1, if_neg h2, w64_nat (by omega), ← hpq]
              simpa using g1
            · rw [if_neg h1, if_neg h2]
              simpa using g2
  obtain ⟨r, h1, h2⟩ := key xs ys [] [] F hF (by simpa using hl) rfl
  simp only [List.nil_append, List.length_nil, Int.natCast_zero] at h1
  unfold f42_1
  rw [h1]
  rcases h2 with rfl | ⟨rfl, h2⟩
  · rfl
  · simp only [Option.bind_some, h2, Option.getD_some]
    by_cases g : xs.length < ys.length
    · have : (xs.length : Int) < (ys.length : Int) := by omega
      simp [g]
    · have : ¬ (xs.length : Int) < (ys.length : Int) := by omega
      simp [g]

/-- What is kept is of one length. -/
def Len (N : Nat) (b : Option (List Int)) : Prop := ∀ y, b = some y → y.length = N

theorem f45_eq {l : List Int} (hne : l ≠ []) (hl : l.length ≤ 16) {b : Option (List Int)} (hb : Len l.length b) {c : Int} (hc : 0 ≤ c ∧ c < 4611686018427387904) : f45 100 l c b = some (c + 1, bet b l) := by
  unfold f45
  rw [w64_in (by omega)]
  cases b with
  | none =>
    simp only [Option.isNone_none, if_true]
    rw [req_pos hne]; rfl
  | some y =>
    have hy := hb y rfl
    simp only [Option.isNone_some, Bool.false_eq_true, if_false]
    rw [f42_1_eq (by omega) (by omega)]
    simp only [Option.bind_some, f45_p0, bet]
    rw [cmp_pad hl hy.symm]
    by_cases g : cmpL l y < 0
    · rw [if_pos (by simpa using g), req_pos hne, if_pos g]; rfl
    · rw [if_neg (by simpa using g), if_neg g]; rfl

theorem bet_len {N : Nat} {L : List (List Int)} (hL : ∀ x ∈ L, x.length = N) : ∀ (b : Option (List Int)), Len N b → Len N (L.foldl bet b) := by
  induction L with
  | nil => intro b hb; exact hb
  | cons x L ih =>
    intro b hb
    refine ih (fun z hz => hL z (List.mem_cons_of_mem _ hz)) (bet b x) fun y hy => ?_
    have hx := hL x (List.mem_cons_self ..)
    unfold bet at hy
    cases b with
    | none => cases hy; exact hx
    | some u =>
      simp only at hy
      split at hy
      · cases hy; exact hx
      · cases hy; exact hb _ rfl

theorem ec_one {n : Nat} {w : Bool} {f : Nat} {l : List Int} (v : Val (n : Int) w l) (hf : mis n l < f) : ∀ x ∈ ec w n f l, x.length = l.length := fun x hx =>
  ((ec_mem f l v hf).1 hx).good.2

section
variable {n : Nat} {w : Bool}

theorem mem_pos_iff {l : List Int} {k : Int} : k ∈ l ↔ posF 0 l k ≠ [] := by
  constructor
  · intro h e
    obtain ⟨i, hi⟩ := List.mem_iff_getElem?.1 h
    have := (mem_pos (x := (i : Int))).2 ⟨by omega, by simpa using hi⟩
    rw [e] at this; cases this
  · intro h
    obtain ⟨x, xs, hx⟩ := List.exists_cons_of_ne_nil h
    exact List.mem_iff_getElem?.2 ⟨_, (mem_pos.1 (show x ∈ posF 0 l k by rw [hx]; simp)).2⟩

theorem next_eq {l : List Int} (hl : l.length ≤ 60) (hn : n ≤ 60) (c : Int) (b : Option (List Int)) : ∀ (m k f : Nat), m < f → k + m = n + 1 → f38_1_p1 100 0 l.length n w c b l f k = some ((nx l m k : Nat) : Int)
  | 0, k, f + 1, _, hk => by
    have : ¬ (k : Int) ≤ (n : Int) := by omega
    simp [f38_1_p1, this, nx]
  | m + 1, k, f + 1, hf, hk => by
    have hlt : (k : Int) ≤ (n : Int) := by omega
    simp only [f38_1_p1, decide_eq_true hlt, if_true]
    rw [take0, f46_eq (by omega) (by omega)]
    simp only [Option.bind_some, nx]
    rw [req_pos (by omega), w64_nat (by omega)]
    by_cases g : posF 0 l (k : Int) = []
    · have : ¬ (k : Int) ∈ l := fun q => mem_pos_iff.1 q g
      rw [if_neg (by simpa using this), if_pos g]
    · have : (k : Int) ∈ l := mem_pos_iff.2 g
      rw [if_pos (by simpa using this), if_neg g]
      exact next_eq hl hn c b m (k + 1) f (by omega) (by omega)

theorem end_loop {rec : Nat → Nat → Int → Bool → Int → (Option (List Int)) → (List Int) → Option (Int × (Option (List Int)) × (List Int))} {sub : List Int → List (List Int)} {l : List Int} (v : Val (n : Int) w l) {k : Nat} (hk : 1 ≤ k ∧ (k : Int) ≤ (n : Int)) (h0 : posF 0 l k = [])
    {B X : Nat} (hB : ∀ q, fitB w l k q = true → (sub (set2 l q (q + dN w k) k)).length ≤ B) (hS : ∀ q, fitB w l k q = true → ∀ x ∈ sub (set2 l q (q + dN w k) k), x.length = l.length)
    (hrec : ∀ q, fitB w l k q = true → ∀ (c : Int) (b : Option (List Int)), 0 ≤ c → c + X ≤ 4611686018427387904 → Len l.length b →
      rec 0 l.length n w c b (set2 l q (q + dN w k) k) = some (c + ((sub (set2 l q (q + dN w k) k)).length : Int), (sub (set2 l q (q + dN w k) k)).foldl bet b, set2 l q (q + dN w k) k)) :
    ∀ (r p f : Nat) (c : Int) (b : Option (List Int)), r < f → p + r = l.length → 0 ≤ c → c + (r * B : Nat) + X ≤ 4611686018427387904 → Len l.length b →
    f38_1_p6 100 rec 0 l.length n w k f p c b l = some (c + ((compAt w sub l k r p).length : Int), (compAt w sub l k r p).foldl bet b, l)
  | r, p, f + 1, c, b, hf, hp, hc, hcB, hb => by
    have hr := v.rng
    have hlen := v.len
    have hd := dN_rng (w := w) hk.1
    unfold f38_1_p6
    rw [f37_eq (by omega), dist_nat]
    simp only [Option.bind_some]
    rw [w64_in (n := (p : Int) + (dN w k : Nat)) (by omega)]
    by_cases g : p + dN w k < l.length
    · obtain ⟨r, rfl⟩ : ∃ s, r = s + 1 := ⟨r - 1, by omega⟩
      have hB' : c + (B : Int) + ((r * B : Nat) : Int) + X ≤ 4611686018427387904 := by
        rw [show (r + 1) * B = B + r * B by rw [Nat.add_mul]; omega, Int.natCast_add] at hcB
        omega
      clear hcB
      have hpos' : (0 : Int) ≤ ((r * B : Nat) : Int) := Int.natCast_nonneg _
      have g' : (p : Int) + (dN w k : Nat) < ((l.length : Nat) : Int) := by omega
      rw [if_pos (by simpa using g'), req_pos (by omega)]
      simp only [Int.toNat_natCast, Nat.zero_add]
      rw [get_atv (by omega)]
      simp only [Option.bind_some, compAt]
      rw [w64_nat (by omega)]
      have skip : ¬ mayS w l k p = 0 → f38_1_p6 100 rec 0 l.length n w k f ((p + 1 : Nat) : Int) c b l = some (c + (((if mayS w l k p = 0 then sub (set2 l p (p + dN w k) k) else []) ++ compAt w sub l k r (p + 1)).length : Int), ((if mayS w l k p = 0 then sub (set2 l p (p + dN w k) k) else []) ++ compAt w sub l k r (p + 1)).foldl bet b, l) := fun h => by
        rw [end_loop v hk h0 hB hS hrec r (p + 1) f c b (by omega) (by omega) hc (by omega) hb, if_neg h]
        simp
      by_cases z1 : atv l p = 0
      · rw [if_pos (by simpa using z1), req_pos (by omega), show Int.toNat ((p : Int) + (dN w k : Nat)) = p + dN w k by omega, get_atv g]
        simp only [Option.bind_some, f38_1_p9_1]
        by_cases z2 : atv l (p + dN w k) = 0
        · have hfit : fitB w l k p = true := by simp [fitB, z1, z2]; omega
          have hmay := (fit_may h0).2 hfit
          have hsz := hB p hfit
          simp only [Int.toNat_natCast, Nat.zero_add]
          rw [if_pos (by simpa using z2), req_pos (by omega), req_pos (by omega), w64_in (n := (p : Int) + (dN w k : Nat)) (by omega), req_pos (by omega), show Int.toNat ((p : Int) + (dN w k : Nat)) = p + dN w k by omega, req_pos (by simp; omega)]
          rw [show (l.set p (k : Int)).set (p + dN w k) (k : Int) = set2 l p (p + dN w k) k from rfl, hrec p hfit c b hc (by omega) hb]
          simp only [Option.bind_some]
          rw [req_pos (by rw [set2_len]; omega), req_pos (by rw [List.length_set, set2_len]; omega)]
          rw [show ((set2 l p (p + dN w k) (k : Int)).set p 0).set (p + dN w k) 0 = set2 (set2 l p (p + dN w k) (k : Int)) p (p + dN w k) 0 from rfl, put_back v hk h0 hfit]
          simp only [Option.bind_some]
          rw [end_loop v hk h0 hB hS hrec r (p + 1) f _ _ (by omega) (by omega) (by omega) (by omega) (bet_len (hS p hfit) b hb), if_pos hmay]
          rw [List.length_append, List.foldl_append, Int.natCast_add, Int.add_assoc]
        · have hmay : ¬ mayS w l k p = 0 := fun q => z2 (fit_of ((fit_may h0).1 q)).2.2
          rw [if_neg (by simpa using z2)]
          simp only [Option.bind_some]
          exact skip hmay
      · have hmay : ¬ mayS w l k p = 0 := fun q => z1 (fit_of ((fit_may h0).1 q)).2.1
        rw [if_neg (by simpa using z1)]
        exact skip hmay
    · have g' : ¬ (p : Int) + (dN w k : Nat) < ((l.length : Nat) : Int) := by omega
      have hnil : compAt w sub l k r p = [] := by
        apply List.eq_nil_iff_forall_not_mem.2
        intro x hx
        obtain ⟨q, q1, q2, q3, _⟩ := (compAt_mem r p).1 hx
        have := (fit_of ((fit_may h0).1 q3)).1
        omega
      rw [if_neg (by simpa using g'), hnil]
      simp

theorem f38_eq : ∀ (f : Nat) (l : List Int) (c : Int) (b : Option (List Int)), f ≤ 100 → Val (n : Int) w l → mis n l < f → 0 ≤ c → c + (160000 * f + 1 : Nat) ≤ 4611686018427387904 → Len l.length b →
    f38_1 100 f 0 l.length n w c b l = some (c + ((ec w n f l).length : Int), (ec w n f l).foldl bet b, l)
  | f + 1, l, c, b, hf12, v, hf, hc, hcB, hb => by
    have hr := v.rng
    have hlen := v.len
    have hbd := nx_bound l n 1
    have hnx := next_eq (w := w) (l := l) (n := n) (by omega) (by omega) c b n 1 100 (by omega) (by omega)
    simp only [Int.natCast_one] at hnx
    unfold f38_1 f38_1_b ec
    rw [hnx]
    simp only [Option.bind_some]
    have hne : l ≠ [] := by intro e; rw [e] at hlen; simp at hlen; omega
    by_cases h : n < nx l n 1
    · have h' : ((nx l n 1 : Nat) : Int) > (n : Int) := by omega
      rw [if_pos (by simpa using h'), if_pos h, take0]
      simp only [f44_5]
      rw [req_pos hne, req_pos (by simp; omega)]
      simp only [List.nil_append, Option.bind_some]
      rw [req_pos (by omega), take0, f45_eq hne (by omega) hb (by omega)]
      simp
    · have h' : ¬ ((nx l n 1 : Nat) : Int) > (n : Int) := by omega
      have hm := nx_miss l n 1 (by omega)
      rw [if_neg (by simpa using h'), if_neg h]
      generalize nx l n 1 = k at *
      have hk : 1 ≤ k ∧ (k : Int) ≤ (n : Int) := by omega
      have hls : ∀ q, fitB w l k q = true → mis n (set2 l q (q + dN w k) k) < f := fun q hq => by
        have := mis_lt v ⟨hk.1, by omega⟩ hm hq
        omega
      have := end_loop (rec := f38_1 100 f) (sub := ec w n f) v hk hm (B := 10000) (X := 160000 * f + 1) (fun q hq => by rw [ec_len (put_val v hk hm hq) (hls q hq)]; exact few (put_val v hk hm hq))
        (fun q hq x hx => by rw [ec_one (put_val v hk hm hq) (hls q hq) x hx, set2_len])
        (fun q hq c' b' hc' hcb' hb' => by
          have := f38_eq f (set2 l q (q + dN w k) k) c' b' (by omega) (put_val v hk hm hq) (hls q hq) hc' hcb' (by rw [set2_len]; exact hb')
          rwa [set2_len] at this)
        l.length 0 100 c b (by omega) (by omega) hc (by omega) hb
      simp only [Int.natCast_zero] at this
      rw [this]
      rfl
end

/- the law -/
section
variable {n : Nat} {w : Bool}

theorem frs_mem {l : List Int} {k : Nat} {q : Int} : ∀ i, q ∈ frs w l k i → ∃ m : Nat, q = (m : Int) ∧ m < i ∧ fitB w l k m = true
  | 0, h => by simp [frs] at h
  | i + 1, h => by
    simp only [frs, List.mem_append] at h
    rcases h with h | h
    · obtain ⟨m, e, h1, h2⟩ := frs_mem i h
      exact ⟨m, e, by omega, h2⟩
    · by_cases g : fitB w l k i = true
      · rw [if_pos g] at h
        exact ⟨i, by simpa using h, by omega, g⟩
      · rw [if_neg g] at h; cases h

theorem frs_asc (l : List Int) (k : Nat) : ∀ i, (frs w l k i).Pairwise (· < ·)
  | 0 => by simp [frs]
  | i + 1 => by
    simp only [frs]
    refine List.pairwise_append.2 ⟨frs_asc l k i, ?_, ?_⟩
    · split <;> simp
    · intro a ha b hb
      obtain ⟨m, e, h1, _⟩ := frs_mem i ha
      split at hb
      · have : b = (i : Int) := by simpa using hb
        omega
      · cases hb

/-- The completions after the kind is put there. -/
def cnt (n : Nat) (w : Bool) (l : List Int) (k q : Nat) : Nat := (comp w n (set2 l q (q + dN w k) k)).length
def sumc (n : Nat) (w : Bool) (l : List Int) (k : Nat) : List Int → Nat
  | [] => 0
  | q :: s => cnt n w l k q.toNat + sumc n w l k s

theorem sumc_app (l : List Int) (k : Nat) : ∀ (s t : List Int), sumc n w l k (s ++ t) = sumc n w l k s + sumc n w l k t
  | [], t => by simp [sumc]
  | q :: s, t => by simp only [List.cons_append, sumc]; rw [sumc_app l k s t]; omega

theorem frs_sum (l : List Int) (k : Nat) : ∀ i, sumc n w l k (frs w l k i) = S (fun q => if fitB w l k q = true then cnt n w l k q else 0) i
  | 0 => rfl
  | i + 1 => by
    simp only [frs, S]
    rw [sumc_app, frs_sum l k i]
    split <;> simp [sumc]

theorem compAt_sum {l : List Int} {k : Nat} (h0 : posF 0 l k = []) : ∀ r p, (compAt w (comp w n) l k r p).length + S (fun q => if fitB w l k q = true then cnt n w l k q else 0) p = S (fun q => if fitB w l k q = true then cnt n w l k q else 0) (p + r)
  | 0, p => by simp [compAt]
  | r + 1, p => by
    have ih := compAt_sum h0 r (p + 1)
    simp only [S] at ih
    simp only [compAt, List.length_append]
    rw [show p + (r + 1) = p + 1 + r by omega, ← ih]
    by_cases g : fitB w l k p = true
    · rw [if_pos ((fit_may h0).2 g), if_pos g]; unfold cnt; omega
    · rw [if_neg (fun q => g ((fit_may h0).1 q)), if_neg g]; simp

theorem compAt_all {l : List Int} (v : Val (n : Int) w l) {k : Nat} (hk : 1 ≤ k ∧ (k : Int) ≤ (n : Int)) (h0 : posF 0 l k = []) :
    (compAt w (comp w n) l k l.length 0).length = (comp w n l).length := by
  have hmem : ∀ (l' : List Int) (x : List Int), Val (n : Int) w l' → (x ∈ comp w n l' ↔ Q (n : Int) w l' x) := fun l' x v' => by
    have := all_mem (x := x) v'
    rwa [Int.toNat_natCast] at this
  have hnod : ∀ (l' : List Int), Val (n : Int) w l' → (comp w n l').Nodup := fun l' v' => by
    have := all_nodup v'
    rwa [Int.toNat_natCast] at this
  have hm : ∀ x, x ∈ compAt w (comp w n) l k l.length 0 ↔ x ∈ comp w n l := fun x => by
    rw [compAt_mem, hmem l x v]
    constructor
    · rintro ⟨q, _, _, q3, q4⟩
      have hfit := (fit_may h0).1 q3
      exact Q.of_put hk.1 hfit ((hmem _ x (put_val v hk h0 hfit)).1 q4)
    · intro hq
      obtain ⟨a, _, hfit, hq'⟩ := hq.put hk h0
      have := fit_of hfit
      exact ⟨a, by omega, by omega, (fit_may h0).2 hfit, (hmem _ x (put_val v hk h0 hfit)).2 hq'⟩
  have hn : (compAt w (comp w n) l k l.length 0).Nodup := by
    apply compAt_nodup
    · intro q hq
      exact hnod _ (put_val v hk h0 ((fit_may h0).1 hq))
    · intro q x hq hx
      have hfit := (fit_may h0).1 hq
      exact Q.at_put hk hfit ((hmem _ x (put_val v hk h0 hfit)).1 hx)
  exact Nat.le_antisymm (hn.length_le_of_subset fun x hx => (hm x).1 hx) ((hnod l v).length_le_of_subset fun x hx => (hm x).2 hx)

theorem frs_total {l : List Int} (v : Val (n : Int) w l) {k : Nat} (hk : 1 ≤ k ∧ (k : Int) ≤ (n : Int)) (h0 : posF 0 l k = []) :
    sumc n w l k (frs w l k l.length) = (comp w n l).length := by
  have h1 := compAt_sum (n := n) (w := w) h0 l.length 0
  simp only [S, Nat.zero_add, Nat.add_zero] at h1
  rw [frs_sum, ← h1, compAt_all v hk h0]

/-- A kind taken off. -/
theorem take_val {l : List Int} (v : Val (n : Int) w l) {k a : Nat} (hk : 1 ≤ k ∧ (k : Int) ≤ (n : Int)) (e : posF 0 l k = [(a : Int), ((a + dN w k : Nat) : Int)]) (ha : a + dN w k < l.length) :
    Val (n : Int) w (set2 l a (a + dN w k) 0) ∧ posF 0 (set2 l a (a + dN w k) 0) k = [] ∧ Sub (set2 l a (a + dN w k) 0) l := by
  have ea : l[a]? = some (k : Int) := by
    have := (mem_pos.1 (show (a : Int) ∈ posF 0 l k by rw [e]; simp)).2
    simpa using this
  have eb : l[a + dN w k]? = some (k : Int) := by
    have := (mem_pos.1 (show ((a + dN w k : Nat) : Int) ∈ posF 0 l k by rw [e]; simp)).2
    rwa [Int.toNat_natCast] at this
  have ea' : atv l a = (k : Int) := by unfold atv; rw [ea]; rfl
  have eb' : atv l (a + dN w k) = (k : Int) := by unfold atv; rw [eb]; rfl
  have hnil : posF 0 (set2 l a (a + dN w k) 0) k = [] := by
    apply List.eq_nil_iff_forall_not_mem.2
    intro x hx
    obtain ⟨x0, x1⟩ := mem_pos.1 hx
    rw [get_set2 (by omega) ha] at x1
    split at x1
    · have : (0 : Int) = (k : Int) := Option.some.inj x1
      omega
    · have : x ∈ posF 0 l k := mem_pos.2 ⟨x0, x1⟩
      rw [e] at this
      simp only [List.mem_cons, List.not_mem_nil, or_false] at this
      omega
  refine ⟨⟨v.rng, by rw [set2_len]; exact v.len, ?_, ?_⟩, hnil, by rw [set2_len], ?_⟩
  · intro x hx
    have hr := v.rng
    obtain ⟨i, hi⟩ := List.mem_iff_getElem?.1 hx
    rw [get_set2 (by omega) ha] at hi
    split at hi
    · have : (0 : Int) = x := Option.some.inj hi
      omega
    · exact v.inr x (List.mem_iff_getElem?.2 ⟨i, hi⟩)
  · intro j h1 h2
    by_cases hj : j = (k : Int)
    · rw [hj, hnil]; rfl
    · rw [pos_put_other (by omega) (by omega) ha (by rw [ea']; omega) (by rw [eb']; omega)]
      exact v.kind j h1 h2
  · intro i hi hne
    rw [set2_len] at hi
    rw [atv_set2 (by omega) ha] at hne ⊢
    split at hne
    · exact absurd rfl hne
    · rw [if_neg (by assumption)]

theorem take_count {l : List Int} (v : Val (n : Int) w l) {k a : Nat} (hk : 1 ≤ k ∧ (k : Int) ≤ (n : Int)) (e : posF 0 l k = [(a : Int), ((a + dN w k : Nat) : Int)]) (ha : a + dN w k < l.length) :
    (comp w n l).length ≤ (comp w n (set2 l a (a + dN w k) 0)).length := by
  obtain ⟨v', _, hs⟩ := take_val v hk e ha
  have hn := all_nodup v
  rw [Int.toNat_natCast] at hn
  refine hn.length_le_of_subset fun x hx => ?_
  have h1 := all_mem (x := x) v
  have h2 := all_mem (x := x) v'
  rw [Int.toNat_natCast] at h1 h2
  obtain ⟨q1, q2, q3⟩ := h1.1 hx
  refine h2.2 ⟨q1, q2, by rw [q3.1, set2_len], fun i hi hne => ?_⟩
  have e1 := hs.2 i hi hne
  rw [set2_len] at hi
  rw [q3.2 i hi (by rw [e1]; exact hne), e1]

theorem f22_1_refl {l : List Int} (hl : l.length ≤ 60) {o : Option (List Int)} (ho : o.getD [] = l) : f22_1 100 l o = some true := by
  have key : ∀ (s p : List Int) (f : Nat), p ++ s = l → s.length < f → f22_1_p2 100 l o f p.length = some .c1 := by
    intro s
    induction s with
    | nil =>
      intro p f hp hf
      obtain ⟨f, rfl⟩ : ∃ g, f = g + 1 := ⟨f - 1, by omega⟩
      rw [List.append_nil] at hp
      rw [← hp]
      simp [f22_1_p2]
    | cons x s ih =>
      intro p f hp hf
      simp only [List.length_cons] at hf
      obtain ⟨f, rfl⟩ : ∃ g, f = g + 1 := ⟨f - 1, by omega⟩
      have hlt : ((p.length : Int) < ((l.length : Nat) : Int)) := by rw [← hp]; simp; omega
      have hat : at? l ((p.length : Nat) : Int) = some x := by rw [← hp]; exact at_mid p x s
      have hpl : p.length ≤ 60 := by rw [← hp, List.length_append] at hl; omega
      simp only [f22_1_p2, decide_eq_true hlt, if_true, ho, hat, Option.bind_some, bne_self_eq_false, Bool.false_eq_true, if_false]
      rw [w64_nat (by omega)]
      have := ih (p ++ [x]) f (by simpa using hp) (by omega)
      simpa using this
  unfold f22_1
  rw [ho]
  have := key l [] 100 rfl (by omega)
  simp only [List.length_nil, Int.natCast_zero] at this
  simp [this]

theorem sum_loop {l : List Int} (v : Val (n : Int) w l) {k : Nat} (hk : 1 ≤ k ∧ (k : Int) ≤ (n : Int)) (h0 : posF 0 l k = []) {x5 : Int} (hx : w64 (1 + (Int.tmod (w64 x5) (n : Int))) = (k : Int)) (x29 : Int) {xs : List Int} (hxs : xs = frs w l k l.length) :
    ∀ (s p : List Int) (A f : Nat), p ++ s = xs → s.length < f → A + 10000 * s.length ≤ 4611686018427387904 →
      f7_p6 100 x5 n x29 xs n w l f A p.length = some (.c1 ((A + sumc n w l k s : Nat) : Int)) := by
  intro s
  have hlen := v.len
  have hr := v.rng
  have hxl : xs.length ≤ 60 := by
    have := frs_len w l k l.length
    rw [hxs]; omega
  induction s with
  | nil =>
    intro p A f hp hf _
    obtain ⟨f, rfl⟩ : ∃ g, f = g + 1 := ⟨f - 1, by omega⟩
    rw [List.append_nil] at hp
    simp [f7_p6, ← hp, sumc]
  | cons q s ih =>
    intro p A f hp hf hA
    simp only [List.length_cons] at hf hA
    obtain ⟨f, rfl⟩ : ∃ g, f = g + 1 := ⟨f - 1, by omega⟩
    have hlt : ((p.length : Int) < ((xs.length : Nat) : Int)) := by rw [← hp]; simp; omega
    have hat : at? xs ((p.length : Nat) : Int) = some q := by rw [← hp]; exact at_mid p q s
    have hpl : p.length < 60 := by omega
    obtain ⟨m, rfl, hm, hfit⟩ := frs_mem (w := w) (l := l) (k := k) (q := q) l.length (by rw [← hxs, ← hp]; simp)
    have hput : putS n w l k m = ((n : Int), w, set2 l m (m + dN w k) k, 0) := by
      have hmay := (fit_may h0).2 hfit
      unfold putS
      rw [if_pos (code_zero.2 v), if_pos (by omega), if_pos (by omega)]
      simp only [Int.toNat_natCast]
      rw [if_pos hmay]
    have v' := put_val v hk h0 hfit
    have hc := few v'
    have hcn : (comp w n (set2 l m (m + dN w k) k)).length = cnt n w l k m := rfl
    rw [hcn] at hc
    have hih := ih (p ++ [(m : Int)]) (A + cnt n w l k m) f (by simpa using hp) (by omega) (by omega)
    simp only [List.length_append, List.length_singleton] at hih
    simp only [f7_p6, decide_eq_true hlt, if_true, hat, Option.bind_some]
    rw [hx, f15_eq (by omega), hput]
    simp only [Option.bind_some]
    rw [f35_eq v']
    simp only [Option.bind_some, Int.toNat_natCast, bne_self_eq_false, Bool.false_eq_true, if_false]
    rw [hcn, w64_in (n := (A : Int) + (cnt n w l k m : Nat)) (by omega), w64_nat (n := p.length) (by omega)]
    have hfin : f7_p6 100 x5 n x29 xs n w l f ((A : Int) + (cnt n w l k m : Nat)) ((p.length + 1 : Nat) : Int) = some (.c1 ((A + sumc n w l k ((m : Int) :: s) : Nat) : Int)) := by
      rw [← Int.natCast_add, hih]
      simp only [sumc, Int.toNat_natCast, Nat.add_assoc]
    rcases List.eq_nil_or_concat p with rfl | ⟨p', y, rfl⟩
    · simp only [List.length_nil, Int.natCast_zero] at hfin ⊢
      rw [if_neg (by simp)]
      exact hfin
    · simp only [List.concat_eq_append] at hp hfin hpl hat hlt ⊢
      have hy : y < (m : Int) := by
        have := frs_asc (w := w) l k l.length
        rw [← hxs, ← hp] at this
        exact (List.pairwise_append.1 this).2.2 y (by simp) _ (by simp)
      have hat' : at? xs ((p'.length : Nat) : Int) = some y := by
        rw [← hp]
        have := at_mid p' y ((m : Int) :: s)
        simpa using this
      have e : w64 ((((p' ++ [y]).length : Nat) : Int) - 1) = ((p'.length : Nat) : Int) := by
        rw [w64_in (by simp at hpl ⊢; omega)]; simp
      rw [if_pos (by simp), e, hat']
      simp only [Option.bind_some]
      rw [if_neg (by simp; omega)]
      exact hfin

theorem rest {l : List Int} (v : Val (n : Int) w l) {k : Nat} (hk : 1 ≤ k ∧ (k : Int) ≤ (n : Int)) (h0 : posF 0 l k = []) {x5 : Int} (hx : w64 (1 + (Int.tmod (w64 x5) (n : Int))) = (k : Int)) :
    f7_p6 100 x5 n ((comp w n l).length : Nat) (frs w l k l.length) n w l 100 0 0 = some (.c1 (((comp w n l).length : Nat) : Int)) := by
  have hlen := v.len
  have hr := v.rng
  have hl := frs_len w l k l.length
  have := sum_loop v hk h0 hx ((comp w n l).length : Nat) rfl (frs w l k l.length) [] 0 100 rfl (by omega) (by omega)
  rw [Nat.zero_add, frs_total v hk h0] at this
  exact this

theorem less {l : List Int} (v : Val (n : Int) w l) {k : Nat} (hk : 1 ≤ k ∧ (k : Int) ≤ (n : Int)) {x5 : Int} (hx : w64 (1 + (Int.tmod (w64 x5) (n : Int))) = (k : Int)) (x14 : Int) :
    ∃ l', Val (n : Int) w l' ∧ posF 0 l' k = [] ∧ l'.length = l.length ∧ (comp w n l).length ≤ (comp w n l').length ∧
      ∃ a b c d, takeS n w l k = (a, b, c, d) ∧ f7_p1 100 x14 x5 n d w l a b c = some (.c1 n w l') := by
  have hlen := v.len
  have hr := v.rng
  unfold takeS
  rw [if_pos (code_zero.2 v), if_pos (by omega)]
  by_cases h0 : posF 0 l k = []
  · rw [if_pos h0]
    refine ⟨l, v, h0, rfl, Nat.le_refl _, 0, false, [], 12, rfl, ?_⟩
    unfold f7_p1
    rw [hx, f46_eq (by omega) (by omega), if_pos (by rfl)]
    have : ¬ (k : Int) ∈ l := fun q => mem_pos_iff.1 q h0
    simp [this]
  · rw [if_neg h0]
    obtain ⟨a, e, ha, _⟩ := v.both hk h0
    obtain ⟨v', e', _⟩ := take_val v hk e ha
    refine ⟨set2 l a (a + dN w k) 0, v', e', set2_len _ _ _ _, take_count v hk e ha, n, w, set2 l a (a + dN w k) 0, 0, by simp [e], ?_⟩
    simp [f7_p1]

theorem sum_loop_1 {l : List Int} (v : Val (n : Int) w l) {k : Nat} (hk : 1 ≤ k ∧ (k : Int) ≤ (n : Int)) (h0 : posF 0 l k = []) {x5 : Int} (hx : w64 (1 + (Int.tmod (w64 x5) (n : Int))) = (k : Int)) (x29 : Int) {xs : List Int} (hxs : xs = frs w l k l.length) :
    ∀ (s p : List Int) (A f : Nat), p ++ s = xs → s.length < f → A + 10000 * s.length ≤ 4611686018427387904 →
      f7_p6_1 100 x5 n x29 xs n w l f A p.length = some (.c1 ((A + sumc n w l k s : Nat) : Int)) := by
  intro s
  have hlen := v.len
  have hr := v.rng
  have hxl : xs.length ≤ 60 := by
    have := frs_len w l k l.length
    rw [hxs]; omega
  induction s with
  | nil =>
    intro p A f hp hf _
    obtain ⟨f, rfl⟩ : ∃ g, f = g + 1 := ⟨f - 1, by omega⟩
    rw [List.append_nil] at hp
    simp [f7_p6_1, ← hp, sumc]
  | cons q s ih =>
    intro p A f hp hf hA
    simp only [List.length_cons] at hf hA
    obtain ⟨f, rfl⟩ : ∃ g, f = g + 1 := ⟨f - 1, by omega⟩
    have hlt : ((p.length : Int) < ((xs.length : Nat) : Int)) := by rw [← hp]; simp; omega
    have hat : at? xs ((p.length : Nat) : Int) = some q := by rw [← hp]; exact at_mid p q s
    have hpl : p.length < 60 := by omega
    obtain ⟨m, rfl, hm, hfit⟩ := frs_mem (w := w) (l := l) (k := k) (q := q) l.length (by rw [← hxs, ← hp]; simp)
    have hput : putS n w l k m = ((n : Int), w, set2 l m (m + dN w k) k, 0) := by
      have hmay := (fit_may h0).2 hfit
      unfold putS
      rw [if_pos (code_zero.2 v), if_pos (by omega), if_pos (by omega)]
      simp only [Int.toNat_natCast]
      rw [if_pos hmay]
    have v' := put_val v hk h0 hfit
    have hc := few v'
    have hcn : (comp w n (set2 l m (m + dN w k) k)).length = cnt n w l k m := rfl
    rw [hcn] at hc
    have hih := ih (p ++ [(m : Int)]) (A + cnt n w l k m) f (by simpa using hp) (by omega) (by omega)
    simp only [List.length_append, List.length_singleton] at hih
    simp only [f7_p6_1, decide_eq_true hlt, if_true, hat, Option.bind_some]
    rw [hx, f15_eq (by omega), hput]
    simp only [Option.bind_some]
    rw [f35_eq v']
    simp only [Option.bind_some, Int.toNat_natCast, bne_self_eq_false, Bool.false_eq_true, if_false]
    rw [hcn, w64_in (n := (A : Int) + (cnt n w l k m : Nat)) (by omega), w64_nat (n := p.length) (by omega)]
    have hfin : f7_p6_1 100 x5 n x29 xs n w l f ((A : Int) + (cnt n w l k m : Nat)) ((p.length + 1 : Nat) : Int) = some (.c1 ((A + sumc n w l k ((m : Int) :: s) : Nat) : Int)) := by
      rw [← Int.natCast_add, hih]
      simp only [sumc, Int.toNat_natCast, Nat.add_assoc]
    rcases List.eq_nil_or_concat p with rfl | ⟨p', y, rfl⟩
    · simp only [List.length_nil, Int.natCast_zero] at hfin ⊢
      rw [if_neg (by simp)]
      exact hfin
    · simp only [List.concat_eq_append] at hp hfin hpl hat hlt ⊢
      have hy : y < (m : Int) := by
        have := frs_asc (w := w) l k l.length
        rw [← hxs, ← hp] at this
        exact (List.pairwise_append.1 this).2.2 y (by simp) _ (by simp)
      have hat' : at? xs ((p'.length : Nat) : Int) = some y := by
        rw [← hp]
        have := at_mid p' y ((m : Int) :: s)
        simpa using this
      have e : w64 ((((p' ++ [y]).length : Nat) : Int) - 1) = ((p'.length : Nat) : Int) := by
        rw [w64_in (by simp at hpl ⊢; omega)]; simp
      rw [if_pos (by simp), e, hat']
      simp only [Option.bind_some]
      rw [if_neg (by simp; omega)]
      exact hfin

theorem rest_1 {l : List Int} (v : Val (n : Int) w l) {k : Nat} (hk : 1 ≤ k ∧ (k : Int) ≤ (n : Int)) (h0 : posF 0 l k = []) {x5 : Int} (hx : w64 (1 + (Int.tmod (w64 x5) (n : Int))) = (k : Int)) :
    f7_p6_1 100 x5 n ((comp w n l).length : Nat) (frs w l k l.length) n w l 100 0 0 = some (.c1 (((comp w n l).length : Nat) : Int)) := by
  have hlen := v.len
  have hr := v.rng
  have hl := frs_len w l k l.length
  have := sum_loop_1 v hk h0 hx ((comp w n l).length : Nat) rfl (frs w l k l.length) [] 0 100 rfl (by omega) (by omega)
  rw [Nat.zero_add, frs_total v hk h0] at this
  exact this

theorem less_1 {l : List Int} (v : Val (n : Int) w l) {k : Nat} (hk : 1 ≤ k ∧ (k : Int) ≤ (n : Int)) {x5 : Int} (hx : w64 (1 + (Int.tmod (w64 x5) (n : Int))) = (k : Int)) (x14 : Int) :
    ∃ l', Val (n : Int) w l' ∧ posF 0 l' k = [] ∧ l'.length = l.length ∧ (comp w n l).length ≤ (comp w n l').length ∧
      ∃ a b c d, takeS n w l k = (a, b, c, d) ∧ f7_p1_1 100 x14 x5 n d w l a b c = some (.c1 n w l') := by
  have hlen := v.len
  have hr := v.rng
  unfold takeS
  rw [if_pos (code_zero.2 v), if_pos (by omega)]
  by_cases h0 : posF 0 l k = []
  · rw [if_pos h0]
    refine ⟨l, v, h0, rfl, Nat.le_refl _, 0, false, [], 12, rfl, ?_⟩
    unfold f7_p1_1
    rw [hx, f46_eq (by omega) (by omega), if_pos (by rfl)]
    have : ¬ (k : Int) ∈ l := fun q => mem_pos_iff.1 q h0
    simp [this]
  · rw [if_neg h0]
    obtain ⟨a, e, ha, _⟩ := v.both hk h0
    obtain ⟨v', e', _⟩ := take_val v hk e ha
    refine ⟨set2 l a (a + dN w k) 0, v', e', set2_len _ _ _ _, take_count v hk e ha, n, w, set2 l a (a + dN w k) 0, 0, by simp [e], ?_⟩
    simp [f7_p1_1]

theorem f7_plain (x1 : Int) (w : Bool) (ps : List Int) (x4 x5 : Int) (h1 : 0 ≤ x1 ∧ x1 ≤ 255) (hps : ps.length = 8) (hall : ∀ x ∈ ps, 0 ≤ x ∧ x ≤ 255) (h5 : 0 ≤ x5 ∧ x5 ≤ 255) : f7 100 x1 w ps x4 x5 = some true := by
  obtain ⟨n, l, e43, v, _⟩ := f43_eq h1 w hps hall x4 (m := 7) (by omega)
  simp only [show ((7 : Nat) : Int) = 7 from rfl] at e43
  have hr := v.rng
  obtain ⟨n, rfl⟩ := Int.eq_ofNat_of_zero_le (show 0 ≤ n by omega)
  have hlen := v.len
  have hne : l ≠ [] := by intro e; rw [e] at hlen; simp at hlen; omega
  have hmis := mis_le (n := n) l
  have q0 := Int.emod_nonneg x5 (show (n : Int) ≠ 0 by omega)
  have q1 := Int.emod_lt_of_pos x5 (show (0 : Int) < (n : Int) by omega)
  obtain ⟨k, hk'⟩ := Int.eq_ofNat_of_zero_le (show 0 ≤ 1 + x5 % (n : Int) by omega)
  have hx : w64 (1 + (Int.tmod (w64 x5) (n : Int))) = (k : Int) := by
    rw [tmod_byte h5.1 h5.2 (by omega), w64_in (by omega), hk']
  have hk : 1 ≤ k ∧ (k : Int) ≤ (n : Int) := by omega
  have e38 := f38_eq (n := n) (w := w) 100 l 0 none (by omega) v (by omega) (by omega) (by omega) (fun y h => by cases h)
  rw [best_head v (f := 100) (by omega) (fun x => ec_mem 100 l v (by omega)), ec_len v (by omega)] at e38
  have e35 := f35_eq v
  have e33 := f33_eq v (all_good v) fun x hx => ((all_mem v).1 hx).good.2
  rw [Int.toNat_natCast] at e35 e33
  rw [same_head v (f := 100) (by omega)] at e33
  have hsl := same_len v (f := 100) (by omega)
  unfold f7
  rw [e43]
  simp only [Option.bind_some, f44_4]
  rw [req_pos hne, req_pos (by simp; omega)]
  simp only [Option.bind_some, List.nil_append]
  rw [e38, e35, e33]
  simp only [Option.bind_some, Int.zero_add, bne_self_eq_false, Bool.false_eq_true, if_false]
  cases hc : rc w n 100 l with
  | nil =>
    rw [hc] at hsl
    simp only [List.length_nil] at hsl
    simp only [List.head?_nil, ← hsl]
    have e22 : f22_1 100 [] (none : Option (List Int)) = some true := f22_1_refl (l := []) (by simp) rfl
    obtain ⟨l', v', h0, hll, hle, a, b, c, d, et, ep⟩ := less v hk hx (0 : Int)
    have hlen' := v'.len
    have hfl := frs_len w l' k l'.length
    have e35' := f35_eq v'
    rw [Int.toNat_natCast] at e35'
    have e19 : freeS n w l' k = (frs w l' k l'.length, 0) := by
      unfold freeS
      rw [if_pos (code_zero.2 v'), if_pos (by omega), if_pos h0, Int.toNat_natCast]
    simp [e22]
    rw [req_pos (by omega), hx, f17_eq (by omega), et]
    simp only [Option.bind_some]
    rw [ep]
    simp only [Option.bind_some]
    rw [e35', f19_eq (by omega), e19]
    simp only [Option.bind_some, bne_self_eq_false, Bool.false_eq_true, if_false]
    have n1 : ¬ (((comp w n l').length : Nat) : Int) < 0 := by omega
    have n2 : ¬ l.length < (frs w l' k l'.length).length := by omega
    simp only [if_true]
    rw [if_neg n1, if_neg n2, rest v' hk h0 hx]
    simp [f14_true]
  | cons x L =>
    rw [hc] at hsl
    simp only [List.length_cons] at hsl
    simp only [List.head?_cons]
    have hxl := ((rc_mem 100 l v (by omega)).1 (show x ∈ rc w n 100 l by rw [hc]; simp)).good.2
    have e22 : f22_1 100 x (some x) = some true := f22_1_refl (l := x) (by omega) rfl
    obtain ⟨l', v', h0, hll, hle, a, b, c, d, et, ep⟩ := less_1 v hk hx (((comp w n l).length : Nat) : Int)
    have hlen' := v'.len
    have hfl := frs_len w l' k l'.length
    have e35' := f35_eq v'
    rw [Int.toNat_natCast] at e35'
    have e19 : freeS n w l' k = (frs w l' k l'.length, 0) := by
      unfold freeS
      rw [if_pos (code_zero.2 v'), if_pos (by omega), if_pos h0, Int.toNat_natCast]
    have hpos : (0 : Int) < (((comp w n l).length : Nat) : Int) := by omega
    simp [e22, hpos]
    rw [req_pos (by omega), hx, f17_eq (by omega), et]
    simp only [Option.bind_some]
    rw [ep]
    simp only [Option.bind_some]
    rw [e35', f19_eq (by omega), e19]
    simp only [Option.bind_some, bne_self_eq_false, Bool.false_eq_true, if_false]
    have n1 : ¬ (((comp w n l').length : Nat) : Int) < (((comp w n l).length : Nat) : Int) := by omega
    have n2 : ¬ l.length < (frs w l' k l'.length).length := by omega
    refine ⟨by omega, ?_⟩
    simp only [if_true]
    rw [if_neg n1, if_neg n2, rest_1 v' hk h0 hx]
    simp [f14_true]
end

end Go.Gh.Fan
