/- The plain law of PacketCounted. -/
import Derived.Test.YtkjlgbnbpeijbaaPackU
import Derived.Test.YtkjlgbnbpeijbaaPackK
namespace Go.Gh.Pack
set_option linter.unusedVariables false
set_option linter.unusedSimpArgs false

theorem f81_eq {F : Nat} (hF : 1100 ≤ F) {a b : List Int} (hab : Good a b) {N : Nat} (hN : N ≤ 100000) : ∀ (k i n : Nat) (p : Int) (h : Nat → Int) (L : Int) (l : List Int), i ≤ a.length → a.length < k + i →
    (n : Int) + tot (a.drop i) (b.drop i) < N → l.length = a.length → (∀ y, 0 ≤ h y ∧ h y + cntT (a.drop i) (b.drop i) ≤ 1000000) → (0 ≤ L ∧ L + cntT (a.drop i) (b.drop i) ≤ 1000000) →
    ∃ l', f81 F k i n p (tab N h) 0 N L a b l 0 a.length = some (tab N (fun y => h y + uf (a.drop i) (b.drop i) ((y : Int) - n)), L + cntT (a.drop i) (b.drop i), l') ∧ l'.length = a.length := by
  have h5 := hab.five
  have hl := hab.len
  intro k
  induction k with
  | zero => intro i n p h L l _ h1; omega
  | succ k ih =>
    intro i n p h L l h1 h2 h3 h4 hb1 hb2
    show ∃ l', f81_b F (f81 F k) i n p (tab N h) 0 N L a b l 0 a.length = _ ∧ _
    unfold f81_b
    by_cases hi : i = a.length
    · subst hi
      have ea : a.drop a.length = [] := List.drop_eq_nil_of_le (Nat.le_refl _)
      have eb : b.drop a.length = [] := List.drop_eq_nil_of_le (by omega)
      rw [ea, eb] at h3 hb1 hb2 ⊢
      have h3 : (n : Int) + 0 < N := h3
      have hb1 : ∀ y, 0 ≤ h y ∧ h y + 1 ≤ 1000000 := hb1
      have hb2 : 0 ≤ L ∧ L + 1 ≤ 1000000 := hb2
      have hn := hb1 n
      rw [if_pos (by simp)]
      unfold f46
      rw [req_pos (by omega), Int.toNat_natCast, Nat.zero_add, tab_get _ (by omega), Option.bind_some, req_pos (by rw [tab_len]; omega), tab_set, w64_in (n := h n + 1) (by omega), w64_in (n := L + 1) (by omega), Option.bind_some]
      refine ⟨l, ?_, h4⟩
      have e : (fun y => if y = n then h n + 1 else h y) = fun y : Nat => h y + uf [] [] ((y : Int) - n) := funext fun y => by
        show _ = h y + dl ((y : Int) - n)
        rw [dl]
        by_cases hy : y = n
        · rw [if_pos hy, if_pos (by omega), hy]
        · rw [if_neg hy, if_neg (by omega)]; omega
      rw [e]
      rfl
    · have hia : i < a.length := by omega
      have hib : i < b.length := by omega
      have hsa := hab.sz _ (List.getElem_mem hia)
      have hsb := hab.st _ (List.getElem_mem hib)
      obtain ⟨s, es⟩ : ∃ s : Nat, a[i] = s := ⟨a[i].toNat, by omega⟩
      obtain ⟨c, ec⟩ : ∃ c : Nat, b[i] = c := ⟨b[i].toNat, by omega⟩
      rw [drop_cons hia, drop_cons hib, es, ec] at h3 hb1 hb2 ⊢
      have ih := fun n p h L l => ih (i + 1) n p h L l (by omega) (by omega)
      have hat : at? a (i : Int) = some (s : Int) := at_of (by rw [List.getElem?_eq_getElem hia, es])
      have hbt : at? b (i : Int) = some (c : Int) := at_of (by rw [List.getElem?_eq_getElem hib, ec])
      have hA0 : 0 ≤ tot (a.drop (i + 1)) (b.drop (i + 1)) := tot_nonneg _ _ fun x hx => by have := hab.sz x (List.mem_of_mem_drop hx); omega
      generalize a.drop (i + 1) = A at *
      generalize b.drop (i + 1) = B at *
      rw [tot, Int.toNat_natCast] at h3
      rw [cntT, Int.toNat_natCast] at hb2 ⊢
      have hb1 : ∀ y, 0 ≤ h y ∧ h y + ((c + 1 : Nat) : Int) * cntT A B ≤ 1000000 := fun y => by
        have := hb1 y
        rwa [cntT, Int.toNat_natCast] at this
      have hT := cntT_pos A B
      rw [if_neg (by simp; omega)]
      have loop : ∀ (kk j : Nat) (l : List Int), j ≤ c + 1 → c + 1 < kk + j → l.length = a.length → ∃ l', f81_p2 F (f81 F k) i n p 0 N a b 0 a.length kk j (tab N (fun y => h y + wi s (uf A B) j ((y : Int) - n))) (L + j * cntT A B) l
          = some (tab N (fun y => h y + wi s (uf A B) (c + 1) ((y : Int) - n)), L + ((c + 1 : Nat) : Int) * cntT A B, l') ∧ l'.length = a.length := by
        intro kk
        induction kk with
        | zero => intro j l _ h; omega
        | succ kk ihk =>
          intro j l j1 j2 j3
          unfold f81_p2
          rw [hbt, Option.bind_some]
          by_cases hj : j ≤ c
          · have hcs := cs_cast (c := j) (s := s) (by omega) (by omega)
            have hle : (j : Int) * s ≤ (c : Int) * s := Int.mul_le_mul_of_nonneg_right (by omega) (by omega)
            have hle2 : ((j + 1 : Nat) : Int) * cntT A B ≤ ((c + 1 : Nat) : Int) * cntT A B := Int.mul_le_mul_of_nonneg_right (by omega) (by omega)
            have ej : ((j + 1 : Nat) : Int) * cntT A B = j * cntT A B + cntT A B := by rw [Int.natCast_add, Int.add_mul]; simp
            have ejs : (((j * s : Nat)) : Int) = (j : Int) * s := Int.natCast_mul ..
            have j0 : 0 ≤ (j : Int) * cntT A B := Int.mul_nonneg (by omega) (by omega)
            have ht0 : 0 ≤ (j : Int) * s := Int.mul_nonneg (by omega) (by omega)
            obtain ⟨l1, r1, r2⟩ := ih (n + j * s) (w64 (p + (j : Int))) (fun y => h y + wi s (uf A B) j ((y : Int) - n)) (L + j * cntT A B) (l.set (0 + i) j) (by rw [Int.natCast_add, ejs]; omega) (by simpa using j3) (fun y => by
              have := hb1 y
              have := wi_bd (s := (s : Int)) (uf_bd A B) j ((y : Int) - n)
              omega) (by omega)
            have hNn : n + j * s < N := by omega
            rw [if_pos (by simp; omega), req_pos (by omega), Int.toNat_natCast, req_pos (by rw [j3]; omega), hat, Option.bind_some, w64_succ (by omega), hcs.1, show w64 ((n : Int) + ((j * s : Nat) : Int)) = ((n + j * s : Nat) : Int) by rw [w64_in (by omega)]; omega, r1, Option.bind_some, w64_succ (by omega)]
            have e : (fun y : Nat => h y + wi s (uf A B) j ((y : Int) - n) + uf A B ((y : Int) - ((n + j * s : Nat) : Int))) = fun y : Nat => h y + wi s (uf A B) (j + 1) ((y : Int) - n) := funext fun y => by
              rw [wi_last, Int.natCast_add, ejs, show (y : Int) - ((n : Int) + (j : Int) * s) = (y : Int) - n - (j : Int) * s by omega]; omega
            have e2 : L + (j : Int) * cntT A B + cntT A B = L + ((j + 1 : Nat) : Int) * cntT A B := by omega
            rw [e2]
            show ∃ l', f81_p2 F (f81 F k) i n p 0 N a b 0 a.length kk ((j + 1 : Nat) : Int) (tab N (fun y : Nat => h y + wi s (uf A B) j ((y : Int) - n) + uf A B ((y : Int) - ((n + j * s : Nat) : Int)))) _ l1 = _ ∧ _
            rw [e]
            exact ihk (j + 1) l1 (by omega) (by omega) r2
          · have : j = c + 1 := by omega
            subst this
            rw [if_neg (by rw [decide_eq_true_eq]; omega)]
            exact ⟨l, rfl, j3⟩
      obtain ⟨l', r1, r2⟩ := loop F 0 l (by omega) (by omega) h4
      have e : (fun y : Nat => h y + wi s (uf A B) 0 ((y : Int) - n)) = h := funext fun y => by simp [wi]
      rw [e, show L + ((0 : Nat) : Int) * cntT A B = L by simp] at r1
      rw [show f81_p2 F (f81 F k) i n p 0 N a b 0 a.length F 0 (tab N h) L l = _ from r1, Option.bind_some]
      exact ⟨l', by simp only [uf, Int.toNat_natCast], r2⟩

theorem f45_eq {F : Nat} (hF : 1100 ≤ F) {a b : List Int} (hab : Good a b) {N : Nat} (hN : N ≤ 100000) (ht : tot a b < N) (hc : cntT a b ≤ 100000) : f45 F a b (List.replicate N 0) 0 N 0 = some (tab N (fun y => uf a b y), cntT a b) := by
  have h5 := hab.five
  unfold f45
  rw [req_pos (by omega), Int.toNat_natCast, tab_zero]
  obtain ⟨l', e, _⟩ := f81_eq hF hab hN F 0 0 0 (fun _ => 0) 0 (List.replicate a.length 0) (by omega) (by omega) (by simpa using ht) (by simp) (fun y => by simp; omega) (by simp; omega)
  rw [List.drop_zero, List.drop_zero] at e
  rw [show f81 F F 0 0 0 (tab N fun _ => 0) 0 N 0 a b (List.replicate a.length 0) 0 a.length = _ from e, Option.bind_some]
  have e2 : (fun y : Nat => (0 : Int) + uf a b ((y : Int) - ((0 : Nat) : Int))) = fun y : Nat => uf a b y := funext fun y => by
    rw [show (y : Int) - ((0 : Nat) : Int) = y by omega]; omega
  rw [e2, Int.zero_add]

theorem tot_le : ∀ (a b : List Int), (∀ x ∈ a, 0 ≤ x ∧ x ≤ 30) → (∀ x ∈ b, 0 ≤ x ∧ x ≤ 6) → tot a b ≤ 180 * a.length
  | [], b, _, _ => by cases b <;> simp [tot]
  | _ :: _, [], _, _ => by simp [tot]; omega
  | s :: a, c :: b, h1, h2 => by
    have h := tot_le a b (fun x hx => h1 x (by simp [hx])) (fun x hx => h2 x (by simp [hx]))
    have hs := h1 s (by simp)
    have hc := h2 c (by simp)
    have : (c.toNat : Int) * s ≤ 6 * 30 := Int.mul_le_mul (by omega) hs.2 hs.1 (by omega)
    rw [tot, List.length_cons]
    omega
theorem cntT_le : ∀ (a b : List Int), (∀ x ∈ b, 0 ≤ x ∧ x ≤ 6) → cntT a b ≤ 7 ^ a.length
  | [], b, _ => by cases b <;> simp [cntT]
  | _ :: a, [], _ => by
    have : (0 : Int) < 7 ^ (a.length + 1) := Int.pow_pos (by decide)
    simp only [cntT, List.length_cons]; omega
  | s :: a, c :: b, h2 => by
    have h := cntT_le a b (fun x hx => h2 x (by simp [hx]))
    have hp := cntT_pos a b
    have hc := h2 c (by simp)
    have : ((c.toNat + 1 : Nat) : Int) * cntT a b ≤ 7 * 7 ^ a.length := Int.mul_le_mul (by omega) h (by omega) (by omega)
    rw [cntT, List.length_cons, Int.pow_succ, Int.mul_comm (7 ^ a.length) 7]
    exact this
theorem pow7 {n : Nat} (h : n ≤ 4) : (7 : Int) ^ n ≤ 2401 := by
  match n, h with
  | 0, _ => decide
  | 1, _ => decide
  | 2, _ => decide
  | 3, _ => decide
  | 4, _ => decide

theorem f6_p1_eq {F : Nat} {x4 : Int} {a b : List Int} (hl : b.length = a.length) (h1 : ∀ x ∈ a, 0 ≤ x ∧ x ≤ 30) (h2 : ∀ x ∈ b, 0 ≤ x ∧ x ≤ 6) (h4 : a.length ≤ 5) : ∀ (k i : Nat) (acc : Int), i ≤ a.length → a.length < k + i → 0 ≤ acc → acc ≤ 180 * i →
    f6_p1 F x4 a b k acc i = some (acc + tot (a.drop i) (b.drop i)) := by
  intro k
  induction k with
  | zero => intro i acc _ h; omega
  | succ k ih =>
    intro i acc g1 g2 g3 g4
    unfold f6_p1
    by_cases hi : i < a.length
    · have hib : i < b.length := by omega
      have hs := h1 _ (List.getElem_mem hi)
      have hc := h2 _ (List.getElem_mem hib)
      have hm : b[i] * a[i] ≤ 6 * 30 := Int.mul_le_mul hc.2 hs.2 hs.1 (by omega)
      have hm0 : 0 ≤ b[i] * a[i] := Int.mul_nonneg hc.1 hs.1
      rw [if_pos (by simp; omega), at_get hib, Option.bind_some, at_get hi, Option.bind_some, w64_in (n := b[i] * a[i]) (by omega), w64_in (n := acc + b[i] * a[i]) (by omega), w64_succ (by omega), ih (i + 1) _ (by omega) (by omega) (by omega) (by omega), drop_cons hi, drop_cons hib, tot, Int.toNat_of_nonneg hc.1]
      congr 1; omega
    · rw [if_neg (by simp; omega), List.drop_eq_nil_of_le (by omega)]
      simp [tot]

theorem sumT_mono {g : Nat → Int} (h : ∀ y, 0 ≤ g y) : ∀ n m, n ≤ m → sumT g n ≤ sumT g m ∧ 0 ≤ sumT g n := by
  have h0 : ∀ n, 0 ≤ sumT g n := fun n => by
    induction n with
    | zero => simp [sumT]
    | succ n ih => have := h n; rw [sumT]; omega
  intro n m hm
  refine ⟨?_, h0 n⟩
  induction m with
  | zero => have : n = 0 := by omega
            subst this; omega
  | succ m ih =>
    by_cases he : n = m + 1
    · subst he; omega
    · have := ih (by omega)
      have := h m
      rw [sumT]; omega

theorem f6_p5_eq {F : Nat} (hF : 1100 ≤ F) {x4 x13 : Int} {a b : List Int} (hst : stk a b = 0) {t : Nat} (ht : tot a b = t) (ht2 : t ≤ 720) (hc : cntT a b ≤ 100000) :
    ∀ (k i : Nat) (acc : List Int), i ≤ t + 1 → t + 1 < k + i → acc.length ≤ i → f6_p5 F x4 a b t (tab (t + 1) (W a b)) x13 k (sumT (W a b) i) i acc = some (.c1 (sumT (W a b) (t + 1)) (acc ++ pos (W a b) i (t + 1 - i))) := by
  have hab := Good.of hst
  have hl := hab.len
  have h5 := hab.five
  have hsum : sumT (W a b) (t + 1) = cntT a b := by
    have := sum_uf (N := t + 1) a b 0 (fun x hx => by have := hab.sz x hx; omega) (by omega) (by rw [ht]; omega)
    rw [← this]
    exact sumT_congr _ fun y _ => by rw [W_uf (fun x hx => by have := hab.sz x hx; omega), show (y : Int) - 0 = y by omega]
  have et : w64 ((t : Int) + 1) = ((t + 1 : Nat) : Int) := w64_succ (by omega)
  intro k
  induction k with
  | zero => intro i acc _ h; omega
  | succ k ih =>
    intro i acc h1 h2 h3
    unfold f6_p5
    rw [et, Int.toNat_natCast]
    by_cases hi : i < t + 1
    · have hod : od a b i = 0 := by
        unfold od
        rw [if_pos hst, if_pos (by omega)]
      have e36 : f36 F a b i = some (W a b i, 0) := by
        rw [f36_eq hF (by omega), if_pos hod, Int.toNat_natCast]
      have esym : W a b (t - i) = W a b i := by
        have hpos : ∀ x ∈ a, (0 : Int) ≤ x := fun x hx => by have := hab.sz x hx; omega
        rw [W_uf hpos, W_uf hpos, uf_sym, ht]
        congr 1; omega
      have hm := sumT_mono (W_pos a b) (i + 1) (t + 1) (by omega)
      rw [if_pos (by simp; omega), req_pos (by omega), Int.toNat_natCast, Nat.zero_add, tab_get _ hi, Option.bind_some, e36, Option.bind_some]
      dsimp only
      rw [if_neg (by decide), if_neg (by simp), req_pos (by rw [w64_in (by omega)]; omega), show w64 ((t : Int) - i) = ((t - i : Nat) : Int) by rw [w64_in (by omega)]; omega, Int.toNat_natCast, Nat.zero_add, tab_get _ (by omega), Option.bind_some, esym, if_neg (by simp)]
      have hs1 : sumT (W a b) (i + 1) = sumT (W a b) i + W a b i := rfl
      have hwp := W_pos a b i
      rw [w64_succ (by omega), w64_in (n := sumT (W a b) i + W a b i) (by omega), ← hs1, show t + 1 - i = (t + 1 - (i + 1)) + 1 by omega, pos]
      unfold f6_p9_1
      by_cases hw : W a b i > 0
      · rw [if_pos (by simpa using hw), if_pos hw, req_pos (by simp; omega), Option.bind_some, ih (i + 1) _ (by omega) (by omega) (by simp; omega)]
        simp
      · rw [if_neg (by simpa using hw), if_neg hw, Option.bind_some, ih (i + 1) _ (by omega) (by omega) (by omega)]
    · have : i = t + 1 := by omega
      subst this
      rw [if_neg (by simp), Nat.sub_self]
      simp [pos]

theorem pos_none {g : Nat → Int} : ∀ m i, (∀ y, i ≤ y → g y = 0) → pos g i m = []
  | 0, _, _ => rfl
  | m + 1, i, h => by rw [pos, if_neg (by rw [h i (by omega)]; decide), pos_none m (i + 1) fun y hy => h y (by omega)]
theorem pos_cut {g : Nat → Int} : ∀ m i r, (∀ y, i + m ≤ y → g y = 0) → pos g i (m + r) = pos g i m
  | 0, i, r, h => by rw [Nat.zero_add, pos_none r i fun y hy => h y (by omega)]; rfl
  | m + 1, i, r, h => by rw [show m + 1 + r = (m + r) + 1 by omega, pos, pos, pos_cut m (i + 1) r fun y hy => h y (by omega)]

theorem f6_p12_eq {F : Nat} (w : f16 F = some true) {x4 x33 x34 : Int} {l : List Int} (hl : l.length ≤ 1001) {n : Int} (hn : Int.tmod (w64 x4) 1001 = n) : ∀ (k i : Nat), i ≤ l.length → l.length < k + i →
    (∀ v, lnx n (l.drop i) = some v → x33 = v ∧ x34 = 0) → f6_p12 F x4 x33 x34 l k i = some (match lnx n (l.drop i) with | some _ => .c0 true | none => .c1) := by
  intro k
  induction k with
  | zero => intro i _ h; omega
  | succ k ih =>
    intro i h1 h2 h3
    unfold f6_p12
    rw [hn]
    by_cases hi : i < l.length
    · rw [drop_cons hi, lnx] at h3
      rw [if_pos (by simp; omega), req_pos (by omega), Int.toNat_natCast, Nat.zero_add, List.getElem?_eq_getElem hi, Option.bind_some, drop_cons hi, lnx]
      by_cases hx : l[i] ≥ n
      · rw [if_pos hx] at h3
        obtain ⟨e1, e2⟩ := h3 _ rfl
        rw [if_pos (by simpa using hx), if_pos hx, e1, e2, if_pos (by decide), if_pos (by simp), w]
        rfl
      · rw [if_neg hx] at h3
        rw [if_neg (by simpa using hx), if_neg hx, w64_succ (by omega)]
        exact ih (i + 1) (by omega) (by omega) h3
    · rw [if_neg (by simp; omega), List.drop_eq_nil_of_le (by omega)]
      rfl

theorem f6_plain (z t : List Int) (c m : Int) (hz : z.length = 4) (hzr : ∀ x ∈ z, 0 ≤ x ∧ x ≤ 255) (ht : t.length = 4) (htr : ∀ x ∈ t, 0 ≤ x ∧ x ≤ 255) (hc : 0 ≤ c ∧ c ≤ 255) (hm : 0 ≤ m ∧ m ≤ 65535) : f6 1100 z t c m = some true := by
  obtain ⟨a, b, e1, hst, h4, hsz, hsb⟩ := made_eq (sz := 30) (st := 6) hz hzr ht htr (by omega) (by omega) hc
  have hab := Good.of hst
  have hl := hab.len
  have hpos : ∀ x ∈ a, (0 : Int) ≤ x := fun x hx => by have := hsz x hx; omega
  have hT := tot_le a b (fun x hx => by have := hsz x hx; omega) hsb
  have hT0 := tot_nonneg a b hpos
  have hC : cntT a b ≤ 100000 := by
    have := cntT_le a b hsb
    have := pow7 h4
    omega
  obtain ⟨T, eT⟩ : ∃ T : Nat, tot a b = T := ⟨(tot a b).toNat, by omega⟩
  have e2 := f6_p1_eq (F := 1100) (x4 := m) hl (fun x hx => by have := hsz x hx; omega) hsb (by omega) 1100 0 0 (by omega) (by omega) (by omega) (by omega)
  rw [List.drop_zero, List.drop_zero, Int.zero_add, eT] at e2
  have et : w64 ((T : Int) + 1) = ((T + 1 : Nat) : Int) := w64_succ (by omega)
  have e3 := f45_eq (F := 1100) (by omega) hab (N := T + 1) (by omega) (by omega) hC
  have e4 : tab (T + 1) (fun y => uf a b y) = tab (T + 1) (W a b) := tab_congr fun y _ => (W_uf hpos y).symm
  rw [e4] at e3
  have e5 := f6_p5_eq (F := 1100) (x4 := m) (x13 := cntT a b) (by omega) hst eT (by omega) hC 1100 0 [] (by omega) (by omega) (by simp)
  have hsum : sumT (W a b) (T + 1) = cntT a b := by
    have := sum_uf (N := T + 1) a b 0 hpos (by omega) (by omega)
    rw [← this]
    exact sumT_congr _ fun y _ => by rw [W_uf hpos, show (y : Int) - 0 = y by omega]
  have hcut : pos (W a b) 0 (T + 1) = pos (W a b) 0 1001 := by
    have := pos_cut (g := W a b) (T + 1) 0 (1001 - (T + 1)) fun y hy => by
      rw [W_uf hpos]; exact uf_big hpos (by omega)
    rw [← this]; congr 1; omega
  have etots : tots a b = pos (W a b) 0 1001 := by unfold tots; rw [if_pos hst]
  have hmod : Int.tmod (w64 m) 1001 = m % 1001 := by rw [w64_in (by omega), Int.tmod_eq_emod_of_nonneg (by omega)]
  have hm0 := Int.emod_nonneg m (b := 1001) (by omega)
  have hm1 := Int.emod_lt_of_pos m (b := 1001) (by omega)
  have hod : od a b (m % 1001) = 0 := by
    unfold od
    rw [if_pos hst, if_pos (by omega)]
  have e6 : f40 1100 a b (Int.tmod (w64 m) 1001) = some (lea a b (m % 1001)) := by rw [hmod, f40_eq (by omega) (by omega)]
  have elea : lea a b (m % 1001) = (match lnx (m % 1001) (pos (W a b) 0 1001) with | some v => (v, 0) | none => (0, 12)) := by
    unfold lea
    rw [if_pos hod, lnx_pos]
    cases nxt (W a b) (m % 1001) 0 1001 <;> rfl
  have hplen := pos_len (W a b) 1001 0
  unfold f6
  rw [e1, Option.bind_some]
  dsimp only
  rw [show f6_p1 1100 m a b 1100 0 0 = some (T : Int) from e2, Option.bind_some, et, req_pos (by omega), Int.toNat_natCast, e3, Option.bind_some]
  dsimp only
  rw [show f6_p5 1100 m a b T (tab (T + 1) (W a b)) (cntT a b) 1100 0 0 [] = _ from e5, Option.bind_some, hsum, Nat.sub_zero, List.nil_append, hcut]
  dsimp only
  rw [f38_eq (by omega) (by omega), Option.bind_some, etots, hst]
  dsimp only
  rw [if_neg (by decide), take0, f23_eq (by omega) (by omega), Option.bind_some, if_pos (by simp), if_neg (by simp), e6, Option.bind_some, elea]
  have e7 := fun x33 x34 => f6_p12_eq (F := 1100) works (x4 := m) (x33 := x33) (x34 := x34) (l := pos (W a b) 0 1001) hplen hmod 1100 0 (by omega) (by omega)
  rw [List.drop_zero] at e7
  cases hln : lnx (m % 1001) (pos (W a b) 0 1001) with
  | some v =>
    rw [hln] at e7
    have e8 := e7 v 0 (fun u hu => by cases hu; exact ⟨rfl, rfl⟩)
    dsimp only
    rw [show f6_p12 1100 m v 0 (pos (W a b) 0 1001) 1100 0 = _ from e8, Option.bind_some]
  | none =>
    rw [hln] at e7
    have e8 := e7 0 12 (fun u hu => by cases hu)
    dsimp only
    rw [show f6_p12 1100 m 0 12 (pos (W a b) 0 1001) 1100 0 = _ from e8, Option.bind_some]
    dsimp only
    rw [if_pos (by decide), if_pos (by decide), works]
    rfl

end Go.Gh.Pack
