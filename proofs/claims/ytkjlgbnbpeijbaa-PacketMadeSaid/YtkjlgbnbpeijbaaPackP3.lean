/- Packet: what can be made is what can be filled; the plain law of PacketMade. -/
import Derived.Test.YtkjlgbnbpeijbaaPackB3
namespace Go.Gh.Pack
set_option linter.unusedVariables false
set_option linter.unusedSimpArgs false

theorem full_good {a : List Int} (hck : ck a = 0) {n : Nat} (hn : n ≤ 1000) : GoodM a (full n a) := by
 obtain ⟨c1, c2, _⟩ := ck_zero hck
 exact ⟨full_len n a, c2, ck_all hck, fun x hx => by
  obtain ⟨s, _, rfl⟩ := List.mem_map.1 hx
  have := Nat.div_le_self n s.toNat
  generalize n / s.toNat = z at *
  omega⟩
theorem fillL_len : ∀ (a b : List Int) (n : Nat), (fillL a b n).length ≤ a.length
 | [], b, n => by cases b <;> simp [fillL]
 | _ :: _, [], n => by simp [fillL]
 | s :: a, c :: b, n => by
  have := fillL_len a b (n - ma s.toNat (fw a b) c.toNat n * s.toNat)
  simp only [fillL, List.length_cons]; omega

def wsm : List Int → List Nat → Nat
 | s :: a, x :: l => x * s.toNat + wsm a l
 | _, _ => 0
theorem wsm_zero : ∀ a : List Int, wsm a (List.replicate a.length 0) = 0
 | [] => rfl
 | s :: a => by
  have := wsm_zero a
  simp only [List.length_cons, List.replicate_succ, wsm]
  omega
theorem wsm_inc {s : Int} : ∀ (a : List Int) (l : List Nat), s ∈ a → l.length = a.length → ∃ l' : List Nat, l'.length = a.length ∧ wsm a l' = wsm a l + s.toNat
 | [], _, h, _ => by cases h
 | _ :: _, [], _, h => by simp at h
 | t :: a, x :: l, h, hl => by
  by_cases e : s = t
  ·subst e
   exact ⟨(x + 1) :: l, by simpa using hl, by simp only [wsm, Nat.add_mul, Nat.one_mul]; omega⟩
  ·obtain ⟨l', h1, h2⟩ := wsm_inc a l (by simpa [e] using h) (by simpa using hl)
   exact ⟨x :: l', by simpa using h1, by simp only [wsm, h2]; omega⟩
theorem Md.wsm {a : List Int} {n : Nat} (h : Md a n) : ∃ l : List Nat, l.length = a.length ∧ Pack.wsm a l = n := by
 induction h with
 | zero => exact ⟨_, by simp, wsm_zero a⟩
 | add hs _ ih =>
  obtain ⟨l, h1, h2⟩ := ih
  obtain ⟨l', h3, h4⟩ := wsm_inc a l hs h1
  exact ⟨l', h3, by rw [h4, h2]⟩
theorem wsm_isF {N : Nat} : ∀ (a : List Int) (l : List Nat), (∀ x ∈ a, 1 ≤ x) → l.length = a.length → wsm a l ≤ N → IsF a (full N a) (l.map fun (x : Nat) => (x : Int)) (wsm a l)
 | [], [], _, _, _ => rfl
 | [], _ :: _, _, h, _ => by simp at h
 | _ :: _, [], _, h, _ => by simp at h
 | s :: a, x :: l, ha, hl, hN => by
  have hs := ha s (by simp)
  have hN : x * s.toNat + wsm a l ≤ N := hN
  have ih := wsm_isF (N := N) a l (fun y hy => ha y (by simp [hy])) (by simpa using hl) (by omega)
  have hx : x ≤ N / s.toNat := (Nat.le_div_iff_mul_le (by omega)).2 (by omega)
  show 0 ≤ (x : Int) ∧ (x : Int) ≤ ((N / s.toNat : Nat) : Int) ∧ (x : Int).toNat * s.toNat ≤ x * s.toNat + wsm a l ∧ IsF a (full N a) _ (x * s.toNat + wsm a l - (x : Int).toNat * s.toNat)
  rw [Int.toNat_natCast, Nat.add_sub_cancel_left]
  exact ⟨by omega, by omega, by omega, ih⟩
theorem isF_md {A : List Int} : ∀ (a b l : List Int) (n : Nat), (∀ x ∈ a, x ∈ A) → IsF a b l n → Md A n
 | s :: a, c :: b, x :: l, n, hA, h => by
  obtain ⟨h1, h2, h3, h4⟩ := h
  have ih := isF_md a b l _ (fun y hy => hA y (by simp [hy])) h4
  have := ih.times (hA s (by simp)) x.toNat
  rwa [Nat.sub_add_cancel h3] at this
 | [], [], [], n, _, h => by
  have : n = 0 := h
  subst this; exact .zero
 | [], [], _ :: _, _, _, h => h.elim
 | [], _ :: _, _, _, _, h => h.elim
 | _ :: _, [], _, _, _, h => h.elim
 | _ :: _, _ :: _, [], _, _, h => h.elim
theorem fw_md {a : List Int} (hck : ck a = 0) {n : Nat} (hn : n ≤ 1000) : Md a n ↔ fw a (full n a) n ≠ 1001 := by
 have ha := ck_all hck
 constructor
 ·intro h
  obtain ⟨l, h1, h2⟩ := h.wsm
  have h3 := wsm_isF (N := n) a l (fun x hx => (ha x hx).1) h1 (by omega)
  rw [h2] at h3
  have h4 := opt1 _ _ _ _ h3
  have h5 := pk_le _ _ _ _ (fun x hx => (ha x hx).1) h3
  omega
 ·intro h
  have h1 := fw_bd a (full n a) n
  obtain ⟨h2, _⟩ := opt2 a (full n a) n (full_len n a).symm (fun x hx => ((full_good hck hn).st x hx).1) (by omega)
  exact isF_md a _ _ _ (fun x hx => hx) h2

theorem f62_any {F : Nat} {e n : Int} : f62 F e n = some (if e = 0 then (if 0 ≤ n ∧ n ≤ 1000 then 0 else 1) else e) := by
 unfold f62
 by_cases h : e = 0
 ·subst h
  rw [if_pos (by decide), f69_eq, Option.bind_some, if_pos rfl]
  unfold f62_p0
  by_cases hn : 0 ≤ n ∧ n ≤ 1000
  ·rw [decide_eq_true hn, if_pos rfl, if_pos hn]; rfl
  ·rw [decide_eq_false hn, if_neg (by decide), if_neg hn]; rfl
 ·rw [if_neg (by simpa using h), if_neg h]

theorem f64_eq {F n : Nat} {a : List Int} (hF : 10 ≤ F) (hn : n ≤ 1000) (ha : ∀ x ∈ a, 1 ≤ x ∧ x ≤ 30) (h5 : a.length ≤ 5) : f64 F a n = some (full n a) := by
 have key : ∀ (k i : Nat) (acc : List Int), i ≤ a.length → a.length < k + i → acc.length ≤ i → f64_p1 F a n k i acc = some (acc ++ full n (a.drop i)) := by
  intro k
  induction k with
  | zero => intro i acc _ h; omega
  | succ k ih =>
   intro i acc h1 h2 h3
   unfold f64_p1
   by_cases hi : i < a.length
   ·have hs := ha _ (List.getElem_mem hi)
    obtain ⟨s, es⟩ : ∃ s : Nat, a[i] = s := ⟨a[i].toNat, by omega⟩
    have e : w64 (Int.tdiv (n : Int) (s : Int)) = ((n / s : Nat) : Int) := by
     rw [Int.tdiv_eq_ediv_of_nonneg (by omega), ← Int.natCast_ediv, w64_nat (by have := Nat.div_le_self n s; omega)]
    rw [if_pos (by rw [decide_eq_true_eq]; omega), at_get hi, Option.bind_some, es, req_pos (by omega), e, req_pos (by simp; omega), w64_succ (by omega), ih (i + 1) _ (by omega) (by omega) (by simp; omega), drop_cons hi, es]
    simp [full]
   ·rw [if_neg (by rw [decide_eq_true_eq]; omega), List.drop_eq_nil_of_le (by omega)]
    simp [full]
 have := key F 0 [] (by omega) (by omega) (by simp)
 rw [List.drop_zero, List.nil_append] at this
 unfold f64
 rw [show f64_p1 F a n F 0 [] = _ from this, Option.bind_some, take0]

def cd (a : List Int) (n : Int) : Int := if ck a = 0 then (if 0 ≤ n ∧ n ≤ 1000 then 0 else 1) else ck a
theorem cd_zero {a : List Int} {n : Int} (h : cd a n = 0) : ck a = 0 ∧ 0 ≤ n ∧ n ≤ 1000 := by
 unfold cd at h
 split at h
 ·rename_i h1
  split at h
  ·rename_i h2; exact ⟨h1, h2⟩
  ·omega
 ·rename_i h1; exact absurd h h1
theorem f60_bad {a : List Int} {n : Int} (h : cd a n ≠ 0) : f60 2100 a n = some ([], cd a n) := by
 unfold cd at h ⊢
 unfold f60
 rw [f26_eq (by omega), Option.bind_some]
 by_cases h1 : ck a = 0
 ·rw [if_pos h1] at h ⊢
  rw [if_neg (by simpa using h1), f67_eq, Option.bind_some]
  by_cases h2 : 0 ≤ n ∧ n ≤ 1000
  ·rw [if_pos h2] at h; exact absurd rfl h
  ·rw [decide_eq_false h2, if_neg (by decide), if_neg h2]
 ·rw [if_pos (by simpa using h1), if_neg h1]
theorem f18_bad {a : List Int} {n : Int} (h : cd a n ≠ 0) : f18 2100 a n = some (false, cd a n) ∧ f20 2100 a n = some ([], cd a n) := by
 have e : f62 2100 (ck a) n = some (cd a n) := f62_any
 constructor
 ·unfold f18
  rw [f27_eq (by omega), Option.bind_some, e, Option.bind_some, if_pos (by simpa using h)]
 ·unfold f20
  rw [f27_eq (by omega), Option.bind_some, e, Option.bind_some, if_pos (by simpa using h)]
theorem f18_good {a : List Int} {n : Nat} (hck : ck a = 0) (hn : n ≤ 1000) : f18 2100 a n = some ((fillR a (full n a) n).2 == 0, 0) ∧ f20 2100 a n = some (fillR a (full n a) n) := by
 have e : f62 2100 (ck a) n = some 0 := by rw [f62_any, if_pos hck, if_pos (by omega)]
 obtain ⟨c1, c2, _⟩ := ck_zero hck
 have e1 := f64_eq (F := 2100) (by omega) hn (ck_all hck) c2
 have e2 := f63_eq (F := 2100) (by omega) hn (full_good hck hn) c1
 constructor
 ·unfold f18
  rw [f27_eq (by omega), Option.bind_some, e, Option.bind_some, if_neg (by decide), e1, Option.bind_some, e2, Option.bind_some]
 ·unfold f20
  rw [f27_eq (by omega), Option.bind_some, e, Option.bind_some, if_neg (by decide), e1, Option.bind_some, e2, Option.bind_some]
theorem can_eq {a : List Int} {n : Nat} (hck : ck a = 0) (hn : n ≤ 1000) : ((fillR a (full n a) n).2 == 0) = true ↔ Md a n := by
 rw [fw_md hck hn]
 unfold fillR
 by_cases h : fw a (full n a) n = 1001
 ·rw [if_pos h]; simp [h]
 ·rw [if_neg h]; simp [h]

theorem pair1 (a : List Int) (n : Int) : ∃ z e, f17 2100 a n = some (z, e) ∧ f18 2100 a n = some (z, e) := by
 by_cases h : cd a n = 0
 ·obtain ⟨h1, h2, h3⟩ := cd_zero h
  obtain ⟨m, rfl⟩ : ∃ m : Nat, n = m := ⟨n.toNat, by omega⟩
  obtain ⟨z, e1, e2⟩ := f17_eq (n := m) h1 (by omega)
  refine ⟨z, 0, e1, ?_⟩
  rw [(f18_good h1 (by omega)).1]
  have : ((fillR a (full m a) m).2 == 0) = z := by rw [Bool.eq_iff_iff, can_eq h1 (by omega), e2]
  rw [this]
 ·refine ⟨false, cd a n, ?_, (f18_bad h).1⟩
  unfold f17
  rw [f60_bad h, Option.bind_some]
  dsimp only
  rw [if_neg (by simpa using h)]
theorem fillR_len (a b : List Int) (n : Nat) : (fillR a b n).1.length ≤ a.length := by
 unfold fillR
 split
 ·simp
 ·exact fillL_len a b n
theorem pair2 (a : List Int) (n : Int) : ∃ l e, f19 2100 a n = some (l, e) ∧ f20 2100 a n = some (l, e) ∧ l.length ≤ 1000 := by
 by_cases h : cd a n = 0
 ·obtain ⟨h1, h2, h3⟩ := cd_zero h
  obtain ⟨c1, c2, _⟩ := ck_zero h1
  obtain ⟨m, rfl⟩ : ∃ m : Nat, n = m := ⟨n.toNat, by omega⟩
  have := fillR_len a (full m a) m
  exact ⟨(fillR a (full m a) m).1, (fillR a (full m a) m).2, f19_eq h1 (by omega), (f18_good h1 (by omega)).2, by omega⟩
 ·refine ⟨[], cd a n, ?_, (f18_bad h).2, by simp⟩
  unfold f19
  rw [f60_bad h, Option.bind_some]
  dsimp only
  rw [if_pos (by simpa using h)]
theorem pair3 (a : List Int) (n : Int) : ∃ p q e, f21 2100 a n = some (p, q, e) ∧ f22 2100 a n = some (p, q, e) := by
 by_cases h : cd a n = 0
 ·obtain ⟨h1, h2, h3⟩ := cd_zero h
  obtain ⟨c1, c2, _⟩ := ck_zero h1
  obtain ⟨m, rfl⟩ : ∃ m : Nat, n = m := ⟨n.toNat, by omega⟩
  obtain ⟨b, L, hF⟩ := First.of h1
  obtain ⟨g1, g2⟩ := f21_eq h1 hF (n := m) (by omega)
  have g3 := (f18_good h1 (n := m) (by omega)).1
  have g4 := can_eq h1 (n := m) (by omega)
  by_cases hm : Md a m
  ·refine ⟨0, 0, 13, g1 hm, ?_⟩
   unfold f22
   rw [g3, g4.2 hm, Option.bind_some]
   rfl
  ·refine ⟨_, _, _, g2 hm, ?_⟩
   have hz : ((fillR a (full m a) m).2 == 0) = false := by
    cases hh : ((fillR a (full m a) m).2 == 0) with
    | false => rfl
    | true => exact absurd (g4.1 hh) hm
   have hlo := hF.lo
   have hl := hF.ring.len
   have hq := Nat.mod_lt m hF.lo
   have hmod : Int.tmod (m : Int) (b : Int) = ((m % b : Nat) : Int) := by rw [Int.tmod_eq_emod_of_nonneg (by omega), Int.natCast_emod]
   have h0 : a[0]? = some (b : Int) := by
    have := hF.at0
    rw [show at? a 0 = some a[0] from at_get c1] at this
    rw [List.getElem?_eq_getElem c1, this]
   have e5 := f66_eq h1 h0 hF.ring
   unfold f22
   rw [g3, hz, Option.bind_some]
   dsimp only
   rw [if_pos (by decide)]
   unfold f22_p0
   rw [if_neg (by decide), Option.bind_some, if_neg (by decide), hF.at0, Option.bind_some, req_pos (by omega), show f66 2100 a 0 = some L from e5, Option.bind_some, hmod, at_get (by omega), Option.bind_some, nt_get (by omega)]
 ·refine ⟨0, 0, cd a n, ?_, ?_⟩
  ·unfold f21
   rw [f60_bad h, Option.bind_some]
   dsimp only
   rw [if_pos (by simpa using h)]
  ·unfold f22
   rw [(f18_bad h).1, Option.bind_some]
   dsimp only
   rw [if_neg (by simpa using h)]
theorem pair4 (a : List Int) (i : Int) (ha : a.length ≤ 40) : ∃ l e, f24 2100 a i = some (l, e) ∧ f25 2100 a i = some (l, e) ∧ l.length ≤ 1000 := by
 have ew : w64 (((List.length a : Nat) : Int) - 1) = (a.length : Int) - 1 := w64_in (by omega)
 by_cases h : ck a = 0
 ·by_cases hi : 0 ≤ i ∧ i ≤ (a.length : Int) - 1
  ·obtain ⟨k, rfl⟩ : ∃ k : Nat, i = k := ⟨i.toNat, by omega⟩
   have hk : k < a.length := by omega
   have hb := ck_all h _ (List.getElem_mem hk)
   obtain ⟨b, eb⟩ : ∃ b : Nat, a[k] = b := ⟨a[k].toNat, by omega⟩
   have hkb : a[k]? = some (b : Int) := by rw [List.getElem?_eq_getElem hk, eb]
   obtain ⟨L, e1, hR⟩ := f24_eq h hkb
   refine ⟨L, 0, e1, ?_, by rw [hR.len]; omega⟩
   unfold f25
   rw [f27_eq (by omega), Option.bind_some, h, if_pos (by decide), f69_eq, Option.bind_some, ew, decide_eq_true hi]
   unfold f25_p0
   rw [if_pos rfl, Option.bind_some, if_neg (by decide), f66_eq h hkb hR, Option.bind_some]
  ·refine ⟨[], 2, ?_, ?_, by simp⟩
   ·unfold f24
    rw [f26_eq (by omega), Option.bind_some, h, if_neg (by decide), f67_eq, Option.bind_some, ew, decide_eq_false hi, if_neg (by decide)]
   ·unfold f25
    rw [f27_eq (by omega), Option.bind_some, h, if_pos (by decide), f69_eq, Option.bind_some, ew, decide_eq_false hi]
    rfl
 ·refine ⟨[], ck a, ?_, ?_, by simp⟩
  ·unfold f24
   rw [f26_eq (by omega), Option.bind_some, if_pos (by simpa using h)]
  ·unfold f25
   rw [f27_eq (by omega), Option.bind_some, if_neg (by simpa using h)]

theorem f3_plain (a : List Int) (n i : Int) : f3 2100 a n i = some true := by
 obtain ⟨z, e0, hz⟩ := f15_eq (F := 2100) a [] []
 have ew := works
 unfold f3
 rw [e0, Option.bind_some]
 cases z with
 | true => rw [if_pos rfl, ew]; rfl
 | false =>
  obtain ⟨ha, _⟩ := hz rfl
  obtain ⟨z1, c1, g1, g2⟩ := pair1 a n
  obtain ⟨l2, c2, g3, g4, hl2⟩ := pair2 a n
  obtain ⟨p3, q3, c3, g5, g6⟩ := pair3 a n
  obtain ⟨l4, c4, g7, g8, hl4⟩ := pair4 a i ha
  have t2 := f23_eq (F := 2100) (a := l2) (b := l2) (by omega) (by omega)
  have t4 := f23_eq (F := 2100) (a := l4) (b := l4) (by omega) (by omega)
  have g9 := f26_eq (F := 2100) (l := a) (by omega)
  have g10 := f27_eq (F := 2100) (l := a) (by omega)
  simp only [g1, g2, g3, g4, g5, g6, g7, g8, g9, g10, t2, t4, ew, Option.bind_some, Bool.false_eq_true, if_false, beq_self_eq_true, bne_self_eq_false, if_true, decide_true]

end Go.Gh.Pack
