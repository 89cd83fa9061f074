/- The plain law of PacketFills. -/
import Derived.Test.YtkjlgbnbpeijbaaPackB13
namespace Go.Gh.Pack
set_option linter.unusedVariables false
set_option linter.unusedSimpArgs false

theorem f62_od {F : Nat} {a b : List Int} {n : Int} : f62 F (stk a b) n = some (od a b n) := f62_eq
theorem fillL_len : ∀ (a b : List Int) (n : Nat), (fillL a b n).length ≤ a.length
 | [], b, n => by cases b <;> simp [fillL]
 | _ :: _, [], n => by simp [fillL]
 | s :: a, c :: b, n => by
  have := fillL_len a b (n - ma s.toNat (fw a b) c.toNat n * s.toNat)
  simp only [fillL, List.length_cons]; omega
theorem fillR_len (a b : List Int) (n : Nat) : (fillR a b n).1.length ≤ a.length := by
 unfold fillR
 split
 ·simp
 ·exact fillL_len a b n
theorem fills (a b : List Int) (n : Int) (hb : b.length ≤ 40) : ∃ l e, f51 2100 a b n = some (l, e) ∧ f56 2100 a b n = some (l, e) ∧ l.length ≤ 1000 := by
 have e1 := f51_eq (F := 2100) (by omega) (a := a) (n := n) hb
 have e2 := f75_eq (F := 2100) (a := a) (by omega) hb
 unfold f56
 rw [e2, Option.bind_some, f62_od, Option.bind_some]
 by_cases h : od a b n = 0
 ·obtain ⟨h1, h2, h3⟩ := od_zero h
  obtain ⟨m, rfl⟩ : ∃ m : Nat, n = m := ⟨n.toNat, by omega⟩
  obtain ⟨k1, _, _⟩ := stk_zero h1
  obtain ⟨c1, c2, _⟩ := ck_zero k1
  have := fillR_len a b m
  rw [if_pos h, Int.toNat_natCast] at e1
  refine ⟨(fillR a b m).1, (fillR a b m).2, e1, ?_, by omega⟩
  rw [if_neg (by simpa using h), f63_eq (by omega) (by omega) (Good.of h1).m c1, Option.bind_some]
 ·rw [if_neg h] at e1
  exact ⟨[], od a b n, e1, by rw [if_pos (by simpa using h)], by simp⟩

theorem loops {a b l : List Int} {n : Int} (hab : Good a b) (hl : l.length = a.length) (hn : 0 ≤ n ∧ n ≤ 1000) : ∀ (k i : Nat) (sm : Int), i ≤ a.length → a.length + 1 < k + i → 0 ≤ sm → sm ≤ 1200 * i →
  (f57_p4 2100 l a b k (n - sm) i = some .c0 ∧ ∃ v, f58_p2 2100 a b n l k 0 sm i = some (1, v)) ∨ ∃ v, f57_p4 2100 l a b k (n - sm) i = some (.c1 (n - v)) ∧ f58_p2 2100 a b n l k 0 sm i = some (0, v) := by
 have hbl := hab.len
 have h5 := hab.five
 intro k
 induction k with
 | zero => intro i sm _ h; omega
 | succ k ih =>
  intro i sm h1 h2 h3 h4
  unfold f57_p4 f58_p2
  by_cases hi : i < a.length
  ·have hs := hab.sz _ (List.getElem_mem hi)
   have hb := hab.st _ (List.getElem_mem (show i < b.length by omega))
   have hin : (decide (((i : Nat) : Int) < ((List.length l : Nat) : Int))) = true := by rw [decide_eq_true_eq]; omega
   rw [if_pos hin, if_pos hin, at_get (show i < l.length by omega), Option.bind_some, at_get (show i < b.length by omega), Option.bind_some, f67_eq, Option.bind_some, if_pos (show ((0 : Int) == 0) = true from rfl), Option.bind_some, Option.bind_some, f69_eq, Option.bind_some]
   unfold f58_p5
   by_cases hx : 0 ≤ l[i] ∧ l[i] ≤ b[i]
   ·obtain ⟨x, ex⟩ : ∃ x : Nat, l[i] = x := ⟨(l[i]).toNat, by omega⟩
    obtain ⟨s, es⟩ : ∃ s : Nat, a[i] = s := ⟨(a[i]).toNat, by omega⟩
    have hxs : x * s ≤ 40 * 30 := Nat.mul_le_mul (by omega) (by omega)
    have e : w64 (l[i] * a[i]) = ((x * s : Nat) : Int) := by rw [ex, es, ← Int.natCast_mul, w64_nat (by omega)]
    rw [decide_eq_true hx, if_pos rfl, if_pos rfl, at_get hi, Option.bind_some, at_get (show i < l.length by omega), Option.bind_some, Option.bind_some, e, w64_succ (by omega), Option.bind_some, w64_in (n := n - sm - ((x * s : Nat) : Int)) (by omega), w64_in (n := sm + ((x * s : Nat) : Int)) (by omega)]
    have := ih (i + 1) (sm + ((x * s : Nat) : Int)) (by omega) (by omega) (by omega) (by omega)
    rw [show n - (sm + ((x * s : Nat) : Int)) = n - sm - ((x * s : Nat) : Int) by omega] at this
    exact this
   ·rw [decide_eq_false hx, if_neg (by decide), if_neg (by decide), Option.bind_some]
    refine Or.inl ⟨rfl, sm, ?_⟩
    dsimp only
    obtain ⟨k', rfl⟩ : ∃ k', k = k' + 1 := ⟨k - 1, by omega⟩
    unfold f58_p2
    split
    ·rw [if_neg (by decide)]
    ·rfl
  ·have hin : ¬ (decide (((i : Nat) : Int) < ((List.length l : Nat) : Int))) = true := by rw [decide_eq_true_eq]; omega
   rw [if_neg hin, if_neg hin]
   exact Or.inr ⟨sm, rfl, rfl⟩
theorem f58_p2_stop {F : Nat} {a b l : List Int} {n e s : Int} (he : e ≠ 0) (k : Nat) (i : Int) : f58_p2 F a b n l (k + 1) e s i = some (e, s) := by
 unfold f58_p2
 split
 ·rw [if_neg (by simpa using he)]
 ·rfl
theorem f58_p2_1_stop {F : Nat} {a b l : List Int} {n e s : Int} (he : e ≠ 0) (k : Nat) (i : Int) : f58_p2_1 F a b n l (k + 1) e s i = some (e, s) := by
 unfold f58_p2_1
 split
 ·rw [if_neg (by simpa using he)]
 ·rfl
theorem verify (a b l : List Int) (n : Int) (hb : b.length ≤ 40) : ∃ e, f57 2100 a b n l = some e ∧ f58 2100 a b n l = some e := by
 have e1 := f73_eq (F := 2100) (a := a) (n := n) (by omega) hb
 have e2 := f75_eq (F := 2100) (a := a) (by omega) hb
 unfold f57 f58
 rw [e1, e2, Option.bind_some, Option.bind_some, f62_od, Option.bind_some]
 by_cases h : od a b n = 0
 ·obtain ⟨h1, h2, h3⟩ := od_zero h
  have hab := Good.of h1
  have h5 := hab.five
  rw [if_pos h1, h]
  dsimp only
  rw [if_neg (show ¬ (((0 : Int) != 0) = true) by decide), if_pos (show ((0 : Int) == 0) = true from rfl)]
  unfold f58_p0
  by_cases hl : l.length = a.length
  ·have hq : ¬ ((((List.length l : Nat) : Int) != ((List.length a : Nat) : Int)) = true) := by simp [hl]
   rw [if_neg hq, if_neg hq, Option.bind_some]
   have key := loops hab hl ⟨h2, h3⟩ 2100 0 0 (by omega) (by omega) (by omega) (by omega)
   rw [show n - 0 = n by omega] at key
   rcases key with ⟨k1, v, k2⟩ | ⟨v, k1, k2⟩
   ·refine ⟨1, ?_, ?_⟩
    ·rw [show f57_p4 2100 l a b 2100 n 0 = _ from k1, Option.bind_some]
    ·rw [show f58_p2 2100 a b n l 2100 0 0 0 = _ from k2, Option.bind_some]; rfl
   ·rw [show f57_p4 2100 l a b 2100 n 0 = _ from k1, Option.bind_some, show f58_p2 2100 a b n l 2100 0 0 0 = _ from k2, Option.bind_some]
    refine ⟨if v = n then 0 else 17, ?_, ?_⟩
    ·by_cases hv : v = n
     ·dsimp only
      rw [if_pos hv, if_neg (by simp [hv])]
     ·dsimp only
      rw [if_neg hv, if_pos (by rw [bne_iff_ne]; omega)]
    ·dsimp only
     rw [if_pos (show ((0 : Int) == 0) = true from rfl)]
     unfold f58_p6
     by_cases hv : v = n
     ·rw [if_pos hv, if_neg (by simp [hv])]; rfl
     ·rw [if_neg hv, if_pos (by rw [bne_iff_ne]; omega)]; rfl
  ·have hq : (((List.length l : Nat) : Int) != ((List.length a : Nat) : Int)) = true := by rw [bne_iff_ne]; omega
   rw [if_pos hq, if_pos hq, Option.bind_some, show f58_p2 2100 a b n l 2100 5 0 0 = _ from f58_p2_stop (by decide) 2099 0, Option.bind_some]
   exact ⟨5, rfl, rfl⟩
 ·refine ⟨od a b n, ?_, ?_⟩
  ·by_cases hs : stk a b = 0
   ·rw [if_pos hs]
    dsimp only
    rw [if_pos (by simpa using h)]
   ·rw [if_neg hs]
    dsimp only
    rw [if_pos (by simpa using h)]
  ·rw [if_neg (by simpa using h), show f58_p2_1 2100 a b n l 2100 (od a b n) 0 0 = _ from f58_p2_1_stop h 2099 0, Option.bind_some]
   dsimp only
   rw [if_neg (by simpa using h)]

theorem f13_plain (a b : List Int) (n : Int) (l : List Int) : f13 2100 a b n l = some true := by
 obtain ⟨z, e0, hz⟩ := f15_eq (F := 2100) a b l
 have ew := works
 unfold f13
 rw [e0, Option.bind_some]
 cases z with
 | true => rw [if_pos rfl, ew]; rfl
 | false =>
  obtain ⟨_, hb, _⟩ := hz rfl
  obtain ⟨l1, c1, g1, g2, hl1⟩ := fills a b n hb
  obtain ⟨c2, g3, g4⟩ := verify a b l n hb
  have t1 := f23_eq (F := 2100) (a := l1) (b := l1) (by omega) (by omega)
  simp only [g1, g2, g3, g4, t1, ew, Option.bind_some, Bool.false_eq_true, if_false, beq_self_eq_true, if_true, decide_true]

end Go.Gh.Pack
