/- TopSa: a fan that is begun by numbers is valid; where a kind is found. -/
import Derived.Test.YtcaphjiiaclndaaDoorTopFan
namespace Go.Gh.Top.Fnn
set_option linter.unusedVariables false
set_option linter.unusedSimpArgs false

theorem frs_mem {w : Bool} {l : List Int} {k : Nat} {q : Int} : ∀ i, q ∈ frs w l k i → ∃ m : Nat, q = (m : Int) ∧ m < i ∧ fitB w l k m = true
 | 0, h => by simp [frs] at h
 | i + 1, h => by
  simp only [frs, List.mem_append] at h
  rcases h with h | h
  ·obtain ⟨m, e, h1, h2⟩ := frs_mem i h
   exact ⟨m, e, by omega, h2⟩
  ·by_cases g : fitB w l k i = true
   ·rw [if_pos g] at h
    exact ⟨i, by simpa using h, by omega, g⟩
   ·rw [if_neg g] at h; cases h

theorem f34_p1_eq {F : Nat} (hF : 100 ≤ F) {n : Nat} (hn : 1 ≤ n ∧ n ≤ 8) {w : Bool} {ps : List Int} (hps : ps.length = 8) (hb : ∀ x ∈ ps, 0 ≤ x ∧ x ≤ 255) (a : Int) (b : Bool) :
  ∀ (m k f : Nat) (l : List Int), m < f → k + m = n + 1 → 1 ≤ k → Val (n : Int) w l → (∀ j : Int, (k : Int) ≤ j → j ≤ n → posF 0 l j = []) →
  ∃ l', f34_p1 F n w ps f k a b n w l = some (.c1 a b n w l') ∧ Val (n : Int) w l'
 | 0, k, f + 1, l, _, hk, _, v, _ => ⟨l, by rw [f34_p1, if_neg (by simp; omega)], v⟩
 | m + 1, k, f + 1, l, hf, hk, h1, v, hj => by
  have hlen := v.len
  have hc := code_zero.2 v
  have h0 := hj k (by omega) (by omega)
  have hrest : ∀ l', Val (n : Int) w l' → (∀ j : Int, ((k + 1 : Nat) : Int) ≤ j → j ≤ n → posF 0 l' j = []) → ∃ l'', f34_p1 F n w ps f ((k + 1 : Nat) : Int) a b n w l' = some (.c1 a b n w l'') ∧ Val (n : Int) w l'' :=
   fun l' v' h' => f34_p1_eq hF hn hps hb a b m (k + 1) f l' (by omega) (by omega) (by omega) v' h'
  have same := hrest l v fun j h2 h3 => hj j (by omega) h3
  have hx : ps[k - 1]? = some ps[k - 1] := List.getElem?_eq_getElem (by omega)
  have hxb := hb ps[k - 1] (List.getElem_mem _)
  have hfr : freeS n w l k = (frs w l k l.length, 0) := by
   unfold freeS; rw [if_pos hc, if_pos ⟨by omega, by omega⟩, if_pos h0, Int.toNat_natCast]
  rw [f34_p1, if_pos (by simp; omega), f73_eq hF (by omega), Option.bind_some, hfr]
  simp only []
  rw [if_neg (by decide), w64_nat (by omega)]
  by_cases g0 : frs w l k l.length = []
  ·rw [if_pos (by rw [g0]; rfl)]; exact same
  ·have hl0 : 0 < (frs w l k l.length).length := List.length_pos_iff.2 g0
   have hl1 := frs_len w l k l.length
   rw [if_neg (by simp; exact g0), w64_in (n := (k : Int) - 1) (by omega), show (k : Int) - 1 = ((k - 1 : Nat) : Int) by omega, req_pos (by omega), Int.toNat_natCast, Nat.zero_add, Nat.mul_one, hx, Option.bind_some]
   by_cases g1 : (Int.tmod ps[k - 1] 3 == 0) = true
   ·rw [if_pos g1]; exact same
   ·rw [if_neg g1, req_pos (by omega), tmod_byte hxb.1 hxb.2 (by omega)]
    obtain ⟨i, hi, ei⟩ : ∃ i : Nat, i < (frs w l k l.length).length ∧ ps[k - 1] % (((frs w l k l.length).length : Nat) : Int) = (i : Int) := by
     have q1 := Int.emod_nonneg ps[k - 1] (show (((frs w l k l.length).length : Nat) : Int) ≠ 0 by omega)
     have q2 := Int.emod_lt_of_pos ps[k - 1] (show (0 : Int) < (((frs w l k l.length).length : Nat) : Int) by omega)
     exact ⟨(ps[k - 1] % (((frs w l k l.length).length : Nat) : Int)).toNat, by omega, by omega⟩
    have hg : at? (frs w l k l.length) (i : Int) = some ((frs w l k l.length)[i]) := by
     unfold at?; rw [if_pos (by omega), Int.toNat_natCast, List.getElem?_eq_getElem hi]
    obtain ⟨p, ep, hp, hfit⟩ := frs_mem l.length (List.getElem_mem hi)
    have hft := fit_of hfit
    have hput : putS n w l k p = ((n : Int), w, set2 l p (p + dN w k) k, 0) := by
     have hm : mayS w l k p = 0 := by unfold mayS; rw [if_neg (by simpa using h0), if_neg (by omega), if_pos hfit]
     unfold putS
     rw [if_pos hc, if_pos ⟨by omega, by omega⟩, if_pos ⟨by omega, by omega⟩, Int.toNat_natCast, Int.toNat_natCast, if_pos hm]
    rw [ei, hg, Option.bind_some, ep, f74_eq hF (by omega), Option.bind_some, hput]
    simp only []
    rw [if_neg (by decide), if_neg (by simp), if_pos (by simp), w64_in (n := 2 * (n : Int)) (by omega), if_neg (by rw [set2_len]; simp; omega)]
    refine hrest (set2 l p (p + dN w k) (k : Int)) (put_val v ⟨h1, by omega⟩ h0 hfit) fun j h2 h3 => ?_
    rw [put_other v ⟨h1, by omega⟩ h0 hfit (by omega) (by omega)]
    exact hj j (by omega) h3

theorem f34_eq {F : Nat} (hF : 100 ≤ F) {n : Nat} (hn : 1 ≤ n ∧ n ≤ 8) (w : Bool) {ps : List Int} (hps : ps.length = 8) (hb : ∀ x ∈ ps, 0 ≤ x ∧ x ≤ 255) :
  ∃ l, f34 F n w ps = some ((n : Int), w, l, true) ∧ Val (n : Int) w l := by
 obtain ⟨l, h1, v⟩ := f34_p1_eq hF hn hps hb 0 false n 1 F (List.replicate (2 * n) 0) (w := w) (by omega) (by omega) (by omega) (empty_val hn) fun j h1 _ => empty_pos (by omega)
 refine ⟨l, ?_, v⟩
 unfold f34
 rw [w64_in (n := 2 * (n : Int)) (by omega), show (2 * (n : Int)).toNat = 2 * n by omega, req_pos (by omega), req_pos (by simp), List.drop_zero, Nat.zero_add, List.take_of_length_le (by simp), show f34_p1 F n w ps F 1 0 false n w (List.replicate (2 * n) 0) = _ from h1]
 rfl

theorem f36_p1_eq (F : Nat) (k : Int) : ∀ (s p : List Int) (f : Nat), s.length < f → p.length + s.length ≤ 1000 →
  f36_p1 F (p ++ s) k f p.length = some (match posF p.length s k with | [] => .c1 | i :: _ => .c0 i)
 | [], p, f + 1, _, _ => by simp [f36_p1, posF]
 | x :: s, p, f + 1, hf, hl => by
  simp only [List.length_cons] at hf hl
  have hlt : ((p.length : Int) < (((p ++ x :: s).length : Nat) : Int)) := by simp; omega
  have ih := f36_p1_eq F k s (p ++ [x]) f (by omega) (by simp; omega)
  simp only [List.append_assoc, List.singleton_append, List.length_append, List.length_singleton] at ih
  simp only [f36_p1, decide_eq_true hlt, if_true, at_mid, Option.bind_some, w64_nat (show p.length < 1000000 by omega), posF]
  by_cases h : x = k
  ·rw [if_pos (by simp [h]), if_pos h]
  ·rw [if_neg (by simp; exact fun e => h e.symm), if_neg h, ih]
   simp

theorem f36_eq {F : Nat} {l : List Int} (hF : l.length < F) (hl : l.length ≤ 1000) (k : Int) : f36 F l k = some ((posF 0 l k).headD (-1)) := by
 have h := f36_p1_eq F k l [] F hF (by simpa using hl)
 simp only [List.nil_append, List.length_nil, Int.natCast_zero] at h
 unfold f36
 rw [h, Option.bind_some]
 cases posF 0 l k <;> rfl

end Go.Gh.Top.Fnn
