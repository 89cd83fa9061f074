/- TopT: all orders that pay a sum: f17 counts those that never lack change. -/
import Derived.Test.YtcaphjiiaclndaaDoorTopW
namespace Go.Gh.Top
set_option linter.unusedVariables false
set_option linter.unusedSimpArgs false

def g : Nat → Nat → Nat → Nat → Int → Bool → Nat
  | 0, _, _, _, _, _ => 0
  | k + 1, left, c, m, cur, ok =>
    if left = 0 then (if ok then 1 else 0) else
      (if 0 < c then g k (left - 1) (c - 1) m (cur + 1) (ok && decide (0 ≤ cur + 1)) else 0) + (if 0 < m ∧ 1 < left then g k (left - 2) c (m - 1) (cur - 1) (ok && decide (0 ≤ cur - 1)) else 0)

theorem g_le : ∀ (k left c m : Nat) (cur : Int) (ok : Bool), g k left c m cur ok ≤ 2 ^ left := by
  intro k
  induction k with
  | zero => intros; simp [g]
  | succ k ih =>
    intro left c m cur ok
    unfold g
    by_cases h0 : left = 0
    · rw [if_pos h0]; subst h0; split <;> simp
    · rw [if_neg h0]
      have e : 2 ^ left = 2 ^ (left - 1) + 2 ^ (left - 1) := by
        rw [show left = (left - 1) + 1 by omega, Nat.pow_succ]; simp; omega
      have h1 : (if 0 < c then g k (left - 1) (c - 1) m (cur + 1) (ok && decide (0 ≤ cur + 1)) else 0) ≤ 2 ^ (left - 1) := by
        split
        · exact ih ..
        · exact Nat.zero_le _
      have h2 : (if 0 < m ∧ 1 < left then g k (left - 2) c (m - 1) (cur - 1) (ok && decide (0 ≤ cur - 1)) else 0) ≤ 2 ^ (left - 1) := by
        split
        · exact Nat.le_trans (ih ..) (Nat.pow_le_pow_right (by omega) (by omega))
        · exact Nat.zero_le _
      omega

def fin : List UInt8 → Int → Int
  | [], b => b
  | x :: l, b => fin l (if x = 99 then b + 1 else b - 1)
theorem fin_snoc (x : UInt8) : ∀ (l : List UInt8) (b : Int), fin (l ++ [x]) b = if x = 99 then fin l b + 1 else fin l b - 1
  | [], _ => rfl
  | _ :: l, b => by rw [List.cons_append, fin, fin, fin_snoc x l]
theorem stp_snoc (x : UInt8) : ∀ (l : List UInt8) (b : Int), stp (l ++ [x]) b = stp l b ++ [if x = 99 then fin l b + 1 else fin l b - 1]
  | [], _ => rfl
  | _ :: l, b => by rw [List.cons_append, stp, stp, fin, stp_snoc x l]; rfl
theorem okl_snoc (x : UInt8) (l : List UInt8) (b : Int) : okl (stp (l ++ [x]) b) = (okl (stp l b) && decide (0 ≤ (if x = 99 then fin l b + 1 else fin l b - 1))) := by
  rw [stp_snoc]; simp [okl]

theorem f17_eq {b : Int} (hb : 0 ≤ b ∧ b ≤ 20) : ∀ (k left c m : Nat) (l : List UInt8) (acc : Int), (∀ x ∈ l, cn x) → l.length + left ≤ 16 → left < k → c ≤ 100 → m ≤ 100 → 0 ≤ acc → acc + ((2 ^ left : Nat) : Int) ≤ 1000000000 →
    f17 1100 k (sb l) left c m b acc = some (acc + g k left c m (fin l b) (okl (stp l b))) := by
  intro k
  induction k with
  | zero => intro left c m l acc _ _ h; omega
  | succ k ih =>
    intro left c m l acc hl hn hk hc hm ha hA
    rw [f17, f17_b, g]
    have hp : 0 < 2 ^ left := Nat.two_pow_pos left
    by_cases h0 : left = 0
    · subst h0
      obtain ⟨r, e1, e2⟩ := f18_eq hl (by omega) hb
      rw [if_pos (by simp), if_pos rfl, e1, Option.bind_some]
      obtain ⟨r1, r2⟩ := r
      show (f17_p1 1100 r2 b acc).bind _ = _
      unfold f17_p1
      have e2 : (r2 == 12) = okl (stp l b) := e2
      rw [e2]
      cases okl (stp l b) with
      | true => rw [if_pos rfl, if_pos rfl, w64_in (by simp at hA; omega)]; rfl
      | false => rw [if_neg (by simp), if_neg (by simp)]; simp
    · have e : 2 ^ left = 2 ^ (left - 1) + 2 ^ (left - 1) := by
        rw [show left = (left - 1) + 1 by omega, Nat.pow_succ]; simp; omega
      rw [if_neg (by simp; omega), if_neg h0]
      have s1 : f17_p2 1100 (f17 1100 k) (sb l) left c m b acc = some (acc + ((if 0 < c then g k (left - 1) (c - 1) m (fin l b + 1) (okl (stp l b) && decide (0 ≤ fin l b + 1)) else 0 : Nat) : Int)) := by
        unfold f17_p2
        by_cases h1 : 0 < c
        · rw [if_pos (by simp; omega), if_pos h1, req_pos (by rw [sb_size, show ByteArray.size str1 = 1 from rfl]; omega), show sb l ++ str1 = sb (l ++ [99]) from rfl, show w64 ((left : Int) - 1) = ((left - 1 : Nat) : Int) by rw [w64_in (by omega)]; omega, show w64 ((c : Int) - 1) = ((c - 1 : Nat) : Int) by rw [w64_in (by omega)]; omega,
            ih (left - 1) (c - 1) m (l ++ [99]) acc (fun x hx => by rcases List.mem_append.1 hx with h | h; exact hl x h; simp at h; exact .inl h) (by simp; omega) (by omega) (by omega) hm ha (by omega), Option.bind_some, okl_snoc, fin_snoc, if_pos rfl]
        · rw [if_neg (by simp; omega), if_neg h1]; simp
      rw [s1, Option.bind_some]
      have hg1 : (if 0 < c then g k (left - 1) (c - 1) m (fin l b + 1) (okl (stp l b) && decide (0 ≤ fin l b + 1)) else 0) ≤ 2 ^ (left - 1) := by
        split
        · exact g_le ..
        · exact Nat.zero_le _
      generalize (if 0 < c then g k (left - 1) (c - 1) m (fin l b + 1) (okl (stp l b) && decide (0 ≤ fin l b + 1)) else 0) = G at *
      by_cases h2 : 0 < m
      · rw [if_pos (by simp; omega)]
        have s2 : f17_p3 1100 (f17 1100 k) (sb l) left c m b (acc + (G : Int)) = some (acc + G + ((if 0 < m ∧ 1 < left then g k (left - 2) c (m - 1) (fin l b - 1) (okl (stp l b) && decide (0 ≤ fin l b - 1)) else 0 : Nat) : Int)) := by
          unfold f17_p3
          by_cases h3 : 1 < left
          · have e3 : 2 ^ (left - 2) ≤ 2 ^ (left - 1) := Nat.pow_le_pow_right (by omega) (by omega)
            rw [if_pos (by simp; omega), if_pos ⟨h2, h3⟩, req_pos (by rw [sb_size, show ByteArray.size str2 = 1 from rfl]; omega), show sb l ++ str2 = sb (l ++ [110]) from rfl, show w64 ((left : Int) - 2) = ((left - 2 : Nat) : Int) by rw [w64_in (by omega)]; omega, show w64 ((m : Int) - 1) = ((m - 1 : Nat) : Int) by rw [w64_in (by omega)]; omega,
              ih (left - 2) c (m - 1) (l ++ [110]) (acc + G) (fun x hx => by rcases List.mem_append.1 hx with h | h; exact hl x h; simp at h; exact .inr h) (by simp; omega) (by omega) hc (by omega) (by omega) (by omega), Option.bind_some, okl_snoc, fin_snoc, if_neg (by decide)]
          · rw [if_neg (by simp; omega), if_neg (by omega)]; simp
        rw [s2, Option.bind_some]
        simp only [Option.some.injEq]
        omega
      · rw [if_neg (by simp; omega), if_neg (by omega)]
        simp

end Go.Gh.Top
