/- TopS: orders of customers: Lacks says whether the till is ever below nothing. -/
import Derived.Test.YtcaphjiiaclndaaDoorTop4N0
namespace Go.Gh.Top
set_option linter.unusedVariables false
set_option linter.unusedSimpArgs false

theorem w64_in {n : Int} (h : -9223372036854775808 ≤ n ∧ n ≤ 9223372036854775807) : w64 n = n := by
  simp only [w64, IntKind.wrap, IntKind.signed, IntKind.bits]
  simp
  omega

theorem req_pos {P : Prop} [Decidable P] {α : Type} {x : Option α} (h : P) : req P x = x := by
  unfold req; rw [if_pos h]

/-- A text of bytes. -/
def sb (l : List UInt8) : ByteArray := ⟨⟨l⟩⟩
theorem sb_size (l : List UInt8) : ByteArray.size (sb l) = l.length := rfl
theorem sb_app (l m : List UInt8) : sb l ++ sb m = sb (l ++ m) := rfl
theorem sb_at {l : List UInt8} {i : Nat} {x : UInt8} (h : l[i]? = some x) : strAt (sb l) (i : Int) = (x.toNat : Int) := by
  show ((((⟨l⟩ : Array UInt8)[(i : Int).toNat]?).getD 0).toNat : Int) = _
  rw [Int.toNat_natCast, List.getElem?_toArray, h]; rfl
theorem sb_cut (l : List UInt8) (n : Nat) : ByteArray.extract (sb l) 0 n = sb (l.take n) := by
  show (⟨(ByteArray.extract (sb l) 0 n).data⟩ : ByteArray) = _
  rw [ByteArray.data_extract]
  show (⟨Array.extract ⟨l⟩ 0 n⟩ : ByteArray) = ⟨⟨l.take n⟩⟩
  congr 1
  simp

def cn (x : UInt8) : Prop := x = 99 ∨ x = 110

def asc : List Bool := ((List.replicate 256 false).set 99 true).set 110 true
theorem f118_is : f118 1100 ⟨#[99, 110]⟩ = some (asc, true) := by decide +kernel
theorem asc_at {x : UInt8} (h : cn x) : asc[x.toNat]? = some true := by
  rcases h with rfl | rfl <;> decide +kernel
theorem f137_cn {F : Nat} {x : UInt8} (h : cn x) : f137 F (x.toNat : Int) asc = some true := by
  unfold f137
  have hx : x.toNat < 256 := x.toNat_lt
  rw [req_pos (by omega), Int.toNat_natCast, Nat.zero_add, Nat.mul_one, asc_at h]; rfl

theorem f120_p1_cn {F : Nat} : ∀ (k : Nat) (l : List UInt8), (∀ x ∈ l, cn x) → l.length < k → l.length < 1000 → f120_p1 F asc k (sb l) = some (sb []) := by
  intro k
  induction k with
  | zero => intro l _ h; omega
  | succ k ih =>
    intro l hl hk hb
    unfold f120_p1
    rw [sb_size]
    by_cases h0 : l = []
    · subst h0; rw [if_neg (by simp)]
    · have hp : 0 < l.length := by cases l with | nil => exact absurd rfl h0 | cons => simp
      have e : w64 ((l.length : Int) - 1) = ((l.length - 1 : Nat) : Int) := by rw [w64_in (by omega)]; omega
      rw [if_pos (by simp; omega), e, req_pos (by omega), sb_at (List.getElem?_eq_getElem (by omega)), f137_cn (hl _ (List.getElem_mem _)), Option.bind_some, if_pos rfl, req_pos (by omega), Int.toNat_natCast, sb_cut]
      exact ih _ (fun x hx => hl x (List.mem_of_mem_take hx)) (by rw [List.length_take]; omega) (by rw [List.length_take]; omega)

theorem f90_cn {l : List UInt8} (hl : ∀ x ∈ l, cn x) (hb : l.length < 1000) : f90 1100 (sb l) ⟨#[99, 110]⟩ = some (sb []) := by
  unfold f90
  by_cases h0 : l = []
  · subst h0; rfl
  · rw [if_neg (by
      show ¬ ((l == []) = true)
      simpa using h0), if_neg (by decide), if_neg (by decide), f118_is, Option.bind_some]
    show (if true = true then _ else _) = _
    rw [if_pos rfl]
    unfold f120
    rw [f120_p1_cn 1100 l hl (by omega) hb, Option.bind_some, Option.bind_some]
    rfl

theorem f50_cn {l : List UInt8} (hl : ∀ x ∈ l, cn x) (hb : l.length ≤ 16) : f50 1100 (sb l) = some 0 := by
  unfold f50
  rw [sb_size, if_neg (by simp; omega), f90_cn hl (by omega), Option.bind_some]
  rfl

theorem f52_cn {l : List UInt8} (hl : ∀ x ∈ l, cn x) (hb : l.length ≤ 16) {b : Int} (h : 0 ≤ b ∧ b ≤ 20) : f52 1100 (sb l) b = some 0 := by
  unfold f52
  rw [f50_cn hl hb, Option.bind_some, if_pos (by decide)]
  unfold f91
  rw [if_pos (by simp; omega), Option.bind_some]
  unfold f52_p0
  rw [if_pos (by simp; omega)]
  rfl

/-- What is in the till after each customer. -/
def stp : List UInt8 → Int → List Int
  | [], _ => []
  | x :: l, b => (if x = 99 then b + 1 else b - 1) :: stp l (if x = 99 then b + 1 else b - 1)
theorem stp_len : ∀ (l : List UInt8) (b : Int), (stp l b).length = l.length
  | [], _ => rfl
  | _ :: l, b => by rw [stp, List.length_cons, List.length_cons, stp_len]

theorem f51_p1_eq {F : Nat} {l0 : List UInt8} (hl : ∀ x ∈ l0, cn x) (hb : l0.length ≤ 16) : ∀ (k : Nat) (p s : List UInt8) (b : Int) (acc : List Int), l0 = p ++ s → s.length < k → (-100 - (s.length : Int) * 0 + s.length ≤ b + 60 ∧ b ≤ 100 - s.length) → acc.length ≤ 16 - s.length →
    f51_p1 F k b acc (sb l0) (p.length : Int) = some (acc ++ stp s b) := by
  intro k
  induction k with
  | zero => intro p s b acc _ h; omega
  | succ k ih =>
    intro p s b acc e hk hbd ha
    unfold f51_p1
    rw [sb_size]
    have el : l0.length = p.length + s.length := by rw [e, List.length_append]
    cases s with
    | nil => rw [if_neg (by simp at el ⊢; omega), req_pos (by omega), stp, List.append_nil]
    | cons x s =>
      simp only [List.length_cons] at el hk hbd ha
      have hx : cn x := hl x (by rw [e]; simp)
      have hg : l0[p.length]? = some x := by rw [e]; simp
      have h128 : (x.toNat : Int) < 128 := by rcases hx with rfl | rfl <;> decide
      rw [if_pos (by simp; omega), sb_at hg, req_pos ⟨by omega, h128⟩]
      have e1 : f51_p4_1 F b acc (sb l0) (p.length : Int) = some (if x = 99 then b + 1 else b - 1) := by
        unfold f51_p4_1
        rw [sb_at hg]
        rcases hx with rfl | rfl
        · rw [if_pos (by decide), if_pos rfl, w64_in (by omega)]
        · rw [if_neg (by decide), if_neg (by decide), w64_in (by omega)]
      rw [e1, Option.bind_some, req_pos (by simp; omega)]
      have := ih (p ++ [x]) s (if x = 99 then b + 1 else b - 1) (acc ++ [if x = 99 then b + 1 else b - 1]) (by rw [e]; simp) (by omega) (by split <;> omega) (by simp; omega)
      rw [show ((p.length : Int) + 1) = ((p ++ [x]).length : Int) by simp, this, stp]
      simp

theorem f51_eq {l : List UInt8} (hl : ∀ x ∈ l, cn x) (hb : l.length ≤ 16) {b : Int} (h : 0 ≤ b ∧ b ≤ 20) : f51 1100 (sb l) b = some (stp l b) := by
  unfold f51
  rw [sb_size, req_pos (by omega)]
  have := f51_p1_eq (F := 1100) hl hb 1100 [] l b [] rfl (by omega) (by omega) (by simp)
  rw [show ((0 : Int)) = (([] : List UInt8).length : Int) from rfl, this, Option.bind_some]
  simp

def okl (l : List Int) : Bool := l.all fun x => decide (0 ≤ x)

theorem f92_p1_eq {F : Nat} {l0 : List Int} (hb : l0.length ≤ 100) : ∀ (k : Nat) (p s : List Int), l0 = p ++ s → s.length < k →
    (okl s = true → f92_p1 F l0 k (p.length : Int) = some .c1) ∧ (okl s = false → ∃ j : Int, 0 ≤ j ∧ f92_p1 F l0 k (p.length : Int) = some (.c0 j)) := by
  intro k
  induction k with
  | zero => intro p s _ h; omega
  | succ k ih =>
    intro p s e hk
    unfold f92_p1
    have el : l0.length = p.length + s.length := by rw [e, List.length_append]
    cases s with
    | nil =>
      refine ⟨fun _ => by rw [if_neg (by simp at el ⊢; omega)], fun h => by cases h⟩
    | cons x s =>
      simp only [List.length_cons] at el hk
      have hg : at? l0 (p.length : Int) = some x := by
        unfold at?
        rw [if_pos (by omega), Int.toNat_natCast, e]; simp
      rw [if_pos (by simp; omega), hg, Option.bind_some, f93, Option.bind_some]
      by_cases hx : x < 0
      · rw [if_pos (by simpa using hx)]
        refine ⟨fun h => ?_, fun _ => ⟨_, by omega, rfl⟩⟩
        simp [okl] at h; omega
      · rw [if_neg (by simpa using hx)]
        have := ih (p ++ [x]) s (by rw [e]; simp) (by omega)
        rw [w64_in (by omega), show ((p.length : Int) + 1) = ((p ++ [x]).length : Int) by simp]
        have ho : okl (x :: s) = okl s := by
          simp only [okl, List.all_cons]
          rw [decide_eq_true (by omega), Bool.true_and]
        rw [ho]; exact this

theorem f18_eq {l : List UInt8} (hl : ∀ x ∈ l, cn x) (hb : l.length ≤ 16) {b : Int} (h : 0 ≤ b ∧ b ≤ 20) : ∃ r, f18 1100 (sb l) b = some r ∧ (r.2 == 12) = okl (stp l b) := by
  unfold f18
  rw [f52_cn hl hb h, Option.bind_some, if_neg (by decide)]
  unfold f53
  rw [f51_eq hl hb h, Option.bind_some]
  unfold f92
  have := f92_p1_eq (F := 1100) (l0 := stp l b) (by rw [stp_len]; omega) 1100 [] (stp l b) rfl (by rw [stp_len]; omega)
  cases ho : okl (stp l b) with
  | true =>
    have e := this.1 ho
    rw [show ((0 : Int)) = (([] : List Int).length : Int) from rfl, e]
    exact ⟨(0, 12), rfl, rfl⟩
  | false =>
    obtain ⟨j, hj, e⟩ := this.2 ho
    rw [show ((0 : Int)) = (([] : List Int).length : Int) from rfl, e]
    refine ⟨(j, 0), ?_, rfl⟩
    simp only [Option.bind_some]
    rw [if_neg (by simp; omega)]
    rfl

end Go.Gh.Top
