/- Packet: ways, size by size in any order; all fillings, one after the other. -/
import Derived.Test.YtkjlgbnbpeijbaaPackM
namespace Go.Gh.Pack
set_option linter.unusedVariables false
set_option linter.unusedSimpArgs false

/-- c terms of G, s apart. -/
def wi (s : Int) (G : Int → Int) : Nat → Int → Int
  | 0, _ => 0
  | c + 1, x => G x + wi s G c (x - s)
def ex (g : Nat → Int) (y : Int) : Int := if 0 ≤ y then g y.toNat else 0

theorem wi_last {s : Int} {G : Int → Int} : ∀ (c : Nat) (x : Int), wi s G (c + 1) x = wi s G c x + G (x - c * s)
  | 0, x => by simp [wi]
  | c + 1, x => by
    have d1 : wi s G (c + 1 + 1) x = G x + wi s G (c + 1) (x - s) := rfl
    have d2 : wi s G (c + 1) x = G x + wi s G c (x - s) := rfl
    rw [d1, d2, wi_last c (x - s), show x - s - c * s = x - ((c + 1 : Nat) : Int) * s by rw [Int.natCast_add, Int.add_mul]; simp; omega]
    omega
theorem wi_zero {s : Int} : ∀ (c : Nat) (x : Int), wi s (fun _ => 0) c x = 0
  | 0, _ => rfl
  | c + 1, x => by rw [wi, wi_zero c]; rfl
theorem wi_add {s : Int} {G H : Int → Int} : ∀ (c : Nat) (x : Int), wi s (fun y => G y + H y) c x = wi s G c x + wi s H c x
  | 0, _ => rfl
  | c + 1, x => by rw [wi, wi, wi, wi_add c]; omega
theorem wi_shift {s d : Int} {G : Int → Int} : ∀ (c : Nat) (x : Int), wi s (fun y => G (y - d)) c x = wi s G c (x - d)
  | 0, _ => rfl
  | c + 1, x => by rw [wi, wi, wi_shift c, show x - s - d = x - d - s by omega]
theorem wi_comm {s t : Int} {G : Int → Int} (m : Nat) : ∀ (c : Nat) (x : Int), wi s (wi t G m) c x = wi t (wi s G c) m x
  | 0, x => by
    have e : wi s G 0 = fun _ => 0 := rfl
    rw [e, wi_zero]; rfl
  | c + 1, x => by
    have e : wi s G (c + 1) = fun y => G y + wi s G c (y - s) := rfl
    rw [e, wi_add, wi_shift (G := wi s G c), wi, wi_comm m c]
theorem ex_ws {s : Nat} {g : Nat → Int} : ∀ (c : Nat) (x : Int), ex (ws s g c) x = wi s (ex g) c x
  | 0, x => by
    unfold ex
    split <;> rfl
  | c + 1, x => by
    rw [wi, ← ex_ws c]
    unfold ex
    by_cases h : 0 ≤ x
    · rw [if_pos h, if_pos h, ws]
      by_cases h2 : s ≤ x.toNat
      · rw [if_pos h2, if_pos (by omega), show (x - (s : Int)).toNat = x.toNat - s by omega]
      · rw [if_neg h2, if_neg (by omega)]
    · rw [if_neg h, if_neg h, if_neg (by omega)]; rfl

def dl (x : Int) : Int := if x = 0 then 1 else 0
def uf : List Int → List Int → Int → Int
  | s :: a, c :: b => wi s (uf a b) (c.toNat + 1)
  | _, _ => dl
def wfi : (Int → Int) → List Int → List Int → Int → Int
  | G, s :: a, c :: b => wfi (wi s G (c.toNat + 1)) a b
  | G, [], _ => G
  | G, _, [] => G
theorem wfi_wi : ∀ (a b : List Int) (s : Int) (m : Nat) (G : Int → Int), wfi (wi s G m) a b = wi s (wfi G a b) m
  | [], _, _, _, _ => by simp [wfi]
  | _ :: _, [], _, _, _ => by simp [wfi]
  | t :: a, d :: b, s, m, G => by
    have e : wi t (wi s G m) (d.toNat + 1) = wi s (wi t G (d.toNat + 1)) m := funext fun x => wi_comm m _ x
    rw [wfi, wfi, e, wfi_wi a b]
theorem wfi_uf : ∀ (a b : List Int), wfi dl a b = uf a b
  | [], b => by cases b <;> rfl
  | _ :: _, [] => rfl
  | s :: a, c :: b => by rw [wfi, wfi_wi, wfi_uf a b]; rfl
theorem ex_wf : ∀ (a b : List Int) (g : Nat → Int), (∀ x ∈ a, 0 ≤ x) → ex (wf g a b) = wfi (ex g) a b
  | [], _, _, _ => by simp [wf, wfi]
  | _ :: _, [], _, _ => by simp [wf, wfi]
  | s :: a, c :: b, g, h => by
    have hs := h s (by simp)
    have e : ex (ws s.toNat g (c.toNat + 1)) = wi s (ex g) (c.toNat + 1) := funext fun x => by
      have := ex_ws (s := s.toNat) (g := g) (c.toNat + 1) x
      rwa [Int.toNat_of_nonneg hs] at this
    rw [wf, wfi, ex_wf a b _ (fun x hx => h x (by simp [hx])), e]
theorem W_uf {a b : List Int} (h : ∀ x ∈ a, 0 ≤ x) (n : Nat) : W a b n = uf a b n := by
  have e0 : ex g0 = dl := funext fun x => by
    unfold ex g0 dl
    by_cases h : x = 0
    · subst h; rfl
    · rw [if_neg h]
      by_cases h2 : 0 ≤ x
      · rw [if_pos h2, if_neg (by omega)]
      · rw [if_neg h2]
  have e := congrFun (ex_wf a b g0 h) (n : Int)
  rw [e0, wfi_uf] at e
  rw [← e]
  unfold ex W
  rw [if_pos (by omega), Int.toNat_natCast]

/-- The sum of all packets; how many fillings there are. -/
def tot : List Int → List Int → Int
  | s :: a, c :: b => (c.toNat : Int) * s + tot a b
  | _, _ => 0
def cntT : List Int → List Int → Int
  | _ :: a, c :: b => ((c.toNat + 1 : Nat) : Int) * cntT a b
  | _, _ => 1

theorem tot_nonneg : ∀ (a b : List Int), (∀ x ∈ a, 0 ≤ x) → 0 ≤ tot a b
  | [], b, _ => by cases b <;> simp [tot]
  | _ :: _, [], _ => by simp [tot]
  | s :: a, c :: b, h => by
    have := tot_nonneg a b fun x hx => h x (by simp [hx])
    have := h s (by simp)
    have : 0 ≤ (c.toNat : Int) * s := Int.mul_nonneg (by omega) (by omega)
    rw [tot]; omega
theorem cntT_pos : ∀ (a b : List Int), 1 ≤ cntT a b
  | [], b => by cases b <;> simp [cntT]
  | _ :: _, [] => by simp [cntT]
  | s :: a, c :: b => by
    have h := cntT_pos a b
    have : ((c.toNat + 1 : Nat) : Int) * 1 ≤ ((c.toNat + 1 : Nat) : Int) * cntT a b := Int.mul_le_mul_of_nonneg_left h (by omega)
    rw [cntT]; omega
theorem wi_sym {s T : Int} {G : Int → Int} (h : ∀ y, G y = G (T - y)) : ∀ (c : Nat) (x : Int), wi s G (c + 1) x = wi s G (c + 1) (T + c * s - x)
  | 0, x => by simp [wi]; exact h x
  | c + 1, x => by
    have d1 : wi s G (c + 1 + 1) x = G x + wi s G (c + 1) (x - s) := rfl
    rw [d1, wi_last (c + 1), wi_sym h c (x - s), h x, show T + ((c + 1 : Nat) : Int) * s - x - ((c + 1 : Nat) : Int) * s = T - x by omega, show T + (c : Int) * s - (x - s) = T + ((c + 1 : Nat) : Int) * s - x by rw [Int.natCast_add, Int.add_mul]; simp; omega]
    omega
theorem uf_sym : ∀ (a b : List Int) (x : Int), uf a b x = uf a b (tot a b - x)
  | [], b, x => by
    have e : uf [] b = dl := by cases b <;> rfl
    have e2 : tot [] b = 0 := by cases b <;> rfl
    rw [e, e2]
    unfold dl
    by_cases h : x = 0
    · subst h; rfl
    · rw [if_neg h, if_neg (by omega)]
  | _ :: _, [], x => by
    show dl x = dl (0 - x)
    unfold dl
    by_cases h : x = 0
    · subst h; rfl
    · rw [if_neg h, if_neg (by omega)]
  | s :: a, c :: b, x => by
    have := wi_sym (s := s) (uf_sym a b) c.toNat x
    rw [uf, this, tot, show tot a b + (c.toNat : Int) * s - x = (c.toNat : Int) * s + tot a b - x by omega]
theorem wi_neg {s : Int} {G : Int → Int} (hs : 0 ≤ s) (h : ∀ y, y < 0 → G y = 0) : ∀ (c : Nat) (x : Int), x < 0 → wi s G c x = 0
  | 0, _, _ => rfl
  | c + 1, x, hx => by rw [wi, h x hx, wi_neg hs h c _ (by omega)]; rfl
theorem uf_neg : ∀ (a b : List Int), (∀ x ∈ a, 0 ≤ x) → ∀ x, x < 0 → uf a b x = 0
  | [], b, _, x, hx => by
    have e : uf [] b = dl := by cases b <;> rfl
    rw [e, dl, if_neg (by omega)]
  | _ :: _, [], _, x, hx => by
    show dl x = 0
    rw [dl, if_neg (by omega)]
  | s :: a, c :: b, h, x, hx => wi_neg (h s (by simp)) (uf_neg a b fun y hy => h y (by simp [hy])) _ x hx
theorem uf_big {a b : List Int} (h : ∀ x ∈ a, 0 ≤ x) {x : Int} (hx : tot a b < x) : uf a b x = 0 := by
  rw [uf_sym]; exact uf_neg a b h _ (by omega)
theorem wi_bd {s B : Int} {G : Int → Int} (h : ∀ y, 0 ≤ G y ∧ G y ≤ B) : ∀ (c : Nat) (x : Int), 0 ≤ wi s G c x ∧ wi s G c x ≤ c * B
  | 0, x => by simp [wi]
  | c + 1, x => by
    have h1 := h x
    have h2 := wi_bd (s := s) h c (x - s)
    have e : ((c + 1 : Nat) : Int) * B = c * B + B := by rw [Int.natCast_add, Int.add_mul]; simp
    rw [wi, e]; omega
theorem uf_bd : ∀ (a b : List Int) (x : Int), 0 ≤ uf a b x ∧ uf a b x ≤ cntT a b
  | [], b, x => by
    have e : uf [] b = dl := by cases b <;> rfl
    have e2 : cntT [] b = 1 := by cases b <;> rfl
    rw [e, e2, dl]; split <;> decide
  | _ :: _, [], x => by
    show 0 ≤ dl x ∧ dl x ≤ 1
    rw [dl]; split <;> decide
  | s :: a, c :: b, x => wi_bd (uf_bd a b) (c.toNat + 1) x

def sumT (h : Nat → Int) : Nat → Int
  | 0 => 0
  | n + 1 => sumT h n + h n
theorem sumT_add {g h : Nat → Int} : ∀ N, sumT (fun y => g y + h y) N = sumT g N + sumT h N
  | 0 => rfl
  | n + 1 => by rw [sumT, sumT, sumT, sumT_add n]; omega
theorem sumT_zero : ∀ N, sumT (fun _ => 0) N = 0
  | 0 => rfl
  | n + 1 => by rw [sumT, sumT_zero n]; rfl
theorem sumT_congr {g h : Nat → Int} : ∀ N, (∀ y, y < N → g y = h y) → sumT g N = sumT h N
  | 0, _ => rfl
  | n + 1, e => by rw [sumT, sumT, sumT_congr n fun y hy => e y (by omega), e n (by omega)]
theorem sum_wi {s T : Int} {G : Int → Int} {N : Nat} {n : Int} : ∀ (c : Nat), (∀ j : Nat, j < c → sumT (fun y => G ((y : Int) - (n + j * s))) N = T) → sumT (fun y => wi s G c ((y : Int) - n)) N = c * T
  | 0, _ => by simp [wi, sumT_zero]
  | c + 1, h => by
    have e : (fun y : Nat => wi s G (c + 1) ((y : Int) - n)) = fun y : Nat => wi s G c ((y : Int) - n) + G ((y : Int) - (n + c * s)) := funext fun y => by
      rw [wi_last, show (y : Int) - n - c * s = (y : Int) - (n + c * s) by omega]
    rw [e, sumT_add, sum_wi c fun j hj => h j (by omega), h c (by omega), Int.natCast_add, Int.add_mul]
    simp
theorem sum_dl {N : Nat} {n : Int} : ∀ N : Nat, 0 ≤ n → sumT (fun y => dl ((y : Int) - n)) N = if n < N then 1 else 0
  | 0, h => by rw [sumT, if_neg (by simpa using h)]
  | m + 1, h => by
    rw [sumT, sum_dl (N := N) m h, dl]
    by_cases h1 : n < m
    · rw [if_pos h1, if_neg (by omega), if_pos (by omega)]; rfl
    · rw [if_neg h1]
      by_cases h2 : n = m
      · rw [if_pos (by omega), if_pos (by omega)]; rfl
      · rw [if_neg (by omega), if_neg (by omega)]; rfl
theorem sum_uf {N : Nat} : ∀ (a b : List Int) (n : Int), (∀ x ∈ a, 0 ≤ x) → 0 ≤ n → n + tot a b < N → sumT (fun y => uf a b ((y : Int) - n)) N = cntT a b
  | [], b, n, _, h0, h => by
    have e : uf [] b = dl := by cases b <;> rfl
    have e2 : cntT [] b = 1 := by cases b <;> rfl
    have e3 : tot [] b = 0 := by cases b <;> rfl
    rw [e3] at h
    rw [e, e2, sum_dl (N := N) N h0, if_pos (by omega)]
  | _ :: _, [], n, _, h0, h => by
    have h : n + 0 < (N : Int) := h
    show sumT (fun y => dl ((y : Int) - n)) N = 1
    rw [sum_dl (N := N) N h0, if_pos (by omega)]
  | s :: a, c :: b, n, hs, h0, h => by
    have h1 := hs s (by simp)
    rw [tot] at h
    show sumT (fun y => wi s (uf a b) (c.toNat + 1) ((y : Int) - n)) N = ((c.toNat + 1 : Nat) : Int) * cntT a b
    refine sum_wi _ fun j hj => sum_uf a b _ (fun x hx => hs x (by simp [hx])) ?_ ?_
    · have : 0 ≤ (j : Int) * s := Int.mul_nonneg (by omega) h1
      omega
    · have : (j : Int) * s ≤ (c.toNat : Int) * s := Int.mul_le_mul_of_nonneg_right (by omega) h1
      omega

end Go.Gh.Pack
