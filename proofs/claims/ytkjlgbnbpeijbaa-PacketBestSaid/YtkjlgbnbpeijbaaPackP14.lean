/- The plain law of PacketBest. -/
import Derived.Test.YtkjlgbnbpeijbaaPackB14
namespace Go.Gh.Pack
set_option linter.unusedVariables false
set_option linter.unusedSimpArgs false

theorem span_eq {a b : List Int} (hst : stk a b = 0) {n : Nat} (hn : n ≤ 1000) {i : Nat} (hi : i < a.length) :
    spn a b n i = if (fin a b n).cnt = 0 then (0, 0, 12) else (nth (fin a b n).lo i, nth (fin a b n).hi i, 0) := by
  have hab := Good.of hst
  have hl := hab.len
  have hib : i < b.length := by omega
  have hb0 : ∀ x ∈ b, 0 ≤ x := fun x hx => (hab.st x hx).1
  have ho : od a b n = 0 := by unfold od; rw [if_pos hst, if_pos (by omega)]
  have hI := fin_inv (n := n) hab
  have hsb := hab.st _ (List.getElem_mem hib)
  have hnb := nth_get hib
  have vj : ∀ j : Nat, j < 0 + ((nth b i).toNat + 1) → (V (W a (b.set i 0)) (nth a i).toNat n j ↔ ∃ l ∈ en b, wsm a l = n ∧ nth l i = j) := fun j hj => occ hab hi (by omega)
  have bd : ∀ l ∈ en b, 0 ≤ nth l i ∧ nth l i ≤ nth b i := fun l hl2 => by
    obtain ⟨m1, m2⟩ := (en_mem b l hb0).1 hl2
    have hil : i < l.length := by omega
    have := InP_get _ _ m1 i hil hib
    rw [nth_get hil, hnb]; exact this
  have hcz : (fin a b n).cnt = 0 ↔ ∀ l ∈ en b, wsm a l ≠ n := by
    rw [hI.cnt, ← cn_zero]; omega
  unfold spn
  rw [if_pos ho, if_pos (by omega), Int.toNat_natCast, Int.toNat_natCast]
  show spl (W a (b.set i 0)) (nth a i).toNat n ((nth b i).toNat + 1) 0 0 0 12 = _
  rcases spl_other (W a (b.set i 0)) (nth a i).toNat n (e := 12) (by decide) ((nth b i).toNat + 1) 0 0 0 with ⟨e1, e2⟩ | ⟨u, v, e1, ⟨_, u2, u3⟩, ⟨_, v2, v3⟩, e4⟩
  · rw [e1, if_pos (hcz.2 fun l hl2 he => ?_)]
    have := bd l hl2
    exact e2 (nth l i).toNat (by omega) (by omega) ((vj _ (by omega)).2 ⟨l, hl2, he, by omega⟩)
  · obtain ⟨lu, lu1, lu2, lu3⟩ := (vj u u2).1 u3
    obtain ⟨lv, lv1, lv2, lv3⟩ := (vj v v2).1 v3
    rw [e1, if_neg fun h => hcz.1 h lu lu1 lu2]
    obtain ⟨⟨p, p1, p2, p3⟩, hlo⟩ := hI.lo i hi lu lu1 lu2
    obtain ⟨⟨q, q1, q2, q3⟩, hhi⟩ := hI.hi i hi lv lv1 lv2
    have bp := bd p p1
    have bq := bd q q1
    have h1 := e4 (nth p i).toNat (by omega) (by omega) ((vj _ (by omega)).2 ⟨p, p1, p2, by omega⟩)
    have h2 := e4 (nth q i).toNat (by omega) (by omega) ((vj _ (by omega)).2 ⟨q, q1, q2, by omega⟩)
    rw [show (u : Int) = nth (fin a b n).lo i by omega, show (v : Int) = nth (fin a b n).hi i by omega]

theorem ways_eq {a b : List Int} (hst : stk a b = 0) {n : Nat} : W a b n = (fin a b n).cnt := by
  have hab := Good.of hst
  rw [W_uf fun x hx => by have := hab.sz x hx; omega, ← cn_uf _ _ _ hab.len.symm]
  exact (fin_inv hab).cnt.symm

theorem best_eq {a b : List Int} (hst : stk a b = 0) {n : Nat} (hn : n ≤ 1000) : fillR a b n = if (fin a b n).cnt = 0 then ([], 12) else ((fin a b n).best, 0) := by
  have hab := Good.of hst
  have hl := hab.len
  have hb0 : ∀ x ∈ b, 0 ≤ x := fun x hx => (hab.st x hx).1
  have hI := fin_inv (n := n) hab
  have hcz : (fin a b n).cnt = 0 ↔ ∀ l ∈ en b, wsm a l ≠ n := by
    rw [hI.cnt, ← cn_zero]; omega
  have hin : ∀ l, IsF a b l n ↔ l ∈ en b ∧ wsm a l = n := fun l => by
    rw [isF_iff a b l n hl.symm hab.sz hab.st, en_mem b l hb0, and_assoc]
  have hbd := fw_bd a b n
  unfold fillR
  by_cases h : fw a b n = 1001
  · rw [if_pos h, if_pos (hcz.2 fun l hl2 he => ?_)]
    have hf := (hin l).2 ⟨hl2, he⟩
    have := opt1 a b l n hf
    have := pk_le a b l n (fun x hx => (hab.sz x hx).1) hf
    omega
  · obtain ⟨o1, o2⟩ := opt2 a b n hl.symm hb0 (by omega)
    obtain ⟨m1, m2⟩ := (hin _).1 o1
    rw [if_neg h, if_neg fun hh => hcz.1 hh _ m1 m2]
    obtain ⟨b1, b2, b3, b4⟩ := hI.best _ m1 m2
    have hf := (hin _).2 ⟨b1, b2⟩
    have h1 := opt1 a b _ n hf
    rcases b4 with b4 | ⟨b4, b5 | b5⟩
    · omega
    · rw [b5]
    · exact absurd b5 (fill_first a b _ n hf (by omega) (by omega))

theorem f14_p2_1_eq {F : Nat} (hF : 1100 ≤ F) {a b best x35 : List Int} {x36 c cnt : Int} {lo hi : List Int} (ha : a.length ≤ 5) (hb : b.length ≤ 40) (hlo : lo.length = a.length) (hhi : hi.length = a.length) (hc : 0 ≤ cnt)
    (h : ∀ i : Nat, i < a.length → spn a b (Int.tmod (w64 c) 120) i = if cnt = 0 then (0, 0, 12) else (nth lo i, nth hi i, 0)) :
    ∀ (k i : Nat), i ≤ a.length → a.length < k + i → f14_p2_1 F x35 x36 a b c best cnt lo hi k i = some .c1 := by
  intro k
  induction k with
  | zero => intro i _ h; omega
  | succ k ih =>
    intro i h1 h2
    unfold f14_p2_1
    by_cases hi2 : i < a.length
    · rw [if_pos (by simp; omega), f42_eq hF hb (by omega), Option.bind_some, h i hi2, w64_succ (by omega)]
      by_cases h0 : cnt = 0
      · subst h0
        exact ih (i + 1) (by omega) (by omega)
      · have d1 : (cnt == 0) = false := by simpa using h0
        have d2 : decide (cnt > 0) = true := by simp; omega
        have l1 : lo[0 + i]? = some (nth lo i) := by rw [Nat.zero_add, nth_get (by omega), List.getElem?_eq_getElem]
        have l2 : hi[0 + i]? = some (nth hi i) := by rw [Nat.zero_add, nth_get (by omega), List.getElem?_eq_getElem]
        rw [if_neg h0]
        dsimp only
        rw [d1, d2, if_neg (by decide), if_pos rfl, if_neg (by decide), Int.toNat_natCast, Int.toNat_natCast, req_pos (by omega), l1, Option.bind_some, if_neg (by simp), l2, Option.bind_some, if_neg (by simp)]
        exact ih (i + 1) (by omega) (by omega)
    · rw [if_neg (by simp; omega)]

theorem f14_plain (z t : List Int) (c m : Int) (hz : z.length = 4) (hzr : ∀ x ∈ z, 0 ≤ x ∧ x ≤ 255) (ht : t.length = 4) (htr : ∀ x ∈ t, 0 ≤ x ∧ x ≤ 255) (hc : 0 ≤ c ∧ c ≤ 255) (hm : 0 ≤ m ∧ m ≤ 255) : f14 1100 z t c m = some true := by
  obtain ⟨a, b, e1, hst, e2, e3, e4⟩ := made_eq (sz := 12) (st := 6) hz hzr ht htr (by omega) (by omega) hc
  have hab := Good.of hst
  have hl := hab.len
  obtain ⟨n, en1, en2⟩ : ∃ n : Nat, Int.tmod (w64 m) 120 = n ∧ n < 120 := by
    refine ⟨(m % 120).toNat, ?_, by omega⟩
    rw [w64_in (by omega), Int.tmod_eq_emod_of_nonneg (by omega)]; omega
  have hlen : (en b).length ≤ 100000 := by
    have h1 := en_len a b hl.symm
    have h2 := cntT_le a b e4
    have h3 : (7 : Int) ^ a.length ≤ 2401 := by
      rcases (by omega : a.length = 0 ∨ a.length = 1 ∨ a.length = 2 ∨ a.length = 3 ∨ a.length = 4) with h | h | h | h | h <;> rw [h] <;> decide
    omega
  have hI := fin_inv (n := n) hab
  have ho : od a b n = 0 := by unfold od; rw [if_pos hst, if_pos (by omega)]
  have q1 := f45_1_eq (F := 1100) (by omega) hst (n := n) (by omega) hlen
  have q2 := f36_eq (F := 1100) (by omega) (a := a) (b := b) (n := n) (by omega)
  have q3 := f51_eq (F := 1100) (by omega) (a := a) (b := b) (n := n) (by omega)
  rw [if_pos ho, Int.toNat_natCast] at q2 q3
  rw [ways_eq hst] at q2
  rw [best_eq hst (by omega)] at q3
  have q4 := f14_p2_1_eq (F := 1100) (by omega) (a := a) (b := b) (best := (fin a b n).best) (x35 := if (fin a b n).cnt = 0 then [] else (fin a b n).best) (x36 := if (fin a b n).cnt = 0 then 12 else 0) (c := m) (by omega) (by omega) hI.ok.lo hI.ok.hi hI.ok.cnt (fun i hi => by rw [en1]; exact span_eq hst (by omega) hi) 1100 0 (by omega) (by omega)
  have q4 : f14_p2_1 1100 (if (fin a b n).cnt = 0 then [] else (fin a b n).best) (if (fin a b n).cnt = 0 then 12 else 0) a b m (fin a b n).best (fin a b n).cnt (fin a b n).lo (fin a b n).hi 1100 0 = some .c1 := q4
  have ew := works
  unfold f14
  rw [e1, Option.bind_some]
  dsimp only
  rw [req_pos (by omega), en1, Int.toNat_natCast, q1, Option.bind_some]
  dsimp only
  rw [q2, q3, Option.bind_some]
  by_cases h0 : (fin a b n).cnt = 0
  · rw [if_pos h0, if_pos h0] at q4
    rw [if_pos h0, Option.bind_some]
    dsimp only
    rw [if_pos rfl, if_neg (by decide), if_neg (by simp), q4, Option.bind_some]
    dsimp only
    rw [if_pos (by simpa using h0), if_pos (by decide), if_pos (by decide), ew]
    rfl
  · rw [if_neg h0, if_neg h0] at q4
    rw [if_neg h0, Option.bind_some]
    dsimp only
    have hbl : (fin a b n).best.length ≤ 5 := by
      obtain ⟨l, hl1, hl2⟩ : ∃ l ∈ en b, wsm a l = n := by
        false_or_by_contra
        rename_i hh
        exact h0 (by rw [hI.cnt, cn_zero.2 fun l hl he => hh ⟨l, hl, he⟩]; rfl)
      obtain ⟨b1, _⟩ := hI.best l hl1 hl2
      have := ((en_mem b _ fun x hx => (hab.st x hx).1).1 b1).2
      omega
    rw [if_pos rfl, if_neg (by decide), if_neg (by simp), q4, Option.bind_some]
    dsimp only
    rw [if_neg (by simpa using h0), if_pos (by decide), f23_eq (by omega) (by omega), decide_eq_true rfl, Option.bind_some, if_pos rfl, ew]
    rfl

end Go.Gh.Pack
