/- Fans: a kind put in, or taken out; what a fan made by numbers is. -/
import Derived.Test.YtidfbhlhogkfmaaFanV
namespace Go.Gh.Fan
set_option linter.unusedVariables false
set_option linter.unusedSimpArgs false

theorem sorted_pos (k : Int) : ∀ (l : List Int) (i : Int), (posF i l k).Pairwise (· < ·)
  | [], _ => by simp [posF]
  | x :: l, i => by
    have ih := sorted_pos k l (i + 1)
    simp only [posF]
    split
    · refine List.pairwise_cons.2 ⟨fun y hy => ?_, ih⟩
      have := posF_mem hy
      omega
    · exact ih

theorem sorted_ext : ∀ {xs ys : List Int}, xs.Pairwise (· < ·) → ys.Pairwise (· < ·) → (∀ x, x ∈ xs ↔ x ∈ ys) → xs = ys
  | [], [], _, _, _ => rfl
  | [], y :: ys, _, _, h => absurd ((h y).2 (by simp)) (by simp)
  | x :: xs, [], _, _, h => absurd ((h x).1 (by simp)) (by simp)
  | x :: xs, y :: ys, hx, hy, h => by
    obtain ⟨hx1, hx2⟩ := List.pairwise_cons.1 hx
    obtain ⟨hy1, hy2⟩ := List.pairwise_cons.1 hy
    have e : x = y := by
      rcases List.mem_cons.1 ((h x).1 (by simp)) with e | e
      · exact e
      · rcases List.mem_cons.1 ((h y).2 (by simp)) with g | g
        · exact g.symm
        · have := hx1 _ g
          have := hy1 _ e
          omega
    subst e
    congr 1
    refine sorted_ext hx2 hy2 fun z => ⟨fun hz => ?_, fun hz => ?_⟩
    · rcases List.mem_cons.1 ((h z).1 (List.mem_cons_of_mem _ hz)) with e | e
      · have := hx1 _ hz; omega
      · exact e
    · rcases List.mem_cons.1 ((h z).2 (List.mem_cons_of_mem _ hz)) with e | e
      · have := hy1 _ hz; omega
      · exact e

theorem mem_pos {l : List Int} {k x : Int} : x ∈ posF 0 l k ↔ 0 ≤ x ∧ l[x.toNat]? = some k := by
  constructor
  · intro h
    obtain ⟨h1, _, h3⟩ := posF_mem h
    exact ⟨h1, by simpa using h3⟩
  · rintro ⟨h1, h2⟩
    have := posF_of (i := 0) h2
    rwa [show (0 : Int) + ((x.toNat : Nat) : Int) = x by omega] at this

theorem get_set2 {l : List Int} {a b i : Nat} {x : Int} (ha : a < l.length) (hb : b < l.length) : (set2 l a b x)[i]? = if i = a ∨ i = b then some x else l[i]? := by
  unfold set2
  rw [List.getElem?_set, List.getElem?_set]
  by_cases h1 : b = i
  · subst h1; simp [hb]
  · by_cases h2 : a = i
    · subst h2; simp [h1, ha]
    · have h1' : ¬ i = b := fun e => h1 e.symm
      have h2' : ¬ i = a := fun e => h2 e.symm
      simp [h1, h2, h1', h2']

theorem get_atv {l : List Int} {p : Nat} (h : p < l.length) : l[p]? = some (atv l p) := by
  rw [atv, List.getElem?_eq_getElem h]; rfl

theorem pos_put_self {l : List Int} {a b : Nat} {k : Int} (h : posF 0 l k = []) (hab : a < b) (hb : b < l.length) : posF 0 (set2 l a b k) k = [(a : Int), (b : Int)] := by
  apply sorted_ext (sorted_pos _ _ _)
  · simp; omega
  · intro x
    rw [mem_pos, get_set2 (by omega) hb]
    have hn : ∀ x : Int, ¬ (0 ≤ x ∧ l[x.toNat]? = some k) := fun x g => by
      have := mem_pos.2 g
      rw [h] at this; cases this
    simp only [List.mem_cons, List.not_mem_nil, or_false]
    constructor
    · rintro ⟨h1, h2⟩
      split at h2
      · omega
      · exact absurd ⟨h1, h2⟩ (hn x)
    · intro g
      refine ⟨by omega, ?_⟩
      rw [if_pos (by omega)]

theorem pos_put_other {l : List Int} {a b : Nat} {k j : Int} (hj : j ≠ k) (ha : a < l.length) (hb : b < l.length) (h1 : atv l a ≠ j) (h2 : atv l b ≠ j) : posF 0 (set2 l a b k) j = posF 0 l j := by
  apply sorted_ext (sorted_pos _ _ _) (sorted_pos _ _ _)
  intro x
  rw [mem_pos, mem_pos, get_set2 ha hb]
  by_cases g : x.toNat = a ∨ x.toNat = b
  · rw [if_pos g]
    constructor
    · rintro ⟨_, e⟩
      exact absurd (Option.some.inj e).symm hj
    · rintro ⟨_, e⟩
      rcases g with g | g
      · rw [g, get_atv ha] at e; exact absurd (Option.some.inj e) h1
      · rw [g, get_atv hb] at e; exact absurd (Option.some.inj e) h2
  · rw [if_neg g]

theorem fit_of {w : Bool} {l : List Int} {k p : Nat} (h : fitB w l k p = true) : p + dN w k < l.length ∧ atv l p = 0 ∧ atv l (p + dN w k) = 0 := by
  simpa [fitB] using h

theorem dN_rng {w : Bool} {k : Nat} (h : 1 ≤ k) : 1 ≤ dN w k ∧ dN w k ≤ k + 1 := by unfold dN; split <;> omega

theorem put_self {n : Int} {w : Bool} {l : List Int} {k p : Nat} (_v : Val n w l) (hk : 1 ≤ k ∧ (k : Int) ≤ n) (h0 : posF 0 l k = []) (hf : fitB w l k p = true) : posF 0 (set2 l p (p + dN w k) k) k = [(p : Int), ((p + dN w k : Nat) : Int)] := by
  have := fit_of hf
  have := dN_rng (w := w) hk.1
  exact pos_put_self h0 (by omega) (by omega)

theorem put_other {n : Int} {w : Bool} {l : List Int} {k p : Nat} (_v : Val n w l) (_hk : 1 ≤ k ∧ (k : Int) ≤ n) (_h0 : posF 0 l k = []) (hf : fitB w l k p = true) {j : Int} (hj : 1 ≤ j) (hjk : j ≠ k) : posF 0 (set2 l p (p + dN w k) k) j = posF 0 l j := by
  have := fit_of hf
  exact pos_put_other hjk (by omega) (by omega) (by omega) (by omega)

theorem put_val {n : Int} {w : Bool} {l : List Int} {k p : Nat} (v : Val n w l) (hk : 1 ≤ k ∧ (k : Int) ≤ n) (h0 : posF 0 l k = []) (hf : fitB w l k p = true) : Val n w (set2 l p (p + dN w k) k) := by
  have hfit := fit_of hf
  refine ⟨v.rng, by rw [set2_len]; exact v.len, ?_, ?_⟩
  · intro x hx
    obtain ⟨i, hi⟩ := List.mem_iff_getElem?.1 hx
    rw [get_set2 (by omega) (by omega)] at hi
    split at hi
    · cases hi; omega
    · exact v.inr x (List.mem_iff_getElem?.2 ⟨i, hi⟩)
  · intro j h1 h2
    by_cases e : j = (k : Int)
    · subst e
      rw [put_self v hk h0 hf]
      simp [errP, dist_nat]
    · rw [put_other v hk h0 hf h1 e]
      exact v.kind j h1 h2

theorem put_back {n : Int} {w : Bool} {l : List Int} {k p : Nat} (_v : Val n w l) (_hk : 1 ≤ k ∧ (k : Int) ≤ n) (_h0 : posF 0 l k = []) (hf : fitB w l k p = true) : set2 (set2 l p (p + dN w k) k) p (p + dN w k) 0 = l := by
  have hfit := fit_of hf
  apply List.ext_getElem?
  intro i
  rw [get_set2 (by rw [set2_len]; omega) (by rw [set2_len]; omega), get_set2 (by omega) (by omega)]
  by_cases g : i = p ∨ i = p + dN w k
  · rw [if_pos g]
    rcases g with g | g
    · subst g; rw [get_atv (by omega), hfit.2.1]
    · subst g; rw [get_atv (by omega), hfit.2.2]
  · rw [if_neg g, if_neg g]
/-- A table that knows the first place of a kind does for one kind as well. -/
theorem f60_g {F : Nat} {n : Int} {w : Bool} {l : List Int} (v : Val n w l) {k p : Nat} (hk : 1 ≤ k ∧ (k : Int) ≤ n) (hp : p < l.length) {g : Nat → Int} (hg : g k = fstv l k) :
    f60 F k p n w (tab 16 (atv l)) (tab 9 g) = some (mayS w l k p) := by
  have hr := v.rng
  rw [← f60_eq (F := F) v hk hp]
  unfold f60 f59
  simp only [Int.toNat_natCast, Nat.zero_add, Nat.mul_one, tab_get (show k < 9 by omega), hg]

theorem f61_putg {F : Nat} {n : Int} {w : Bool} {l : List Int} (v : Val n w l) {k p : Nat} (hk : 1 ≤ k ∧ (k : Int) ≤ n) (h0 : posF 0 l k = []) (hp : p + dN w k < l.length) {g : Nat → Int} (hg : g k = fstv l k) :
    f61 F k p n w (tab 16 (atv l)) (tab 9 g) = some (n, w, tab 16 (atv (set2 l p (p + dN w k) k)), tab 9 (fun i => if i = k then (p : Int) else g i)) := by
  have hr := v.rng
  have hl := v.len
  have hd := dN_rng (w := w) hk.1
  have hf : g k < 0 := by
    have : ¬ 0 ≤ fstv l k := fun q => fst_pos.1 q h0
    omega
  unfold f61
  rw [f77_eq (by omega), Option.bind_some, dist_nat, req_pos (by omega)]
  simp only [Option.bind_some, Int.toNat_natCast, Nat.zero_add, Nat.mul_one, tab_get (show k < 9 by omega)]
  rw [w64_in (n := (p : Int) + (dN w k : Nat)) (by omega), show Int.toNat ((p : Int) + (dN w k : Nat)) = p + dN w k by omega]
  rw [if_pos (by simpa using hf), req_pos (by omega), req_pos (by omega), req_pos (by omega), req_pos (by omega), req_pos (by omega)]
  rw [row_set (by omega), row_set (by simpa using hp), tab_set]; rfl

theorem f61_takeg {F : Nat} {n : Int} {w : Bool} {l : List Int} (v : Val n w l) {k p : Nat} (hk : 1 ≤ k ∧ (k : Int) ≤ n) (hp : p + dN w k < l.length) {g : Nat → Int} (hg : 0 ≤ g k) :
    f61 F k p n w (tab 16 (atv l)) (tab 9 g) = some (n, w, tab 16 (atv (set2 l p (p + dN w k) 0)), tab 9 (fun i => if i = k then -1 else g i)) := by
  have hr := v.rng
  have hl := v.len
  have hd := dN_rng (w := w) hk.1
  unfold f61
  rw [f77_eq (by omega), Option.bind_some, dist_nat, req_pos (by omega)]
  simp only [Option.bind_some, Int.toNat_natCast, Nat.zero_add, Nat.mul_one, tab_get (show k < 9 by omega)]
  rw [w64_in (n := (p : Int) + (dN w k : Nat)) (by omega), show Int.toNat ((p : Int) + (dN w k : Nat)) = p + dN w k by omega]
  rw [if_neg (by simpa using hg), req_pos (by omega), req_pos (by omega), req_pos (by omega), req_pos (by omega), req_pos (by omega)]
  rw [row_set (by omega), row_set (by simpa using hp), tab_set]; rfl

end Go.Gh.Fan
