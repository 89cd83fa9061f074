/- Fans: the reference's completions; there are not too many of them. -/
import Derived.Test.YtidfbhlhogkfmaaFanQ
namespace Go.Gh.Fan
set_option linter.unusedVariables false
set_option linter.unusedSimpArgs false

theorem take_app {α : Type} (A B : List α) (c : Nat) : (A.take c ++ B).take c = (A ++ B).take c := by
  rw [List.take_append, List.take_append, List.take_take, Nat.min_self, List.length_take]
  rcases Nat.le_total c A.length with h | h
  · rw [Nat.min_eq_left h, Nat.sub_self, Nat.sub_eq_zero_of_le h]
  · rw [Nat.min_eq_right h]

section
variable {n : Nat} {w : Bool}

def occ (l : List Int) (e : Nat) : List Bool := (l.drop e).map fun x => decide (x ≠ 0)

/-- How many ways there are to fill places, from the first one on, with kinds. -/
def cb (w : Bool) : Nat → List Nat → List Bool → Nat
  | 0, _, _ => 0
  | _ + 1, _, [] => 1
  | f + 1, ks, true :: t => cb w f ks t
  | f + 1, ks, false :: t => ks.foldr (fun k s => (if t[dN w k - 1]? = some false then cb w f (ks.filter (fun j => decide (j ≠ k))) (t.set (dN w k - 1) true) else 0) + s) 0

def mk (n : Nat) (l : List Int) : List Nat := (List.range' 1 n).filter fun k : Nat => decide (posF 0 l (k : Int) = [])

theorem foldr_le {a b : Nat → Nat} : ∀ (L : List Nat), (∀ k ∈ L, a k ≤ b k) → L.foldr (fun k s => a k + s) 0 ≤ L.foldr (fun k s => b k + s) 0
  | [], _ => Nat.le_refl _
  | k :: L, h => by
    have h1 := foldr_le L fun j hj => h j (List.mem_cons_of_mem _ hj)
    have h2 := h k (List.mem_cons_self ..)
    simp only [List.foldr]; omega

theorem rcK_len {sub : List Int → List (List Int)} {l : List Int} {e : Nat} : ∀ (m k : Nat),
    (rcK w sub l e m k).length = ((List.range' k m).filter fun k : Nat => decide (posF 0 l (k : Int) = [])).foldr (fun k s => (if fitB w l k e = true then (sub (set2 l e (e + dN w k) k)).length else 0) + s) 0
  | 0, k => by simp [rcK]
  | m + 1, k => by
    have ih := rcK_len (sub := sub) (l := l) (e := e) m (k + 1)
    simp only [rcK, List.length_append, List.range'_succ, ih]
    by_cases h : posF 0 l (k : Int) = []
    · rw [List.filter_cons_of_pos (by simpa using h), List.foldr_cons]
      by_cases g : fitB w l k e = true
      · rw [if_pos ⟨h, g⟩, if_pos g]
      · rw [if_neg (fun q => g q.2), if_neg g]; rfl
    · rw [List.filter_cons_of_neg (by simpa using h), if_neg (fun q => h q.1)]
      simp

theorem cb_le : ∀ (g e : Nat) (l : List Int) (f : Nat), Val (n : Int) w l → (∀ i, i < e → atv l i ≠ 0) → e ≤ l.length → l.length - e < g → (rc w n f l).length ≤ cb w g (mk n l) (occ l e)
  | g + 1, e, l, 0, _, _, _, _ => by simp [rc]
  | g + 1, e, l, f + 1, v, hz, he, hg => by
    have hr := v.rng
    have hlen := v.len
    rcases Nat.lt_or_ge e l.length with h | h
    · have hd : l.drop e = atv l e :: l.drop (e + 1) := by
        rw [List.drop_eq_getElem_cons h]
        congr 1
        rw [atv, List.getElem?_eq_getElem h]; rfl
      by_cases h0 : atv l e = 0
      · have ho : occ l e = false :: occ l (e + 1) := by unfold occ; rw [hd]; simp [h0]
        obtain ⟨e', r, hp⟩ : ∃ e' r, posF 0 l 0 = e' :: r := by
          have := mem_of_atv h h0
          exact List.exists_cons_of_ne_nil (by intro q; rw [q] at this; cases this)
        obtain ⟨z1, z2, z3⟩ := first_zero hp
        have hee : e'.toNat = e := by
          rcases Nat.lt_trichotomy e'.toNat e with q | q | q
          · exact absurd z1 (hz _ q)
          · exact q
          · exact absurd h0 (z3 e q)
        rw [ho]
        unfold rc cb
        rw [hp]
        simp only []
        rw [hee, rcK_len]
        apply foldr_le
        intro k hk
        rw [List.mem_filter, List.mem_range'_1] at hk
        have hk0 : posF 0 l (k : Int) = [] := by simpa using hk.2
        have hkk : 1 ≤ k ∧ (k : Int) ≤ (n : Int) := by omega
        have hdn := dN_rng (w := w) hkk.1
        by_cases hf : fitB w l k e = true
        · have hfit := fit_of hf
          have hget : (occ l (e + 1))[dN w k - 1]? = some false := by
            unfold occ
            rw [List.getElem?_map, List.getElem?_drop, show e + 1 + (dN w k - 1) = e + dN w k by omega, get_atv hfit.1, hfit.2.2]; rfl
          rw [if_pos hf, if_pos hget]
          have v' := put_val v hkk hk0 hf
          have hmk : mk n (set2 l e (e + dN w k) k) = (mk n l).filter fun j => decide (j ≠ k) := by
            unfold mk
            rw [List.filter_filter]
            apply List.filter_congr
            intro j hj
            rw [List.mem_range'_1] at hj
            by_cases q : j = k
            · subst q; rw [put_self v hkk hk0 hf]; simp
            · rw [put_other v hkk hk0 hf (by omega) (by omega)]; simp [q]
          have hocc : occ (set2 l e (e + dN w k) k) (e + 1) = (occ l (e + 1)).set (dN w k - 1) true := by
            unfold occ
            apply List.ext_getElem?
            intro i
            rw [List.getElem?_map, List.getElem?_drop, List.getElem?_set, List.getElem?_map, List.getElem?_drop, get_set2 h hfit.1]
            by_cases q : dN w k - 1 = i
            · have : e + 1 + i = e ∨ e + 1 + i = e + dN w k := by omega
              rw [if_pos this, if_pos q, if_pos (by simp; omega)]
              simp; omega
            · have : ¬ (e + 1 + i = e ∨ e + 1 + i = e + dN w k) := by omega
              rw [if_neg this, if_neg q]
          have ih := cb_le g (e + 1) (set2 l e (e + dN w k) k) f v' (fun i hi => by
            rw [atv_set2 h hfit.1]
            by_cases q : i = e ∨ i = e + dN w k
            · rw [if_pos q]; omega
            · rw [if_neg q]; exact hz i (by omega)) (by rw [set2_len]; omega) (by rw [set2_len]; omega)
          rw [hmk, hocc] at ih
          exact ih
        · rw [if_neg hf]; exact Nat.zero_le _
      · have ho : occ l e = true :: occ l (e + 1) := by unfold occ; rw [hd]; simp [h0]
        rw [ho]
        unfold cb
        refine cb_le g (e + 1) l (f + 1) v (fun i hi => ?_) (by omega) (by omega)
        by_cases q : i = e
        · rw [q]; exact h0
        · exact hz i (by omega)
    · have ho : occ l e = [] := by unfold occ; rw [List.drop_of_length_le h]; rfl
      have hp : posF 0 l 0 = [] := no_zero.2 fun i hi => hz i (by omega)
      rw [ho]
      unfold rc cb
      rw [hp]; simp

theorem mis_le (l : List Int) : mis n l ≤ n := by
  have h1 : mis n l ≤ S (fun _ => 1) n := S_le fun i _ => by split <;> omega
  rw [S_const] at h1; omega
end

theorem rep_val {m : Nat} {w : Bool} (h : 1 ≤ m ∧ m ≤ 8) : Val (m : Int) w (List.replicate (2 * m) 0) := by
  have hp : ∀ k : Int, k ≠ 0 → posF 0 (List.replicate (2 * m) (0 : Int)) k = [] := fun k hk => by
    apply List.eq_nil_iff_forall_not_mem.2
    intro x hx
    obtain ⟨_, h2⟩ := mem_pos.1 hx
    rw [List.getElem?_replicate] at h2
    split at h2
    · cases h2; exact hk rfl
    · cases h2
  refine ⟨by omega, by simp, ?_, ?_⟩
  · intro x hx
    have := List.eq_of_mem_replicate hx
    omega
  · intro k h1 h2
    rw [hp k (by omega)]; rfl

theorem cb_small : ∀ w : Bool, ∀ m ∈ [1, 2, 3, 4, 5, 6, 7, 8], cb w 17 (List.range' 1 m) (List.replicate (2 * m) false) ≤ 10000 := by decide +kernel

/-- There are not too many completions. -/
theorem few {n : Nat} {w : Bool} {l : List Int} (v : Val (n : Int) w l) : (comp w n l).length ≤ 10000 := by
  have hr := v.rng
  have hlen := v.len
  have v0 := rep_val (m := n) (w := w) (by omega)
  have hn := all_nodup v
  rw [Int.toNat_natCast] at hn
  have h1 : (comp w n l).length ≤ (comp w n (List.replicate (2 * n) 0)).length := hn.length_le_of_subset fun x hx => by
    have a1 := all_mem (x := x) v
    have a2 := all_mem (x := x) v0
    rw [Int.toNat_natCast] at a1 a2
    obtain ⟨q1, q2, q3, _⟩ := a1.1 hx
    refine a2.2 ⟨q1, q2, by rw [List.length_replicate]; omega, fun i hi hne => ?_⟩
    rw [List.length_replicate] at hi
    exact absurd (by rw [atv, List.getElem?_replicate, if_pos hi]; rfl) hne
  have h2 := same_len v0 (f := 100) (by have := mis_le (n := n) (List.replicate (2 * n) 0); omega)
  have h3 := cb_le 17 0 (List.replicate (2 * n) 0) 100 v0 (fun i hi => absurd hi (by omega)) (Nat.zero_le _) (by simp; omega)
  have e1 : mk n (List.replicate (2 * n) 0) = List.range' 1 n := by
    unfold mk
    apply List.filter_eq_self.2
    intro k hk
    rw [List.mem_range'_1] at hk
    simp only [decide_eq_true_eq]
    apply List.eq_nil_iff_forall_not_mem.2
    intro x hx
    obtain ⟨_, q⟩ := mem_pos.1 hx
    rw [List.getElem?_replicate] at q
    split at q
    · simp at q; omega
    · cases q
  have e2 : occ (List.replicate (2 * n) 0) 0 = List.replicate (2 * n) false := by simp [occ]
  rw [e1, e2] at h3
  have h4 := cb_small w n (by simp; omega)
  omega

end Go.Gh.Fan
