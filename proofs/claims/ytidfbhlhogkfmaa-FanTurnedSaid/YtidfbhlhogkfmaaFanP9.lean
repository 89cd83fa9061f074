/- The plain law of FanTurned. -/
import Derived.Test.YtidfbhlhogkfmaaFanM
import Derived.Test.YtidfbhlhogkfmaaFanP10
import Derived.Test.YtidfbhlhogkfmaaFanQ
import Derived.Test.YtidfbhlhogkfmaaFanX
namespace Go.Gh.Fan
set_option linter.unusedVariables false
set_option linter.unusedSimpArgs false

theorem atv_rev {l : List Int} {i : Nat} (h : i < l.length) : atv l.reverse i = atv l (l.length - 1 - i) := by
  unfold atv
  rw [List.getElem?_reverse h]

theorem mem_rev {l : List Int} {k x : Int} : x ∈ posF 0 l.reverse k ↔ ((l.length : Int) - 1 - x) ∈ posF 0 l k := by
  constructor
  · intro h
    obtain ⟨h1, h2⟩ := mem_pos.1 h
    have hlt := (List.getElem?_eq_some_iff.1 h2).1
    rw [List.length_reverse] at hlt
    rw [List.getElem?_reverse hlt] at h2
    exact mem_pos.2 ⟨by omega, by rwa [show ((l.length : Int) - 1 - x).toNat = l.length - 1 - x.toNat by omega]⟩
  · intro h
    obtain ⟨h1, h2⟩ := mem_pos.1 h
    have hlt := (List.getElem?_eq_some_iff.1 h2).1
    have h0 : 0 ≤ x := by
      have := posF_mem h
      omega
    refine mem_pos.2 ⟨h0, ?_⟩
    rw [List.getElem?_reverse (by omega)]
    rwa [show l.length - 1 - x.toNat = ((l.length : Int) - 1 - x).toNat by omega]

theorem pos_rev_nil {l : List Int} {k : Int} (h : posF 0 l k = []) : posF 0 l.reverse k = [] := by
  apply List.eq_nil_iff_forall_not_mem.2
  intro x hx
  have := mem_rev.1 hx
  rw [h] at this; cases this

theorem pos_rev_two {l : List Int} {k : Int} {a d : Nat} (hd : 1 ≤ d) (h : posF 0 l k = [(a : Int), ((a + d : Nat) : Int)]) (hl : a + d < l.length) :
    posF 0 l.reverse k = [((l.length - 1 - (a + d) : Nat) : Int), ((l.length - 1 - (a + d) + d : Nat) : Int)] := by
  apply sorted_ext (sorted_pos _ _ _)
  · simp; omega
  · intro x
    rw [mem_rev, h]
    simp only [List.mem_cons, List.not_mem_nil, or_false]
    omega

theorem rev_val {n : Int} {w : Bool} {l : List Int} (v : Val n w l) : Val n w l.reverse := by
  refine ⟨v.rng, by rw [List.length_reverse]; exact v.len, fun x hx => v.inr x (List.mem_reverse.1 hx), fun k h1 h2 => ?_⟩
  obtain ⟨k, rfl⟩ := Int.eq_ofNat_of_zero_le (show 0 ≤ k by omega)
  by_cases h0 : posF 0 l (k : Int) = []
  · rw [pos_rev_nil h0]; rfl
  · obtain ⟨a, e1, e2, _⟩ := v.both (by omega) h0
    have hd := dN_rng (w := w) (k := k) (by omega)
    rw [pos_rev_two hd.1 e1 e2]
    simp [errP, dist_nat]

theorem rev_Q {n : Int} {w : Bool} {l x : List Int} (h : Q n w l x) : Q n w l.reverse x.reverse := by
  obtain ⟨v, h0, hs⟩ := h
  have hl := hs.1
  refine ⟨rev_val v, pos_rev_nil h0, by simp [hl], fun i hi hn => ?_⟩
  rw [List.length_reverse] at hi
  rw [atv_rev hi] at hn ⊢
  rw [atv_rev (by omega), hl]
  exact hs.2 _ (by omega) hn

theorem rev_count {n : Int} {w : Bool} {l : List Int} (v : Val n w l) : (comp w n.toNat l.reverse).length = (comp w n.toNat l).length := by
  have key : ∀ {l : List Int}, Val n w l → (comp w n.toNat l).length ≤ (comp w n.toNat l.reverse).length := by
    intro l v
    have hn : ((comp w n.toNat l).map List.reverse).Nodup := by
      refine List.Pairwise.map _ (fun a b h e => h ?_) (all_nodup v)
      rw [← List.reverse_reverse a, e, List.reverse_reverse]
    have := hn.length_le_of_subset (l₂ := comp w n.toNat l.reverse) fun x hx => by
      obtain ⟨y, hy, rfl⟩ := List.mem_map.1 hx
      exact (all_mem (rev_val v)).2 (rev_Q ((all_mem v).1 hy))
    simpa using this
  have h1 := key v
  have h2 := key (rev_val v)
  rw [List.reverse_reverse] at h2
  omega

theorem f47_val {n : Int} {w : Bool} {l : List Int} (v : Val n w l) : f47 100 n w l = some (n, w, l.reverse, 0) := by
  have hr := v.rng
  have hlen := v.len
  obtain ⟨m, rfl⟩ := Int.eq_ofNat_of_zero_le (show 0 ≤ n by omega)
  have hne : l ≠ [] := by intro e; subst e; simp at hlen; omega
  unfold f47
  rw [f57_eq (by omega) (by omega), if_pos (code_zero.2 v)]
  simp only [Option.bind_some, bne_self_eq_false, f62_1, f59]
  rw [w64_in (n := 2 * (m : Int)) (by omega), show 2 * (m : Int) = ((l.length : Nat) : Int) by omega, Int.toNat_natCast, Nat.zero_add, row_take (by omega)]
  rw [req_pos (by omega)]
  simp only [List.drop_zero, f44_2]
  rw [req_pos hne, req_pos (by simp; omega)]
  simp only [Option.bind_some, List.nil_append]
  rw [req_pos (by rw [tab_len]; omega)]
  simp only [Option.bind_some, Bool.false_eq_true, if_false]
  rw [f76_eq (by omega) (by omega)]
  simp only [Option.bind_some]
  rw [req_pos (by simp)]
  have : List.take (0 + l.length) l.reverse = l.reverse := by rw [Nat.zero_add, List.take_of_length_le (by simp)]
  rw [this]

theorem f9_p2_eq {F : Nat} {l : List Int} (hl : l.length ≤ 100) (a : Int) (b : Bool) (c : Int) (d : Bool) : ∀ (m i f : Nat), m < f → i + m = l.length → f9_p2 F l a b c d l.reverse f i = some .c1
  | 0, i, f + 1, _, hi => by
    obtain rfl : i = l.length := by omega
    simp [f9_p2]
  | m + 1, i, f + 1, hf, hi => by
    have hlt : (i : Int) < ((l.length : Nat) : Int) := by omega
    simp only [f9_p2, decide_eq_true hlt, if_true, List.length_reverse]
    rw [at_atv (by omega), w64_in (n := (l.length : Int) - 1) (by omega), w64_in (n := (l.length : Int) - 1 - i) (by omega), show (l.length : Int) - 1 - i = ((l.length - 1 - i : Nat) : Int) by omega]
    rw [at_atv (l := l.reverse) (by rw [List.length_reverse]; omega), atv_rev (by omega), show l.length - 1 - (l.length - 1 - i) = i by omega, w64_nat (by omega), f9_p2_eq hl a b c d m (i + 1) f (by omega) (by omega)]
    simp

end Go.Gh.Fan
