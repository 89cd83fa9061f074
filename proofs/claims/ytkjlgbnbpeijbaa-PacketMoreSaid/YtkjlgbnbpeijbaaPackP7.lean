/- The plain law of PacketMore. -/
import Derived.Test.YtkjlgbnbpeijbaaPackR
import Derived.Test.YtkjlgbnbpeijbaaPackM
import Derived.Test.YtkjlgbnbpeijbaaPackK
namespace Go.Gh.Pack
set_option linter.unusedVariables false
set_option linter.unusedSimpArgs false

theorem IsF_len : ∀ (a b l : List Int) (n : Nat), IsF a b l n → l.length = a.length
  | _ :: a, _ :: b, _ :: l, n, h => by
    have := IsF_len a b l _ h.2.2.2
    simp [this]
  | [], [], [], n, h => rfl
  | [], [], _ :: _, _, h => h.elim
  | [], _ :: _, _, _, h => h.elim
  | _ :: _, [], _, _, h => h.elim
  | _ :: _, _ :: _, [], _, h => h.elim
theorem IsF_mem : ∀ (a b l : List Int) (n : Nat), (∀ x ∈ a, 1 ≤ x) → IsF a b l n → ∀ x ∈ l, 0 ≤ x ∧ x ≤ n
  | s :: a, _ :: b, y :: l, n, ha, h => by
    obtain ⟨h1, h2, h3, h4⟩ := h
    have ih := IsF_mem a b l _ (fun z hz => ha z (by simp [hz])) h4
    have hs := ha s (by simp)
    have : y.toNat * 1 ≤ y.toNat * s.toNat := Nat.mul_le_mul_left _ (by omega)
    intro x hx
    rcases List.mem_cons.1 hx with rfl | hx
    · omega
    · have := ih x hx
      omega
  | [], [], [], n, _, h => by simp
  | [], [], _ :: _, _, _, h => h.elim
  | [], _ :: _, _, _, _, h => h.elim
  | _ :: _, [], _, _, _, h => h.elim
  | _ :: _, _ :: _, [], _, _, h => h.elim
theorem IsF_sub {c : Nat} {a w : List Int} (hs : a.Sublist w) : ∀ (l : List Int) (n : Nat), IsF a (full c a) l n → ∃ l', IsF w (full c w) l' n ∧ pk l' = pk l := by
  induction hs with
  | slnil => intro l n h; exact ⟨l, h, rfl⟩
  | @cons a w x _ ih =>
    intro l n h
    obtain ⟨l', h1, h2⟩ := ih l n h
    refine ⟨0 :: l', ?_, by simp [pk, h2]⟩
    show (0 : Int) ≤ 0 ∧ (0 : Int) ≤ ((c / x.toNat : Nat) : Int) ∧ (0 : Int).toNat * x.toNat ≤ n ∧ IsF w (full c w) l' (n - (0 : Int).toNat * x.toNat)
    refine ⟨Int.le_refl _, Int.natCast_nonneg _, by simp, ?_⟩
    rw [Int.toNat_zero, Nat.zero_mul, Nat.sub_zero]
    exact h1
  | @cons_cons a w x _ ih =>
    intro l n h
    cases l with
    | nil => exact h.elim
    | cons y l =>
      obtain ⟨h1, h2, h3, h4⟩ := h
      obtain ⟨l', g1, g2⟩ := ih l _ h4
      exact ⟨y :: l', ⟨h1, h2, h3, g1⟩, by simp [pk, g2]⟩

def Le2 : List Int → List Int → Prop
  | x :: a, y :: b => x ≤ y ∧ Le2 a b
  | [], [] => True
  | _, _ => False
theorem IsF_le : ∀ (a b b' l : List Int) (n : Nat), Le2 b b' → IsF a b l n → IsF a b' l n
  | _ :: a, _ :: b, _ :: b', _ :: l, n, hb, h => ⟨h.1, Int.le_trans h.2.1 hb.1, h.2.2.1, IsF_le a b b' l _ hb.2 h.2.2.2⟩
  | [], [], [], [], n, _, h => h
  | _, _ :: _, [], _, _, hb, _ => hb.elim
  | _, [], _ :: _, _, _, hb, _ => hb.elim
  | [], [], [], _ :: _, _, _, h => h.elim
  | [], _ :: _, _ :: _, _, _, _, h => h.elim
  | _ :: _, [], [], _, _, _, h => h.elim
  | _ :: _, _ :: _, _ :: _, [], _, _, h => h.elim

theorem f50_p1_eq {F : Nat} {l : List Int} (hl : l.length ≤ 5) (hx : ∀ x ∈ l, 0 ≤ x ∧ x ≤ 1000) : ∀ (k i : Nat) (acc : Int), i ≤ l.length → l.length < k + i → 0 ≤ acc → acc ≤ 1000 * i → f50_p1 F l k acc i = some (acc + pk (l.drop i)) := by
  intro k
  induction k with
  | zero => intro i acc _ h; omega
  | succ k ih =>
    intro i acc h1 h2 h3 h4
    unfold f50_p1
    by_cases hi : i < l.length
    · have := hx _ (List.getElem_mem hi)
      rw [if_pos (by simp; omega), at_get hi, Option.bind_some, if_neg (show ¬ 0 > l[i] by omega), if_neg (by omega), w64_in (by omega), w64_succ (by omega), ih (i + 1) _ (by omega) (by omega) (by omega) (by omega), drop_cons hi, pk]
      congr 1; omega
    · rw [if_neg (by simp; omega), List.drop_eq_nil_of_le (by omega)]
      simp [pk]
theorem f50_eq {l : List Int} (hl : l.length ≤ 5) (hx : ∀ x ∈ l, 0 ≤ x ∧ x ≤ 1000) : f50 1100 l = some (pk l) := by
  have e := f50_p1_eq (F := 1100) hl hx 1100 0 0 (by omega) (by omega) (by omega) (by omega)
  rw [List.drop_zero, Int.zero_add] at e
  unfold f50
  rw [show f50_p1 1100 l 1100 0 0 = _ from e, Option.bind_some]

/-- A best filling, and one of more sizes or packets that is no worse. -/
theorem cmp {a b w v : List Int} {n : Nat} (hn : n ≤ 1000) (ha : GoodM a b) (hw : GoodM w v) (h : ∀ l, IsF a b l n → ∃ l', IsF w v l' n ∧ pk l' = pk l) :
    (∃ l1 l2 p1 p2, fillR a b n = (l1, 0) ∧ fillR w v n = (l2, 0) ∧ l1.length = a.length ∧ l2.length = w.length ∧ f50 1100 l1 = some p1 ∧ f50 1100 l2 = some p2 ∧ p2 ≤ p1) ∨ fillR a b n = ([], 12) := by
  unfold fillR
  have b1 := fw_bd a b n
  have b2 := fw_bd w v n
  by_cases h1 : fw a b n = 1001
  · exact .inr (by rw [if_pos h1])
  · obtain ⟨o1, o2⟩ := opt2 a b n ha.len.symm (fun x hx => (ha.st x hx).1) (by omega)
    obtain ⟨l', q1, q2⟩ := h _ o1
    have := opt1 _ _ _ _ q1
    have hpos : ∀ x ∈ a, (1 : Int) ≤ x := fun x hx => (ha.sz x hx).1
    have hposw : ∀ x ∈ w, (1 : Int) ≤ x := fun x hx => (hw.sz x hx).1
    have h2 : ¬ fw w v n = 1001 := by omega
    obtain ⟨o3, o4⟩ := opt2 w v n hw.len.symm (fun x hx => (hw.st x hx).1) (by omega)
    have l1 := IsF_len _ _ _ _ o1
    have l2 := IsF_len _ _ _ _ o3
    have f5a := ha.five
    have f5w := hw.five
    rw [if_neg h1, if_neg h2]
    refine .inl ⟨_, _, _, _, rfl, rfl, l1, l2, f50_eq (by omega) (fun x hx => ?_), f50_eq (by omega) (fun x hx => ?_), by omega⟩
    · have := IsF_mem _ _ _ _ hpos o1 x hx; omega
    · have := IsF_mem _ _ _ _ hposw o3 x hx; omega

theorem full_good {a : List Int} (hck : ck a = 0) {n : Nat} (hn : n ≤ 1000) : GoodM a (full n a) := by
  obtain ⟨c1, c2, _⟩ := ck_zero hck
  refine ⟨full_len n a, c2, ck_all hck, fun x hx => ?_⟩
  obtain ⟨s, _, rfl⟩ := List.mem_map.1 hx
  have := Nat.div_le_self n s.toNat
  generalize n / s.toNat = z at *
  omega

theorem mk_cmp {a w : List Int} {n : Nat} (hn : n ≤ 1000) (ha : ck a = 0) (hw : ck w = 0) (hs : a.Sublist w) :
    (∃ l1 l2 p1 p2, f19 1100 a n = some (l1, 0) ∧ f19 1100 w n = some (l2, 0) ∧ l1.length = a.length ∧ l2.length = w.length ∧ f50 1100 l1 = some p1 ∧ f50 1100 l2 = some p2 ∧ p2 ≤ p1) ∨ ∃ r, f19 1100 a n = some ([], 12) ∧ f19 1100 w n = some r := by
  rw [f19_eq ha hn, f19_eq hw hn]
  rcases cmp hn (full_good ha hn) (full_good hw hn) (fun l hl => IsF_sub hs l n hl) with ⟨l1, l2, p1, p2, h1, h2, h3⟩ | h
  · exact .inl ⟨l1, l2, p1, p2, by rw [h1], by rw [h2], h3⟩
  · exact .inr ⟨_, by rw [h], rfl⟩
theorem fl_cmp {a b u : List Int} {n : Nat} (hn : n ≤ 1000) (hb : stk a b = 0) (hu : stk a u = 0) (hle : Le2 b u) :
    (∃ l1 l2 p1 p2, f51 1100 a b n = some (l1, 0) ∧ f51 1100 a u n = some (l2, 0) ∧ l1.length = a.length ∧ l2.length = a.length ∧ f50 1100 l1 = some p1 ∧ f50 1100 l2 = some p2 ∧ p2 ≤ p1) ∨ ∃ r, f51 1100 a b n = some ([], 12) ∧ f51 1100 a u n = some r := by
  have gb := Good.of hb
  have gu := Good.of hu
  have l1 := gb.len
  have l2 := gu.len
  have l3 := gb.five
  have ob : od a b n = 0 := by unfold od; rw [if_pos hb, if_pos (by omega)]
  have ou : od a u n = 0 := by unfold od; rw [if_pos hu, if_pos (by omega)]
  rw [f51_eq (by omega) (by omega), f51_eq (by omega) (by omega), if_pos ob, if_pos ou, Int.toNat_natCast]
  rcases cmp hn gb.m gu.m (fun l hl => ⟨l, IsF_le _ _ _ _ _ hle hl, rfl⟩) with ⟨l1, l2, p1, p2, h1, h2, h3⟩ | h
  · exact .inl ⟨l1, l2, p1, p2, by rw [h1], by rw [h2], h3⟩
  · exact .inr ⟨_, by rw [h], rfl⟩

/- A stock that is enough. -/
theorem mv_congr {s : Nat} {g g' : Nat → Int} {x : Nat} (h : ∀ z, z ≤ x → g z = g' z) : ∀ c, mv s g c x = mv s g' c x ∧ ma s g c x = ma s g' c x
  | 0 => ⟨h x (Nat.le_refl _), rfl⟩
  | c + 1 => by
    obtain ⟨h1, h2⟩ := mv_congr h c
    have e := h (x - (c + 1) * s) (Nat.sub_le _ _)
    constructor
    · show (if _ then _ else _) = if _ then _ else _
      rw [h1, e]
    · show (if _ then _ else _) = if _ then _ else _
      rw [h1, h2, e]
theorem mv_cap {s : Nat} {g : Nat → Int} {x c : Nat} (h : ∀ j, c < j → ¬ j * s ≤ x) : ∀ d, mv s g (c + d) x = mv s g c x ∧ ma s g (c + d) x = ma s g c x
  | 0 => ⟨rfl, rfl⟩
  | d + 1 => by
    obtain ⟨h1, h2⟩ := mv_cap (g := g) h d
    have hn : ¬ (c + d + 1) * s ≤ x := h _ (by omega)
    constructor
    · show (if (c + d + 1) * s ≤ x ∧ _ then _ else _) = _
      rw [if_neg (fun hh => hn hh.1)]; exact h1
    · show (if (c + d + 1) * s ≤ x ∧ _ then _ else _) = _
      rw [if_neg (fun hh => hn hh.1)]; exact h2
theorem fw_cap {k : Nat} : ∀ (a : List Int), (∀ x ∈ a, 1 ≤ x ∧ (k : Int) ≤ 40 * x) → ∀ y, y ≤ k → fw a (List.replicate a.length 40) y = fw a (full k a) y ∧ fillL a (List.replicate a.length 40) y = fillL a (full k a) y
  | [], _, _, _ => ⟨rfl, rfl⟩
  | s :: a, h, y, hy => by
    have ih := fw_cap a fun x hx => h x (by simp [hx])
    have hs := h s (by simp)
    have hdiv : k / s.toNat ≤ 40 := by
      have h1 : k / s.toNat ≤ (40 * s.toNat) / s.toNat := Nat.div_le_div_right (by omega)
      rwa [Nat.mul_div_cancel _ (by omega)] at h1
    obtain ⟨d, ed⟩ : ∃ d, 40 = k / s.toNat + d := ⟨40 - k / s.toNat, by omega⟩
    have hcap : ∀ j, k / s.toNat < j → ¬ j * s.toNat ≤ y := fun j hj hh => by
      have := (Nat.div_lt_iff_lt_mul (show 0 < s.toNat by omega)).1 hj
      omega
    have hc := mv_congr (s := s.toNat) (x := y) (fun z hz => (ih z (by omega)).1) (k / s.toNat)
    have hd := mv_cap (g := fw a (List.replicate a.length 40)) hcap d
    rw [← ed] at hd
    have e1 : mv s.toNat (fw a (List.replicate a.length 40)) 40 y = mv s.toNat (fw a (full k a)) (k / s.toNat) y := hd.1.trans hc.1
    have e2 : ma s.toNat (fw a (List.replicate a.length 40)) 40 y = ma s.toNat (fw a (full k a)) (k / s.toNat) y := hd.2.trans hc.2
    constructor
    · show val s.toNat (Int.toNat 40) _ y = val s.toNat (Int.toNat ((k / s.toNat : Nat) : Int)) _ y
      unfold val
      rw [Int.toNat_natCast, show Int.toNat 40 = 40 from rfl, e1]
      rfl
    · show ((ma s.toNat _ (Int.toNat 40) y : Nat) : Int) :: fillL a _ (y - ma s.toNat _ (Int.toNat 40) y * _) = ((ma s.toNat _ (Int.toNat ((k / s.toNat : Nat) : Int)) y : Nat) : Int) :: fillL a (full k a) _
      rw [Int.toNat_natCast, show Int.toNat 40 = 40 from rfl, e2, (ih _ (by omega)).2]
      rfl
theorem eq_k {a : List Int} {k : Nat} (hck : ck a = 0) (hk : k ≤ 1000) (h : ∀ x ∈ a, (k : Int) ≤ 40 * x) : ∃ l e, f51 1100 a (List.replicate a.length 40) k = some (l, e) ∧ f19 1100 a k = some (l, e) ∧ l.length ≤ 5 := by
  obtain ⟨c1, c2, _⟩ := ck_zero hck
  have hs := ck_all hck
  have hst : stk a (List.replicate a.length 40) = 0 := by
    unfold stk
    rw [if_pos hck, if_pos (by simp), if_pos (stOk_iff.2 fun x hx => by rw [(List.mem_replicate.1 hx).2]; decide)]
  have ho : od a (List.replicate a.length 40) k = 0 := by unfold od; rw [if_pos hst, if_pos (by omega)]
  have e := fw_cap (k := k) a (fun x hx => ⟨(hs x hx).1, h x hx⟩) k (Nat.le_refl _)
  refine ⟨(fillR a (full k a) k).1, (fillR a (full k a) k).2, ?_, f19_eq hck hk, ?_⟩
  · rw [f51_eq (by omega) (by simp; omega), if_pos ho, Int.toNat_natCast]
    unfold fillR
    rw [e.1, e.2]
  · unfold fillR
    split
    · simp
    · have fl : ∀ (a b : List Int) (m : Nat), (fillL a b m).length ≤ a.length := by
        intro a
        induction a with
        | nil => intro b m; simp [fillL]
        | cons s a ih =>
          intro b m
          cases b with
          | nil => simp [fillL]
          | cons c b =>
            have := ih b (m - ma s.toNat (fw a b) c.toNat m * s.toNat)
            simp only [fillL, List.length_cons]; omega
      have := fl a (full k a) k
      show (fillL a (full k a) k).length ≤ 5
      omega

/- One more size. -/
theorem srt_app : ∀ (q r : List Int) (x : Int), srt r (q ++ [x]) = ins x (srt r q)
  | [], _, _ => rfl
  | y :: q, r, x => srt_app q (ins y r) x
theorem ins_top {x : Int} : ∀ {r : List Int}, (∀ y ∈ r, y < x) → ins x r = x :: r
  | [], _ => rfl
  | y :: r, h => by
    have := h y (by simp)
    rw [ins, if_neg (by omega)]
theorem srt_asc : ∀ (q r : List Int), q.Pairwise (· < ·) → (∀ x ∈ q, ∀ y ∈ r, y < x) → srt r q = q.reverse ++ r
  | [], r, _, _ => rfl
  | x :: q, r, h, hr => by
    rw [List.pairwise_cons] at h
    rw [srt, ins_top (hr x (by simp)), srt_asc q (x :: r) h.2 fun z hz y hy => by
      rcases List.mem_cons.1 hy with rfl | hy
      · exact h.1 z hz
      · exact hr z (by simp [hz]) y hy]
    simp
theorem ins_sub (x : Int) : ∀ r : List Int, r.Sublist (ins x r)
  | [] => by simp
  | y :: r => by
    simp only [ins]
    split
    · exact (ins_sub x r).cons_cons y
    · exact List.Sublist.cons _ (List.Sublist.refl _)
theorem ckL_pw : ∀ (l : List Int) (p : Int), ckL p l = 0 → l.Pairwise (· < ·)
  | [], _, _ => List.Pairwise.nil
  | x :: r, p, h => by
    have h0 := h
    simp only [ckL] at h
    split at h
    · split at h
      · cases h
      · rw [List.pairwise_cons]
        exact ⟨fun y hy => by have := ckL_all r x h y hy; omega, ckL_pw r x h⟩
    · cases h
theorem wide_eq {a : List Int} {x : Int} (hck : ck a = 0) (h4 : a.length ≤ 4) (hx : 1 ≤ x ∧ x ≤ 30) (hm : x ∉ a) : f49 1100 (a ++ [x]) = some (srt [] (a ++ [x])).reverse ∧ ck (srt [] (a ++ [x])).reverse = 0 ∧ a.Sublist (srt [] (a ++ [x])).reverse ∧ (srt [] (a ++ [x])).reverse.length = a.length + 1 := by
  obtain ⟨c1, c2, c3⟩ := ck_zero hck
  have hs := ck_all hck
  have hp := ckL_pw a 0 c3
  have hl : (srt [] (a ++ [x])).length = a.length + 1 := by rw [srt_len]; simp
  have e : srt [] (a ++ [x]) = ins x a.reverse := by rw [srt_app, srt_asc a [] hp (by simp), List.append_nil]
  have hd : (ins x a.reverse).Pairwise (· > ·) := ins_desc (by rw [List.pairwise_reverse]; exact hp) (by simpa using hm)
  refine ⟨f49_eq (by simp; omega), ?_, ?_, by rw [List.length_reverse, hl]⟩
  · unfold ck
    rw [if_neg (by rw [List.length_reverse]; omega), if_neg (by rw [List.length_reverse]; omega), e]
    refine ckL_asc _ 0 (by rw [List.pairwise_reverse]; exact hd) fun y hy => ?_
    rw [List.mem_reverse, ins_mem, List.mem_reverse] at hy
    rcases hy with rfl | hy
    · omega
    · have := hs y hy; omega
  · rw [e]
    have := (ins_sub x a.reverse).reverse
    rwa [List.reverse_reverse] at this

theorem f47_4m_eq {F : Nat} {l : List Int} (hl : l.length ≤ 5000) : f47_4m F l = some l := by
  unfold f47_4m
  cases l with
  | nil => rfl
  | cons x r =>
    simp only [nilm, f47_4, Option.isNone_some, Option.getD_some]
    rw [if_neg (by decide), req_pos (by simp at hl ⊢; omega)]
    simp

def adds : List Int → List Int → List Int
  | c :: b, z :: t => (if c + z % 9 < 40 then c + z % 9 else 40) :: adds b t
  | _, _ => []
theorem adds_le : ∀ (b t : List Int), b.length ≤ t.length → (∀ x ∈ b, 0 ≤ x ∧ x ≤ 40) → Le2 b (adds b t) ∧ (adds b t).length = b.length ∧ ∀ x ∈ adds b t, 0 ≤ x ∧ x ≤ 40
  | [], t, _, _ => by cases t <;> simp [adds, Le2]
  | c :: b, [], h, _ => by simp at h
  | c :: b, z :: t, h, hb => by
    obtain ⟨h1, h2, h3⟩ := adds_le b t (by simpa using h) fun x hx => hb x (by simp [hx])
    have hc := hb c (by simp)
    have hz := Int.emod_nonneg z (b := 9) (by omega)
    refine ⟨⟨by split <;> omega, h1⟩, by simp [adds, h2], fun x hx => ?_⟩
    rcases List.mem_cons.1 hx with rfl | hx
    · split <;> omega
    · exact h3 x hx
theorem f7_p3_eq {F : Nat} {a b t : List Int} {m : Int} (hb4 : b.length ≤ 4) (ht : t.length = 4) (htr : ∀ x ∈ t, 0 ≤ x ∧ x ≤ 255) (hb : ∀ x ∈ b, 0 ≤ x ∧ x ≤ 40) : ∀ (k i : Nat) (u v : List Int), i ≤ b.length → b.length < k + i → u.length ≤ i → v.length ≤ i →
    f7_p3 F a b m t k i u v = some (u ++ adds (b.drop i) (t.drop i), v ++ List.replicate (b.length - i) 40) := by
  intro k
  induction k with
  | zero => intro i u v _ h; omega
  | succ k ih =>
    intro i u v h1 h2 h3 h4
    unfold f7_p3
    by_cases hi : i < b.length
    · have hit : i < t.length := by omega
      have hx := htr _ (List.getElem_mem hit)
      have hc := hb _ (List.getElem_mem hi)
      have q0 := Int.emod_nonneg t[i] (b := 9) (by omega)
      have q1 := Int.emod_lt_of_pos t[i] (b := 9) (by omega)
      have e : w64 (b[i] + Int.tmod (w64 t[i]) 9) = b[i] + t[i] % 9 := by
        rw [w64_in (n := t[i]) (by omega), Int.tmod_eq_emod_of_nonneg (by omega), w64_in (by omega)]
      rw [if_pos (by simp; omega), at_get hi, Option.bind_some, req_pos (by omega), Int.toNat_natCast, Nat.mul_one, Nat.zero_add, List.getElem?_eq_getElem hit, Option.bind_some, req_pos (by simp; omega), req_pos (by simp; omega), e, w64_succ (by omega), ih (i + 1) _ _ (by omega) (by omega) (by simp; omega) (by simp; omega), drop_cons hi, drop_cons hit, adds, show b.length - i = (b.length - (i + 1)) + 1 by omega, List.replicate_succ]
      simp
    · rw [if_neg (by simp; omega), List.drop_eq_nil_of_le (by omega), show b.length - i = 0 by omega]
      simp [adds]
theorem f7_p3_1_eq {F : Nat} {a b t : List Int} {m : Int} : ∀ (k : Nat) (i : Int) (u v : List Int), f7_p3_1 F a b m t k i u v = f7_p3 F a b m t k i u v := by
  intro k
  induction k with
  | zero => intro _ _ _; rfl
  | succ k ih => intro i u v; simp only [f7_p3_1, f7_p3, ih]
theorem f7_p3_2_eq {F : Nat} {a b t : List Int} {m : Int} : ∀ (k : Nat) (i : Int) (u v : List Int), f7_p3_2 F a b m t k i u v = f7_p3 F a b m t k i u v := by
  intro k
  induction k with
  | zero => intro _ _ _; rfl
  | succ k ih => intro i u v; simp only [f7_p3_2, f7_p3, ih]
theorem f7_p3_3_eq {F : Nat} {a b t : List Int} {m : Int} : ∀ (k : Nat) (i : Int) (u v : List Int), f7_p3_3 F a b m t k i u v = f7_p3 F a b m t k i u v := by
  intro k
  induction k with
  | zero => intro _ _ _; rfl
  | succ k ih => intro i u v; simp only [f7_p3_3, f7_p3, ih]

end Go.Gh.Pack
