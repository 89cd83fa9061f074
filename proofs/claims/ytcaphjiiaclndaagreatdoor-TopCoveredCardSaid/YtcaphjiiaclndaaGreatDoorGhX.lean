/- All orders of a region that draws. -/
import Derived.Test.YtcaphjiiaclndaaGreatDoorGhW
namespace Go.Gh
set_option linter.unusedVariables false
set_option linter.unusedSimpArgs false

theorem SR.drawn {cx : Cx} {n : Nat} {E : Nat → G} {H : Heap} {μ : Map} {a : Act} {w : World} (hcx : CxOK cx) (h : SR cx n E H μ a w) (k : Nat) : SR cx n E H μ a { w with drawn := k } ∧ Ev μ H w μ H { w with drawn := k } := by
 obtain ⟨h1, h2⟩ := h.heap.same (w' := { w with drawn := k }) (Nat.le_refl _) rfl rfl rfl fun _ _ => rfl
 exact ⟨⟨h1, fun t => VG.ext (μ := μ) h2.ext (fun _ _ => rfl) (h.env t), h.defers.ext h2, h.size, fun g => VA.ext (μ := μ) h2.ext (fun _ _ => rfl) (h.glob g)⟩, h2⟩

theorem countP_lt {p q : Nat → Bool} : {l : List Nat} → (∀ j, q j = true → p j = true) → (i : Nat) → i ∈ l → p i = true → q i = false → l.countP q < l.countP p
 | [], _, _, h, _, _ => by cases h
 | x :: l, hle, i, h, hp, hq => by
  have hmono : ∀ l : List Nat, l.countP q ≤ l.countP p := fun l => List.countP_mono_left fun j _ hj => hle j hj
  rw [List.countP_cons, List.countP_cons]
  rcases List.mem_cons.1 h with rfl | h
  ·have := hmono l
   rw [hp, hq]; simp; omega
  ·have := countP_lt hle i h hp hq
   by_cases hx : q x = true
   ·rw [hx, hle x hx]; simp; omega
   ·have hx' : q x = false := by simpa using hx
    rw [hx']; simp; omega

section
variable {cx : Cx} {M : List Nat} {n : Nat} {ops : Array Oper} {s s' : GS} {rs : List Rec}

def unl (ops : Array Oper) (listed : Array Bool) : Nat := (List.range ops.size).countP fun j => !listed.getD j false

theorem getD_tf {listed : Array Bool} {j : Nat} (h : listed.getD j true = false) : j < listed.size ∧ listed.getD j false = false := by
 rw [Array.getD_eq_getD_getElem?] at *
 rcases Nat.lt_or_ge j listed.size with h1 | h1
 ·rw [Array.getElem?_eq_getElem h1] at *; exact ⟨h1, h⟩
 ·rw [Array.getElem?_eq_none h1] at h; cases h

theorem draw_any (hcx : CxOK cx) (hlen : rs.length = ops.size)
  (hrec : ∀ i o, ops[i]? = some o → ∃ r, rs[i]? = some r ∧ RecOK cx M n ops o (stF (below i) (wEs rs) 0 (envOf s.env)) (stF (below i) (wHs rs) 0 (mapOf s.hp)) r ∧
   (∀ e ∈ o.after.toList, Region.binds .any e = true → e.on < i) ∧ ∀ k, r.pre.testBit k = true → ∃ e ∈ o.after.toList, Region.binds .any e = true ∧ (k = e.on ∨ ((rs.map Rec.pre).getD e.on 0).testBit k = true))
  (hE : envOf s'.env = stF (fun _ => true) (wEs rs) 0 (envOf s.env)) (hHp : mapOf s'.hp = stF (fun _ => true) (wHs rs) 0 (mapOf s.hp)) (hd : DrawOK s rs) {Q : Exit → Act → World → Prop} :
  ∀ (fuel : Nat) (listed : Array Bool) (μ : Map) (a : Act) (w : World), listed.size = ops.size → (∀ j r, rs[j]? = some r → listed.getD j false = true → ∀ k, r.pre.testBit k = true → listed.getD k false = true) → unl ops listed ≤ fuel →
   SR cx n (stF (fun j => listed.getD j false) (wEs rs) 0 (envOf s.env)) (stF (fun j => listed.getD j false) (wHs rs) 0 (mapOf s.hp)) μ a w →
   (∀ μ' a' w', SRL cx n s' μ' a' w' → Ev μ (stF (fun j => listed.getD j false) (wHs rs) 0 (mapOf s.hp)) w μ' (mapOf s'.hp) w' → (∀ m, m ∉ M → μ' m = μ m) → Q .normal a' w') →
   wpAnyIn cx.F 0 cx.P .any ops Q fuel listed a w := by
 have wEat : ∀ {j : Nat} {r : Rec}, rs[j]? = some r → (wEs rs)[j]? = some r.wE := by intro j r h; simp [wEs, h]
 have wHat : ∀ {j : Nat} {r : Rec}, rs[j]? = some r → (wHs rs)[j]? = some r.wH := by intro j r h; simp [wHs, h]
 have wEof : ∀ {j : Nat} {w : List (Nat × G)}, (wEs rs)[j]? = some w → ∃ r, rs[j]? = some r ∧ w = r.wE := by
  intro j w h; simp only [wEs, List.getElem?_map, Option.map_eq_some_iff] at h; obtain ⟨r, h1, h2⟩ := h; exact ⟨r, h1, h2.symm⟩
 have wHof : ∀ {j : Nat} {w : List (Nat × Option Blk)}, (wHs rs)[j]? = some w → ∃ r, rs[j]? = some r ∧ w = r.wH := by
  intro j w h; simp only [wHs, List.getElem?_map, Option.map_eq_some_iff] at h; obtain ⟨r, h1, h2⟩ := h; exact ⟨r, h1, h2.symm⟩
 have lt : ∀ {j : Nat} {r : Rec}, rs[j]? = some r → j < ops.size := by
  intro j r h
  rw [← hlen]
  rcases Nat.lt_or_ge j rs.length with h1 | h1
  ·exact h1
  ·rw [List.getElem?_eq_none h1] at h; cases h
 -- all have come up
 have done : ∀ (listed : Array Bool) (μ : Map) (a : Act) (w : World), (∀ j, j < ops.size → listed.getD j false = true) →
   SR cx n (stF (fun j => listed.getD j false) (wEs rs) 0 (envOf s.env)) (stF (fun j => listed.getD j false) (wHs rs) 0 (mapOf s.hp)) μ a w →
   (∀ μ' a' w', SRL cx n s' μ' a' w' → Ev μ (stF (fun j => listed.getD j false) (wHs rs) 0 (mapOf s.hp)) w μ' (mapOf s'.hp) w' → (∀ m, m ∉ M → μ' m = μ m) → Q .normal a' w') → Q .normal a w := by
  intro listed μ a w hall hs k
  have e1 : stF (fun j => listed.getD j false) (wEs rs) 0 (envOf s.env) = envOf s'.env := by
   rw [hE]; funext t
   refine stF_congr (fun j w' hj _ => ?_) rfl
   obtain ⟨r, hr, _⟩ := wEof hj
   simp only [Nat.zero_add]; exact hall j (lt hr)
  have e2 : stF (fun j => listed.getD j false) (wHs rs) 0 (mapOf s.hp) = mapOf s'.hp := by
   rw [hHp]; funext t
   refine stF_congr (fun j w' hj _ => ?_) rfl
   obtain ⟨r, hr, _⟩ := wHof hj
   simp only [Nat.zero_add]; exact hall j (lt hr)
  rw [e1, e2] at hs
  rw [e2] at k
  exact k μ a w hs .refl fun _ _ => rfl
 -- none may come up: all have
 have stuck : ∀ (listed : Array Bool), listed.size = ops.size → Region.ready .any ops listed = [] → ∀ j, j < ops.size → listed.getD j false = true := by
  intro listed hsz h0 j
  induction j using Nat.strongRecOn with
  | _ j ih =>
   intro hj
   by_cases hl : listed.getD j false = true
   ·exact hl
   ·exfalso
    have hmem : j ∈ Region.ready .any ops listed := by
     rw [mem_ready]
     have hlt : j < listed.size := by omega
     refine ⟨?_, ops[j], by simp [hj], fun e he hb => ?_⟩
     ·rw [Array.getD_eq_getD_getElem?, Array.getElem?_eq_getElem hlt] at hl ⊢; simpa using hl
     ·obtain ⟨r, _, _, h3, _⟩ := hrec j ops[j] (by simp [hj])
      have hlt := h3 e (by simpa using he) hb
      exact ih e.on hlt (by omega)
    rw [h0] at hmem; cases hmem
 intro fuel
 induction fuel with
 | zero =>
  intro listed μ a w hsz hcl hun hs k
  have hall : ∀ j, j < ops.size → listed.getD j false = true := by
   intro j hj
   have h0 : (List.range ops.size).countP (fun j => !listed.getD j false) = 0 := Nat.le_zero.1 hun
   rw [List.countP_eq_zero] at h0
   have := h0 j (List.mem_range.2 hj)
   simpa using this
  refine ⟨?_, done listed μ a w hall hs k⟩
  cases hr : Region.ready .any ops listed with
  | nil => rfl
  | cons i l =>
   have hi : i ∈ Region.ready .any ops listed := by rw [hr]; simp
   obtain ⟨h1, o, ho, _⟩ := mem_ready.1 hi
   obtain ⟨h2, h3⟩ := getD_tf h1
   have := hall i (by omega)
   rw [h3] at this; cases this
 | succ fuel ih =>
  intro listed μ a w hsz hcl hun hs k
  refine ⟨fun h0 => done listed μ a w (stuck listed hsz h0) hs k, fun i hi => ?_⟩
  obtain ⟨hu, o, ho, hafter⟩ := mem_ready.1 hi
  obtain ⟨hlt, hun0⟩ := getD_tf hu
  obtain ⟨r, hr, hok, hedge, hpre⟩ := hrec i o ho
  have hafter' : ∀ e ∈ o.after.toList, Region.binds .any e = true → listed.getD e.on false = true := fun e he hb => hafter e (by simpa using he) hb
  -- what i waits for has come up
  have hpreS : ∀ k, r.pre.testBit k = true → listed.getD k false = true := by
   intro k hk
   obtain ⟨e, he, hb, h1⟩ := hpre k hk
   rcases h1 with rfl | h1
   ·exact hafter' e he hb
   ·have hon := hafter' e he hb
    cases hq : rs[e.on]? with
    | none => rw [List.getD_eq_getElem?_getD, List.getElem?_map, hq] at h1; simp at h1
    | some q =>
     rw [List.getD_eq_getElem?_getD, List.getElem?_map, hq] at h1
     exact hcl e.on q hq hon k h1
  -- what waits for i has not
  have hpost : ∀ (j : Nat) (q : Rec), rs[j]? = some q → q.pre.testBit i = true → listed.getD j false = false := by
   intro j q hq hk
   cases hl : listed.getD j false with
   | false => rfl
   | true => have := hcl j q hq hl i hk; rw [hun0] at this; cases this
  let S : Nat → Bool := fun j => listed.getD j false
  let S' : Nat → Bool := fun j => (listed.setIfInBounds i true).getD j false
  have hS'i : S' i = true := by
   show (listed.setIfInBounds i true).getD i false = true
   rw [Array.getD_eq_getD_getElem?]; simp [hlt]
  have hS'j : ∀ j, j ≠ i → S' j = S j := fun j hj => getD_set_ne false (Ne.symm hj)
  -- whoever touches what i touches: before i iff it has come up
  have key : ∀ (j : Nat) (q : Rec), rs[j]? = some q → (q.pre.testBit i = false → i < j → False) → (r.pre.testBit j = false → j < i → False) → S j = below i j := by
   intro j q hq h1 h2
   unfold below
   rcases Nat.lt_trichotomy j i with h | h | h
   ·cases hb : r.pre.testBit j with
    | false => exact (h2 hb h).elim
    | true => rw [show S j = true from hpreS j hb]; simp [h]
   ·subst h; rw [show S j = false from hun0]; simp
   ·cases hb : q.pre.testBit i with
    | false => exact (h1 hb h).elim
    | true => rw [show S j = false from hpost j q hq hb]; simp; omega
  have cE : ∀ t, t ∈ r.us ∨ t ∈ keys r.wE → ∀ (j : Nat) (q : Rec), rs[j]? = some q → t ∈ keys q.wE → S j = below i j := by
   intro t ht j q hq hk
   refine key j q hq (fun hp hij => ?_) (fun hp hij => ?_)
   ·obtain ⟨a1, a2, _, _⟩ := hd.ord i j r q hr hq hij hp
    rcases ht with ht | ht
    ·exact a2 t ht hk
    ·exact (a1 t ht).1 hk
   ·obtain ⟨a1, a2, _, _⟩ := hd.ord j i q r hq hr hij hp
    rcases ht with ht | ht
    ·exact (a1 t hk).2 ht
    ·exact (a1 t hk).1 ht
  have cH : ∀ t, t ∈ r.rd ∨ t ∈ keys r.wH → ∀ (j : Nat) (q : Rec), rs[j]? = some q → t ∈ keys q.wH → S j = below i j := by
   intro t ht j q hq hk
   refine key j q hq (fun hp hij => ?_) (fun hp hij => ?_)
   ·obtain ⟨_, _, a1, a2⟩ := hd.ord i j r q hr hq hij hp
    rcases ht with ht | ht
    ·exact a2 t ht hk
    ·exact (a1 t ht).1 hk
   ·obtain ⟨_, _, a1, a2⟩ := hd.ord j i q r hq hr hij hp
    rcases ht with ht | ht
    ·exact (a1 t hk).2 ht
    ·exact (a1 t hk).1 ht
  have notpre : ∀ (j : Nat) (q : Rec), rs[j]? = some q → S j = true → i ≠ j ∧ q.pre.testBit i = false := by
   intro j q hq hj
   refine ⟨fun e => ?_, ?_⟩
   ·subst e; rw [show S i = false from hun0] at hj; cases hj
   ·cases hb : q.pre.testBit i with
    | false => rfl
    | true => rw [show S j = false from hpost j q hq hb] at hj; cases hj
  have upE' : up r.wE (stF S (wEs rs) 0 (envOf s.env)) = stF S' (wEs rs) 0 (envOf s.env) := by
   funext t
   by_cases hk : t ∈ keys r.wE
   ·refine (stF_last _ (wEat hr) (by rw [Nat.zero_add]; exact hS'i) hk fun j w' hij hj hk' => ?_).symm
    obtain ⟨q, hq, rfl⟩ := wEof hj
    rw [Nat.zero_add, hS'j j (by omega), cE t (.inr hk) j q hq hk']; simp [below]; omega
   ·rw [up_not hk]
    refine stF_congr (fun j w' hj hk' => ?_) rfl
    obtain ⟨q, hq, rfl⟩ := wEof hj
    rw [Nat.zero_add, hS'j j (fun e => by subst e; rw [hr] at hq; cases hq; exact hk hk')]
  have upH' : up r.wH (stF S (wHs rs) 0 (mapOf s.hp)) = stF S' (wHs rs) 0 (mapOf s.hp) := by
   funext t
   by_cases hk : t ∈ keys r.wH
   ·refine (stF_last _ (wHat hr) (by rw [Nat.zero_add]; exact hS'i) hk fun j w' hij hj hk' => ?_).symm
    obtain ⟨q, hq, rfl⟩ := wHof hj
    rw [Nat.zero_add, hS'j j (by omega), cH t (.inr hk) j q hq hk']; simp [below]; omega
   ·rw [up_not hk]
    refine stF_congr (fun j w' hj hk' => ?_) rfl
    obtain ⟨q, hq, rfl⟩ := wHof hj
    rw [Nat.zero_add, hS'j j (fun e => by subst e; rw [hr] at hq; cases hq; exact hk hk')]
  unfold wpOpIn
  simp only [ho]
  refine hok μ a w _ _ (wpAnyIn cx.F 0 cx.P .any ops Q fuel (listed.setIfInBounds i true)) Q hs (fun t ht => ?_) (fun t ht => ?_) (fun t ht => ?_) (fun t b ht hb => ?_) (fun μ' a' w' g1 g2 g3 => ?_)
  ·refine stF_congr (fun j w' hj hk' => ?_) rfl
   obtain ⟨q, hq, rfl⟩ := wEof hj
   rw [Nat.zero_add]; exact cE t ht j q hq hk'
  ·refine stF_congr (fun j w' hj hk' => ?_) rfl
   obtain ⟨q, hq, rfl⟩ := wHof hj
   rw [Nat.zero_add]; exact cH t ht j q hq hk'
  ·rcases stF_cases (S := S) (t := t) (ws := wEs rs) (k := 0) (F := envOf s.env) with h | ⟨j, w', g, h1, h2, h3, h4⟩
   ·rw [show stF (fun j => listed.getD j false) (wEs rs) 0 (envOf s.env) t = envOf s.env t from h]; exact hd.E0 i r hr t ht
   ·obtain ⟨q, hq, rfl⟩ := wEof h1
    rw [Nat.zero_add] at h2
    obtain ⟨hij, hp⟩ := notpre j q hq h2
    rw [show stF (fun j => listed.getD j false) (wEs rs) 0 (envOf s.env) t = g from h4]
    exact hd.E1 i j r q hr hq hij hp t g h3 ht
  ·rcases stF_cases (S := S) (t := t) (ws := wHs rs) (k := 0) (F := mapOf s.hp) with h | ⟨j, w', g, h1, h2, h3, h4⟩
   ·rw [show stF (fun j => listed.getD j false) (wHs rs) 0 (mapOf s.hp) t = mapOf s.hp t from h] at hb; exact hd.H0 i r hr t b ht hb
   ·obtain ⟨q, hq, rfl⟩ := wHof h1
    rw [Nat.zero_add] at h2
    obtain ⟨hij, hp⟩ := notpre j q hq h2
    rw [show stF (fun j => listed.getD j false) (wHs rs) 0 (mapOf s.hp) t = g from h4] at hb
    subst hb
    exact hd.H1 i j r q hr hq hij hp t b h3 ht
  ·have e1 : up r.wE (stF (fun j => listed.getD j false) (wEs rs) 0 (envOf s.env)) = stF S' (wEs rs) 0 (envOf s.env) := upE'
   have e2 : up r.wH (stF (fun j => listed.getD j false) (wHs rs) 0 (mapOf s.hp)) = stF S' (wHs rs) 0 (mapOf s.hp) := upH'
   rw [e1, e2] at g1
   rw [e2] at g2
   refine ih (listed.setIfInBounds i true) μ' a' w' (by simpa using hsz) (fun j q hq hj k hk => ?_) ?_ g1 fun μ'' a'' w'' b1 b2 b3 => k μ'' a'' w'' b1 (g2.trans b2) fun m hm => (b3 m hm).trans (g3 m hm)
   ·refine getD_set_true ?_
    by_cases hji : j = i
    ·subst hji; rw [hr] at hq; cases hq; exact hpreS k hk
    ·rw [getD_set_ne false (Ne.symm hji)] at hj; exact hcl j q hq hj k hk
   ·have : unl ops (listed.setIfInBounds i true) < unl ops listed := by
     refine countP_lt (fun j hj => ?_) i (List.mem_range.2 (by omega)) (by simp only [hun0]; rfl) (by rw [show (listed.setIfInBounds i true).getD i false = true from hS'i]; rfl)
     by_cases hji : j = i
     ·subst hji; rw [show (listed.setIfInBounds j true).getD j false = true from hS'i] at hj; cases hj
     ·rw [getD_set_ne false (Ne.symm hji)] at hj; exact hj
    omega
end

theorem region_draw_ok {cx : Cx} (hcx : CxOK cx) {M : List Nat} {n id : Nat} {ops : Array Oper} {s s' : GS} {es es' : List En} {rs : List Rec} {cs : List Prop} (h : gRecs cx M n ops ops.toList [] s es = some (rs, s', cs, es')) (hd : drawOK s rs = true) (hc : AllP cs)
  {μ : Map} {a : Act} {w : World} {Q : Exit → Act → World → Prop} (hs : SRL cx n s μ a w) (k : ∀ μ' a' w', SRL cx n s' μ' a' w' → Ev μ (mapOf s.hp) w μ' (mapOf s'.hp) w' → (∀ m, m ∉ M → μ' m = μ m) → Q .normal a' w') :
  (Code.region id ops true).wpIn cx.F 0 cx.P Q a w := by
 obtain ⟨h1, h2, h3, h4⟩ := gRecs_ok hcx h hc
 obtain ⟨d1, d2⟩ := hs.drawn hcx (w.drawn + 1)
 have hS : (fun j => (Array.replicate ops.size false).getD j false) = fun _ => false := by
  funext j; rw [Array.getD_eq_getD_getElem?, Array.getElem?_replicate]; split <;> rfl
 refine wpIn_region_any hcx.mix (draw_any (M := M) (n := n) hcx (by simpa using h1) (fun i o ho => ?_) h3 h4 (drawOK_spec hd) ops.size (Array.replicate ops.size false) μ a _ (by simp) (fun j r _ hj => ?_) ?_ ?_ fun μ' a' w' g1 g2 g3 => ?_)
 ·obtain ⟨r, g1, g2, g3, g4⟩ := h2 i o (by simpa using ho)
  exact ⟨r, g1, g2, fun e he hb => by have := g3 e he hb; simpa using this, fun k hk => by simpa using g4 k hk⟩
 ·have := congrFun hS j
  rw [this] at hj; cases hj
 ·unfold unl
  refine Nat.le_trans List.countP_le_length (by simp)
 ·rw [hS, stF_false, stF_false]; exact d1
 ·rw [hS, stF_false] at g2
  exact k μ' a' w' g1 (d2.trans g2) g3

end Go.Gh
