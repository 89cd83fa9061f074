/- A region that draws its order goes as its listed order goes. -/
import Derived.Test.YtcaphjiiaclndaaGreatDoorGhV
namespace Go.Gh
set_option linter.unusedVariables false
set_option linter.unusedSimpArgs false

def upE : List (Nat × G) → List (Nat × G) → List (Nat × G)
 | [], env => env
 | (t, g) :: w, env => setE (upE w env) (some t) g

theorem envOf_upE (w env : List (Nat × G)) : envOf (upE w env) = up w (envOf env) := by
 induction w with
 | nil => rfl
 | cons x w ih =>
  obtain ⟨t, g⟩ := x
  funext u
  rw [upE, envOf_setE, ih]
  by_cases h : t = u
  ·subst h; simp [up]
  ·rw [if_neg (by simpa using h)]; simp [up, List.find?, show (t == u) = false by simpa using h]

theorem mapOf_wrsH (w : List (Nat × Option Blk)) (hp : List (Nat × Blk)) : mapOf (wrsH w hp) = up w (mapOf hp) := by
 induction w with
 | nil => rfl
 | cons x w ih =>
  obtain ⟨t, g⟩ := x
  funext u
  rw [wrsH, mapOf_putH, ih]
  by_cases h : t = u
  ·subst h; simp [up]
  ·rw [if_neg h]; simp [up, List.find?, show (t == u) = false by simpa using h]

def edgesOK (k : Nat) (o : Oper) : Bool := o.after.toList.all fun e => !Region.binds .any e || Nat.blt e.on k

def gRecs (cx : Cx) (M : List Nat) (n : Nat) (ops : Array Oper) : List Oper → List Nat → GS → List En → Option (List Rec × GS × List Prop × List En)
 | [], _, s, es => some ([], s, [], es)
 | o :: l, pres, s, es =>
  if edgesOK pres.length o = true then
   (match gRec cx M n ops pres o s es with
   | some (r, cs1, es1) => (match gRecs cx M n ops l (pres ++ [r.pre]) ⟨upE r.wE s.env, wrsH r.wH s.hp⟩ es1 with
    | some (rs, s', cs2, es2) => some (r :: rs, s', cs1 ++ cs2, es2)
    | none => none)
   | none => none)
  else none

theorem stF_shift {α : Type} (S : Nat → Bool) : ∀ (ws : List (List (Nat × α))) (k : Nat) (F : Nat → α), stF S ws (k + 1) F = stF (fun j => S (j + 1)) ws k F
 | [], _, _ => rfl
 | w :: ws, k, F => stF_shift S ws (k + 1) _

def wEs (rs : List Rec) : List (List (Nat × G)) := rs.map (·.wE)
def wHs (rs : List Rec) : List (List (Nat × Option Blk)) := rs.map (·.wH)

def below (i j : Nat) : Bool := decide (j < i)

theorem gRecs_ok {cx : Cx} (hcx : CxOK cx) {M : List Nat} {n : Nat} {ops : Array Oper} : {l : List Oper} → {pres : List Nat} → {s s' : GS} → {es es' : List En} → {rs : List Rec} → {cs : List Prop} → gRecs cx M n ops l pres s es = some (rs, s', cs, es') → AllP cs →
  rs.length = l.length ∧ (∀ i o, l[i]? = some o → ∃ r, rs[i]? = some r ∧ RecOK cx M n ops o (stF (below i) (wEs rs) 0 (envOf s.env)) (stF (below i) (wHs rs) 0 (mapOf s.hp)) r ∧
   (∀ e ∈ o.after.toList, Region.binds .any e = true → e.on < pres.length + i) ∧ ∀ k, r.pre.testBit k = true → ∃ e ∈ o.after.toList, Region.binds .any e = true ∧ (k = e.on ∨ ((pres ++ rs.map (·.pre)).getD e.on 0).testBit k = true)) ∧
  envOf s'.env = stF (fun _ => true) (wEs rs) 0 (envOf s.env) ∧ mapOf s'.hp = stF (fun _ => true) (wHs rs) 0 (mapOf s.hp)
 | [], pres, s, s', es, es', rs, cs, h, _ => by
  simp only [gRecs, Option.some.injEq, Prod.mk.injEq] at h
  obtain ⟨rfl, rfl, rfl, rfl⟩ := h
  exact ⟨rfl, by simp, rfl, rfl⟩
 | o :: l, pres, s, s', es, es', rs, cs, h, hc => by
  simp only [gRecs] at h
  split at h
  rotate_left
  ·cases h
  rename_i hed
  split at h
  rotate_left
  ·cases h
  rename_i r cs1 es1 h1
  split at h
  rotate_left
  ·cases h
  rename_i rs1 s1 cs2 es2 h2
  simp only [Option.some.injEq, Prod.mk.injEq] at h
  obtain ⟨rfl, rfl, rfl, rfl⟩ := h
  obtain ⟨hc1, hc2⟩ := AllP.append hc
  obtain ⟨k1, k2⟩ := gRec_ok hcx h1 hc1
  obtain ⟨i1, i2, i3, i4⟩ := gRecs_ok hcx h2 hc2
  rw [envOf_upE] at i2 i3
  rw [mapOf_wrsH] at i2 i4
  have hedge : ∀ e ∈ o.after.toList, Region.binds .any e = true → e.on < pres.length := by
   intro e he hb
   have := List.all_eq_true.1 hed e he
   rw [hb] at this
   have h3 : e.on + 1 ≤ pres.length := by simpa [Nat.blt] using this
   exact h3
  have hb0 : below 0 = fun _ => false := by funext j; simp [below]
  have hbs : ∀ i, (fun j => below (i + 1) (j + 1)) = below i := by intro i; funext j; simp [below]
  refine ⟨by simp [i1], fun i o' ho => ?_, ?_, ?_⟩
  ·cases i with
   | zero =>
    simp only [List.getElem?_cons_zero, Option.some.injEq] at ho; subst ho
    refine ⟨r, by simp, by rw [hb0, stF_false, stF_false]; exact k1, fun e he hb => by have := hedge e he hb; omega, fun k hk => ?_⟩
    rw [k2] at hk
    obtain ⟨e, h1, h2, h3⟩ := preOf_spec hk
    refine ⟨e, h1, h2, h3.imp id fun h3 => ?_⟩
    have hlt := hedge e h1 h2
    rw [List.getD_eq_getElem?_getD, List.getElem?_append_left hlt, ← List.getD_eq_getElem?_getD]; exact h3
   | succ i =>
    obtain ⟨r', g1, g2, g3, g4⟩ := i2 i o' (by simpa using ho)
    refine ⟨r', by simpa using g1, ?_, fun e he hb => by have := g3 e he hb; simp at this; omega, fun k hk => ?_⟩
    ·show RecOK cx M n ops o' (stF (below (i + 1)) (r.wE :: wEs rs1) 0 (envOf s.env)) (stF (below (i + 1)) (r.wH :: wHs rs1) 0 (mapOf s.hp)) r'
     rw [stF, stF, if_pos (by simp [below]), if_pos (by simp [below]), stF_shift, stF_shift, hbs]
     exact g2
    ·obtain ⟨e, h1, h2, h3⟩ := g4 k hk
     exact ⟨e, h1, h2, by simpa using h3⟩
  ·show _ = stF (fun _ => true) (r.wE :: wEs rs1) 0 (envOf s.env)
   rw [stF, if_pos rfl, stF_shift]; exact i3
  ·show _ = stF (fun _ => true) (r.wH :: wHs rs1) 0 (mapOf s.hp)
   rw [stF, if_pos rfl, stF_shift]; exact i4

def cleanE (mv ks : List Nat) (w : List (Nat × G)) : Bool := w.all fun x => !x.2.men.any mv.contains || ks.contains x.1
def cleanH (mv ks : List Nat) (w : List (Nat × Blk)) : Bool := w.all fun x => !x.2.men.any mv.contains || ks.contains x.1
def cleanO (mv ks : List Nat) (w : List (Nat × Option Blk)) : Bool := w.all fun x => (match x.2 with | some b => !b.men.any mv.contains | none => true) || ks.contains x.1

def noconf (r q : Rec) : Bool :=
 (maskOf (keys r.wE) &&& maskOf (keys q.wE ++ q.us)) == 0 && (maskOf r.us &&& maskOf (keys q.wE)) == 0 &&
 (maskOf (keys r.wH) &&& maskOf (keys q.wH ++ q.rd)) == 0 && (maskOf r.rd &&& maskOf (keys q.wH)) == 0

def drawOK (s : GS) (rs : List Rec) : Bool :=
 rs.zipIdx.all fun x =>
  (x.1.mv.isEmpty || (cleanE x.1.mv (keys x.1.wE) s.env && cleanH x.1.mv (keys x.1.wH) s.hp)) &&
  rs.zipIdx.all fun y =>
   (!Nat.blt x.2 y.2 || y.1.pre.testBit x.2 || noconf x.1 y.1) &&
   (x.1.mv.isEmpty || Nat.beq x.2 y.2 || y.1.pre.testBit x.2 || (cleanE x.1.mv (keys x.1.wE) y.1.wE && cleanO x.1.mv (keys x.1.wH) y.1.wH))

structure DrawOK (s : GS) (rs : List Rec) : Prop where
 E0 : ∀ (i : Nat) (r : Rec), rs[i]? = some r → ∀ t, t ∉ keys r.wE → ∀ m ∈ (envOf s.env t).men, m ∉ r.mv
 H0 : ∀ (i : Nat) (r : Rec), rs[i]? = some r → ∀ (t : Nat) (b : Blk), t ∉ keys r.wH → mapOf s.hp t = some b → ∀ m ∈ b.men, m ∉ r.mv
 E1 : ∀ (i j : Nat) (r q : Rec), rs[i]? = some r → rs[j]? = some q → i ≠ j → q.pre.testBit i = false → ∀ (t : Nat) (g : G), (t, g) ∈ q.wE → t ∉ keys r.wE → ∀ m ∈ g.men, m ∉ r.mv
 H1 : ∀ (i j : Nat) (r q : Rec), rs[i]? = some r → rs[j]? = some q → i ≠ j → q.pre.testBit i = false → ∀ (t : Nat) (b : Blk), (t, some b) ∈ q.wH → t ∉ keys r.wH → ∀ m ∈ b.men, m ∉ r.mv
 ord : ∀ (i j : Nat) (r q : Rec), rs[i]? = some r → rs[j]? = some q → i < j → q.pre.testBit i = false →
  (∀ t, t ∈ keys r.wE → t ∉ keys q.wE ∧ t ∉ q.us) ∧ (∀ t, t ∈ r.us → t ∉ keys q.wE) ∧ (∀ t, t ∈ keys r.wH → t ∉ keys q.wH ∧ t ∉ q.rd) ∧ (∀ t, t ∈ r.rd → t ∉ keys q.wH)

theorem any_clean {mv l : List Nat} (h : l.any mv.contains = false) : ∀ m ∈ l, m ∉ mv := by
 intro m h1 h2
 have : l.any mv.contains = true := List.any_eq_true.2 ⟨m, h1, by simpa using h2⟩
 rw [h] at this; cases this

theorem drawOK_spec {s : GS} {rs : List Rec} (h : drawOK s rs = true) : DrawOK s rs := by
 have hx : ∀ i r, rs[i]? = some r → _ := fun i r hr => List.all_eq_true.1 h (r, i) (List.mk_mem_zipIdx_iff_getElem?.2 hr)
 simp only [Bool.and_eq_true] at hx
 have hxy : ∀ i j r q, rs[i]? = some r → rs[j]? = some q → _ := fun i j r q hr hq => List.all_eq_true.1 (hx i r hr).2 (q, j) (List.mk_mem_zipIdx_iff_getElem?.2 hq)
 simp only [Bool.and_eq_true] at hxy
 have emp : ∀ {mv : List Nat}, mv.isEmpty = true → ∀ m, m ∉ mv := by intro mv hm m hmm; cases mv with | nil => cases hmm | cons => cases hm
 refine ⟨fun i r hr t ht => ?_, fun i r hr t b ht hb => ?_, fun i j r q hr hq hij hp t g hg ht => ?_, fun i j r q hr hq hij hp t b hb ht => ?_, fun i j r q hr hq hij hp => ?_⟩
 ·have h1 := (hx i r hr).1
  rw [Bool.or_eq_true, Bool.and_eq_true] at h1
  rcases h1 with h1 | h1
  ·exact fun m _ => emp h1 m
  ·unfold envOf
   cases hf : s.env.find? (·.1 == t) with
   | none => intro m hm; cases hm
   | some x =>
    have h2 := List.all_eq_true.1 h1.1 x (List.mem_of_find?_eq_some hf)
    have h3 := List.find?_some hf
    simp only [beq_iff_eq] at h3
    rw [Bool.or_eq_true] at h2
    rcases h2 with h2 | h2
    ·exact any_clean (by simpa using h2)
    ·exact absurd (by simpa [h3] using h2) ht
 ·have h1 := (hx i r hr).1
  rw [Bool.or_eq_true, Bool.and_eq_true] at h1
  rcases h1 with h1 | h1
  ·exact fun m _ => emp h1 m
  ·have h2 := List.all_eq_true.1 h1.2 _ (mapOf_mem hb)
   rw [Bool.or_eq_true] at h2
   rcases h2 with h2 | h2
   ·exact any_clean (by simpa using h2)
   ·exact absurd (by simpa using h2) ht
 ·have h1 := (hxy i j r q hr hq).2
  rw [hp] at h1
  rw [Bool.or_eq_true, Bool.or_eq_true, Bool.or_eq_true, Bool.and_eq_true] at h1
  rcases h1 with ((h1 | h1) | h1) | h1
  ·exact fun m _ => emp h1 m
  ·exact absurd (Nat.eq_of_beq_eq_true h1) hij
  ·cases h1
  ·have h2 := List.all_eq_true.1 h1.1 _ hg
   rw [Bool.or_eq_true] at h2
   rcases h2 with h2 | h2
   ·exact any_clean (by simpa using h2)
   ·exact absurd (by simpa using h2) ht
 ·have h1 := (hxy i j r q hr hq).2
  rw [hp] at h1
  rw [Bool.or_eq_true, Bool.or_eq_true, Bool.or_eq_true, Bool.and_eq_true] at h1
  rcases h1 with ((h1 | h1) | h1) | h1
  ·exact fun m _ => emp h1 m
  ·exact absurd (Nat.eq_of_beq_eq_true h1) hij
  ·cases h1
  ·have h2 := List.all_eq_true.1 h1.2 _ hb
   rw [Bool.or_eq_true] at h2
   rcases h2 with h2 | h2
   ·exact any_clean (by simpa using h2)
   ·exact absurd (by simpa using h2) ht
 ·have h1 := (hxy i j r q hr hq).1
  rw [hp] at h1
  have hb : Nat.blt i j = true := by simp only [Nat.blt]; exact Nat.ble_eq_true_of_le hij
  rw [hb] at h1
  simp only [Bool.not_true, Bool.false_or, Bool.or_eq_true, Bool.false_eq_true, false_or, noconf, Bool.and_eq_true, beq_iff_eq] at h1
  obtain ⟨⟨⟨a1, a2⟩, a3⟩, a4⟩ := h1
  refine ⟨fun t ht => ⟨fun hk => mask_apart a1 t ht (List.mem_append_left _ hk), fun hk => mask_apart a1 t ht (List.mem_append_right _ hk)⟩, fun t ht hk => mask_apart a2 t ht hk,
   fun t ht => ⟨fun hk => mask_apart a3 t ht (List.mem_append_left _ hk), fun hk => mask_apart a3 t ht (List.mem_append_right _ hk)⟩, fun t ht hk => mask_apart a4 t ht hk⟩

end Go.Gh
