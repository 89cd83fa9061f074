/- Rows of slots: taking apart, putting together; the table of types. -/
import Derived.Test.YtcaphjiiaclndaaGreatDoorGhC
namespace Go.Gh
set_option linter.unusedVariables false
set_option linter.unusedSimpArgs false

def Slot.size : Slot → Nat
  | .cell _ => 1
  | .arr t n _ => n * t.size

def splitSlots : List Slot → Nat → Option (List Slot × List Slot)
  | ss, 0 => some ([], ss)
  | [], _ + 1 => none
  | s :: ss, n + 1 => if s.size ≤ n + 1 then
      (match splitSlots ss (n + 1 - s.size) with | some (x, y) => some (s :: x, y) | none => none) else none

def getSlots (ss : List Slot) (off sz : Nat) : Option (List Slot) :=
  match splitSlots ss off with
  | some (_, r) => (match splitSlots r sz with | some (x, _) => some x | none => none)
  | none => none

def putSlots (ss : List Slot) (off : Nat) (sz : Nat) (new : List Slot) : Option (List Slot) :=
  match splitSlots ss off with
  | some (hd, r) => (match splitSlots r sz with | some (_, tl) => some (hd ++ new ++ tl) | none => none)
  | none => none

inductive Sh where
  | ce (g : GA)
  | ar (t : Ty) (n : Nat)

def Sh.zero : Sh → Slot
  | .ce g => .cell g
  | .ar t n => .arr t n (List.replicate n t.dflt)

def takeDen (t : Ty) : Nat → List Slot → Option (List t.den × List Slot)
  | 0, ss => some ([], ss)
  | n + 1, ss => match toDenS t ss with
    | some (x, r) => (match takeDen t n r with | some (xs, r') => some (x :: xs, r') | none => none)
    | none => none

def toShape : List Sh → List Slot → Option (List Slot)
  | [], [] => some []
  | .ce _ :: hs, .cell g :: ss => (match toShape hs ss with | some r => some (.cell g :: r) | none => none)
  | .ar _ n :: hs, .arr t m xs :: ss => if m = n then (match toShape hs ss with | some r => some (.arr t m xs :: r) | none => none) else none
  | .ar t n :: hs, ss => (match takeDen t n ss with | some (xs, r) => (match toShape hs r with | some r' => some (.arr t n xs :: r') | none => none) | none => none)
  | _, _ => none

section
variable {μ : Map} {w : World} {own : Nat → Prop}

theorem VS.split : {ss : List Slot} → {sz : Nat} → {x y : List Slot} → {cs : List Value} → splitSlots ss sz = some (x, y) → VS μ w own ss cs →
    ss = x ++ y ∧ ∃ c1 c2, cs = c1 ++ c2 ∧ c1.length = sz ∧ VS μ w own x c1 ∧ VS μ w own y c2
  | ss, 0, x, y, cs, h, hv => by
    rw [splitSlots] at h
    simp only [Option.some.injEq, Prod.mk.injEq] at h
    obtain ⟨rfl, rfl⟩ := h
    exact ⟨rfl, [], cs, rfl, rfl, rfl, hv⟩
  | [], n + 1, x, y, cs, h, hv => by rw [splitSlots] at h; cases h
  | s :: ss, n + 1, x, y, cs, h, hv => by
    rw [splitSlots] at h
    split at h
    · rename_i hle
      split at h
      · rename_i x' y' h'
        simp only [Option.some.injEq, Prod.mk.injEq] at h
        obtain ⟨rfl, rfl⟩ := h
        cases s with
        | cell a =>
          obtain ⟨v, cs', rfl, h1, h2, h3⟩ := hv
          obtain ⟨rfl, c1, c2, rfl, hl, k1, k2⟩ := VS.split h' h3
          refine ⟨rfl, v :: c1, c2, rfl, ?_, ⟨v, c1, rfl, h1, h2, k1⟩, k2⟩
          simp only [Slot.size] at hl; simp; omega
        | arr t m xs =>
          obtain ⟨h0, h1, d1, cs', rfl, h2, h3⟩ := hv
          obtain ⟨rfl, c1, c2, rfl, hl, k1, k2⟩ := VS.split h' h3
          refine ⟨rfl, d1 ++ c1, c2, by simp, ?_, ⟨h0, h1, d1, c1, rfl, h2, k1⟩, k2⟩
          simp only [Slot.size] at hl hle; simp [h2.length, h1]; omega
      · cases h
    · cases h

theorem VS.length : {ss : List Slot} → {cs : List Value} → VS μ w own ss cs → cs.length = (ss.map Slot.size).sum
  | [], _, h => by simp [VS] at h; simp [h]
  | .cell a :: ss, _, h => by
    obtain ⟨v, cs', rfl, _, _, h3⟩ := h
    simp [Slot.size, VS.length h3]; omega
  | .arr t n xs :: ss, _, h => by
    obtain ⟨_, h1, c1, cs', rfl, h2, h3⟩ := h
    simp [Slot.size, VS.length h3, h2.length, h1]

theorem VS.get {ss x : List Slot} {off sz : Nat} {cs : List Value} (h : getSlots ss off sz = some x) (hv : VS μ w own ss cs) :
    ∃ c1 c2 c3, cs = c1 ++ c2 ++ c3 ∧ c1.length = off ∧ c2.length = sz ∧ VS μ w own x c2 := by
  unfold getSlots at h
  split at h
  · rename_i a r h1
    split at h
    · rename_i b c h2
      simp only [Option.some.injEq] at h
      subst h
      obtain ⟨rfl, c1, c2, rfl, hl, k1, k2⟩ := VS.split h1 hv
      obtain ⟨rfl, c3, c4, rfl, hl2, k3, k4⟩ := VS.split h2 k2
      exact ⟨c1, c3, c4, by simp, hl, hl2, k3⟩
    · cases h
  · cases h

theorem VS.put {ss x new : List Slot} {off sz : Nat} {cs ds : List Value} (h : putSlots ss off sz new = some x) (hv : VS μ w own ss cs) (hn : VS μ w own new ds) (hd : ds.length = sz) :
    off + sz ≤ cs.length ∧ VS μ w own x (cs.take off ++ ds ++ cs.drop (off + sz)) := by
  unfold putSlots at h
  split at h
  · rename_i a r h1
    split at h
    · rename_i b c h2
      simp only [Option.some.injEq] at h
      subst h
      obtain ⟨rfl, c1, c2, rfl, hl, k1, k2⟩ := VS.split h1 hv
      obtain ⟨rfl, c3, c4, rfl, hl2, k3, k4⟩ := VS.split h2 k2
      refine ⟨by simp; omega, ?_⟩
      have e1 : (c1 ++ (c3 ++ c4)).take off = c1 := by rw [← hl]; simp
      have e2 : (c1 ++ (c3 ++ c4)).drop (off + sz) = c4 := by rw [← hl, ← hl2, ← List.append_assoc, ← List.length_append]; simp
      rw [e1, e2]
      exact (k1.append hn).append k4
    · cases h
  · cases h

theorem takeDen_rel {t : Ty} : {n : Nat} → {ss : List Slot} → {xs : List t.den} → {r : List Slot} → {cs : List Value} → takeDen t n ss = some (xs, r) → VS μ w own ss cs →
    xs.length = n ∧ ∃ c1 c2, cs = c1 ++ c2 ∧ RepAll w own t xs c1 ∧ VS μ w own r c2
  | 0, ss, xs, r, cs, h, hv => by
    simp only [takeDen, Option.some.injEq, Prod.mk.injEq] at h
    obtain ⟨rfl, rfl⟩ := h
    exact ⟨rfl, [], cs, rfl, rfl, hv⟩
  | n + 1, ss, xs, r, cs, h, hv => by
    simp only [takeDen] at h
    split at h
    · rename_i y r1 h1
      split at h
      · rename_i ys r2 h2
        simp only [Option.some.injEq, Prod.mk.injEq] at h
        obtain ⟨rfl, rfl⟩ := h
        obtain ⟨c1, c2, rfl, k1, k2⟩ := toDenS_rel h1 hv
        obtain ⟨hl, c3, c4, rfl, k3, k4⟩ := takeDen_rel h2 k2
        exact ⟨by simp [hl], c1 ++ c3, c4, by simp, ⟨c1, c3, rfl, k1, k3⟩, k4⟩
      · cases h
    · cases h

def Sh.ok : Sh → Prop
  | .ar t _ => t.ok
  | _ => True

theorem toShape_rel : {hs : List Sh} → {ss r : List Slot} → {cs : List Value} → (∀ h ∈ hs, h.ok) → toShape hs ss = some r → VS μ w own ss cs → VS μ w own r cs := by
  intro hs
  induction hs with
  | nil =>
    intro ss r cs _ h hv
    cases ss with
    | nil => simp only [toShape, Option.some.injEq] at h; subst h; exact hv
    | cons s ss => simp [toShape] at h
  | cons s hs ih =>
    intro ss r cs ho h hv
    have ih' := fun {ss r : List Slot} {cs : List Value} => ih (ss := ss) (r := r) (cs := cs) (fun x hx => ho x (List.mem_cons_of_mem _ hx))
    cases s with
    | ce a =>
      match ss, h, hv with
      | .cell g :: ss, h, hv =>
        simp only [toShape] at h
        split at h
        · rename_i r' h'
          simp only [Option.some.injEq] at h
          subst h
          obtain ⟨v, cs', rfl, h1, h2, h3⟩ := hv
          exact ⟨v, cs', rfl, h1, h2, ih' h' h3⟩
        · cases h
    | ar t n =>
      have main : ∀ {ss : List Slot}, VS μ w own ss cs → (match takeDen t n ss with | some (xs, r) => (match toShape hs r with | some r' => some (Slot.arr t n xs :: r') | none => none) | none => none) = some r → VS μ w own r cs := by
        intro ss hv h
        split at h
        · rename_i xs r1 h1
          split at h
          · rename_i r2 h2
            simp only [Option.some.injEq] at h
            subst h
            obtain ⟨hl, c1, c2, rfl, k1, k2⟩ := takeDen_rel h1 hv
            exact ⟨ho (.ar t n) (List.mem_cons_self ..), hl, c1, c2, rfl, k1, ih' h2 k2⟩
          · cases h
        · cases h
      match ss, h, hv with
      | .arr t' m xs :: ss, h, hv =>
        simp only [toShape] at h
        split at h
        · rename_i hm
          split at h
          · rename_i r' h'
            simp only [Option.some.injEq] at h
            subst h
            obtain ⟨h0, h1, c1, cs', rfl, h2, h3⟩ := hv
            exact ⟨h0, h1, c1, cs', rfl, h2, ih' h' h3⟩
          · cases h
        · cases h
      | [], h, hv => exact main hv (by simpa only [toShape] using h)
      | .cell g :: ss, h, hv => exact main hv (by simpa only [toShape] using h)
end


inductive TD where
  | int (k : IntKind)
  | bool
  | str
  | ptr (e : Nat)
  | slice (e : Nat)
  | array (n e : Nat)
  | struct (fs : List (Nat × Nat))
  | map (k v : Nat)
  | other
  deriving DecidableEq

structure TI where
  d : TD
  size : Nat
  bytes : Nat
  zero : List Sh
  ty : Option Ty

structure Tbl where
  l : List (Option TI)

instance : GetElem? Tbl Nat TI (fun T i => (T.l[i]?).join.isSome = true) where
  getElem T i h := (T.l[i]?).join.get h
  getElem? T i := (T.l[i]?).join

def TD.isAgg : TD → Bool
  | .struct _ | .array _ _ => true
  | _ => false

def TD.fits (d : TD) (D : TypeDesc) : Prop :=
  match d with
  | .int k => D = .int k
  | .bool => D = .bool
  | .str => D = .string
  | .ptr e => D = .pointer e
  | .slice e => D = .slice e
  | .array n e => D = .array n e
  | .struct fs => ∃ fields, D = .struct fields ∧ fields.toList.map (fun f => (f.type, f.offset)) = fs
  | .map k v => D = .map k v
  | .other => ∀ fs, D ≠ .struct fs ∧ ∀ n e, D ≠ .array n e

def tdFits (d : TD) (D : TypeDesc) : Bool :=
  match d, D with
  | .int k, .int k' => k == k'
  | .bool, .bool => true
  | .str, .string => true
  | .ptr e, .pointer e' => e == e'
  | .slice e, .slice e' => e == e'
  | .array n e, .array n' e' => n == n' && e == e'
  | .struct fs, .struct fields => fields.toList.map (fun f => (f.type, f.offset)) == fs
  | .map k v, .map k' v' => k == k' && v == v'
  | .other, .struct _ => false
  | .other, .array _ _ => false
  | .other, _ => true
  | _, _ => false

theorem fits_of {d : TD} {D : TypeDesc} (h : tdFits d D = true) : d.fits D := by
  cases d <;> cases D <;> simp_all [tdFits, TD.fits]

def zrel : GA → Value → Bool
  | .int k n, .int k' n' => k == k' && n == n'
  | .bool b, .bool b' => b == b'
  | .str s, .string s' => s.data.toList == s'.data.toList
  | .nils, .slice none 0 0 => true
  | .nilp, .pointer none => true
  | .nilm, .map none => true
  | .nilf, .nilFunc => true
  | _, _ => false

def zcells : Ty → List Value → Option (List Value)
  | .int k, .int k' 0 :: r => if k = k' then some r else none
  | .bool, .bool false :: r => some r
  | .str, .string s :: r => if s.data.toList = [] then some r else none
  | .list _, .slice none 0 0 :: r => some r
  | .unit, r => some r
  | .pair a b, r => (zcells a r).bind (zcells b)
  | .opt _, .pointer none :: r => some r
  | _, _ => none

def zcellsN (t : Ty) : Nat → List Value → Option (List Value)
  | 0, r => some r
  | n + 1, r => (zcells t r).bind (zcellsN t n)

def zslots : List Sh → List Value → Bool
  | [], [] => true
  | .ce (.undef) :: hs, v :: r => v.oneCell' && zslots hs r
  | .ce a :: hs, v :: r => zrel a v && v.oneCell' && zslots hs r
  | .ar t n :: hs, r => t.okB && (match zcellsN t n r with | some r' => zslots hs r' | none => false)
  | _, _ => false

section
variable {μ : Map} {w : World} {own : Nat → Prop}
theorem zrel_rel {g : GA} {v : Value} (h : zrel g v = true) : VA μ w own g v := by
  unfold zrel at h
  split at h <;> simp_all [VA]
  rename_i s s'
  have : s.data = s'.data := by
    cases hs : s.data; cases hs' : s'.data; simp_all
  cases s; cases s'; simp_all

theorem zcells_rel : {t : Ty} → {cs r : List Value} → zcells t cs = some r → ∃ c, cs = c ++ r ∧ Rep w own t t.dflt c
  | .int k, cs, r, h => by
    unfold zcells at h
    split at h
    case h_1 k2 k' r' e =>
      split at h
      · rename_i hk
        cases e; subst hk
        simp only [Option.some.injEq] at h; subst h
        exact ⟨_, rfl, rfl⟩
      · cases h
    all_goals first | (cases h; done) | simp_all
  | .bool, cs, r, h => by unfold zcells at h; split at h <;> simp_all; exact ⟨_, rfl, rfl⟩
  | .str, cs, r, h => by
    unfold zcells at h
    split at h
    case h_3 s r' e =>
      split at h
      · rename_i hs
        simp only [Option.some.injEq] at h; subst h
        refine ⟨[.string s], rfl, ?_⟩
        have : s = ByteArray.empty := by
          cases s with
          | mk d =>
            have : d = #[] := by cases d; simp_all
            subst this; rfl
        subst this; rfl
      · cases h
    all_goals first | (cases h; done) | simp_all
  | .list t, cs, r, h => by unfold zcells at h; split at h <;> simp_all; exact ⟨_, rfl, none, 0, rfl, by simp [RepSl, Ty.dflt]⟩
  | .opt t, cs, r, h => by unfold zcells at h; split at h <;> simp_all; exact ⟨_, rfl, none, rfl, .inl ⟨rfl, rfl⟩⟩
  | .unit, cs, r, h => by simp only [zcells, Option.some.injEq] at h; subst h; exact ⟨[], rfl, rfl⟩
  | .pair a b, cs, r, h => by
    simp only [zcells, Option.bind_eq_some_iff] at h
    obtain ⟨r1, h1, h2⟩ := h
    obtain ⟨c1, rfl, k1⟩ := zcells_rel h1
    obtain ⟨c2, rfl, k2⟩ := zcells_rel h2
    exact ⟨c1 ++ c2, by simp, c1, c2, rfl, k1, k2⟩

theorem zcellsN_rel {t : Ty} : {n : Nat} → {cs r : List Value} → zcellsN t n cs = some r → ∃ c, cs = c ++ r ∧ RepAll w own t (List.replicate n t.dflt) c
  | 0, cs, r, h => by simp only [zcellsN, Option.some.injEq] at h; subst h; exact ⟨[], rfl, rfl⟩
  | n + 1, cs, r, h => by
    simp only [zcellsN, Option.bind_eq_some_iff] at h
    obtain ⟨r1, h1, h2⟩ := h
    obtain ⟨c1, rfl, k1⟩ := zcells_rel h1
    obtain ⟨c2, rfl, k2⟩ := zcellsN_rel h2
    exact ⟨c1 ++ c2, by simp, by rw [List.replicate_succ]; exact ⟨c1, c2, rfl, k1, k2⟩⟩

theorem zslots_rel : {hs : List Sh} → {cs : List Value} → zslots hs cs = true → VS μ w own (hs.map Sh.zero) cs ∧ ∀ h ∈ hs, h.ok
  | [], [], _ => ⟨rfl, by simp⟩
  | [], _ :: _, h => by simp [zslots] at h
  | .ce a :: hs, [], h => by cases a <;> simp [zslots] at h
  | .ce a :: hs, v :: r, h => by
    have key : VA μ w own a v ∧ v.oneCell' = true ∧ zslots hs r = true := by
      by_cases ha : a = .undef
      · subst ha; simp [zslots] at h; exact ⟨trivial, h.1, h.2⟩
      · have : (zrel a v && v.oneCell' && zslots hs r) = true := by cases a <;> simp_all [zslots]
        simp at this
        exact ⟨zrel_rel this.1.1, this.1.2, this.2⟩
    obtain ⟨k1, k2⟩ := zslots_rel key.2.2
    refine ⟨show VS μ w own (.cell a :: hs.map Sh.zero) (v :: r) from ⟨v, r, rfl, key.2.1, key.1, k1⟩, ?_⟩
    intro x hx
    rcases List.mem_cons.1 hx with rfl | hx
    · trivial
    · exact k2 x hx
  | .ar t n :: hs, cs, h => by
    have h' : t.okB = true ∧ ∃ r', zcellsN t n cs = some r' ∧ zslots hs r' = true := by
      cases cs <;> simp only [zslots, Bool.and_eq_true] at h <;> refine ⟨h.1, ?_⟩ <;> have h2 := h.2 <;> split at h2 <;> simp_all
    obtain ⟨ho, r', h1, h2⟩ := h'
    obtain ⟨c, rfl, k⟩ := zcellsN_rel (w := w) (own := own) h1
    obtain ⟨k1, k2⟩ := zslots_rel h2
    refine ⟨show VS μ w own (.arr t n (List.replicate n t.dflt) :: hs.map Sh.zero) (c ++ r') from ⟨Ty.ok_of_okB ho, by simp, c, r', rfl, k, k1⟩, ?_⟩
    intro x hx
    rcases List.mem_cons.1 hx with rfl | hx
    · exact Ty.ok_of_okB ho
    · exact k2 x hx
end

structure TOK1 (P : Program) (t : TypeId) (i : TI) : Prop where
  und : ∃ D, P.underlying t = some D ∧ i.d.fits D
  info : ∃ j z, P.info? t = some j ∧ j.size = i.size ∧ j.bytes = i.bytes ∧ j.zero = some z ∧ zslots i.zero z.cells.toList = true ∧ (i.d.isAgg = false → z.oneCell' = true ∧ i.size = 1) ∧ (i.d.isAgg = true → ∃ cs, z = .agg cs)
    ∧ (∀ τ, i.ty = some τ → τ.okB = true ∧ τ.size = i.size ∧ τ.isAgg = i.d.isAgg ∧ zcells τ z.cells.toList = some [])
  csize : ∀ j z, P.info? t = some j → j.zero = some z → z.cells.size = i.size

def tok1 (P : Program) (t : TypeId) (i : TI) : Bool :=
  (match P.underlying t with | some D => tdFits i.d D | none => false) &&
  (match P.info? t with
   | some j => (match j.zero with
     | some z => z.cells.size == i.size && j.size == i.size && j.bytes == i.bytes && zslots i.zero z.cells.toList && (if i.d.isAgg then (match z with | .agg _ => true | _ => false) else z.oneCell' && i.size == 1) &&
        (match i.ty with | some τ => τ.okB && τ.size == i.size && τ.isAgg == i.d.isAgg && (match zcells τ z.cells.toList with | some [] => true | _ => false) | none => true)
     | none => false)
   | none => false)

theorem tok1_ok {P : Program} {t : TypeId} {i : TI} (h : tok1 P t i = true) : TOK1 P t i := by
  unfold tok1 at h
  rw [Bool.and_eq_true] at h
  obtain ⟨h1, h2⟩ := h
  refine ⟨?_, ?_, ?_⟩
  · split at h1
    · rename_i D hD; exact ⟨D, hD, fits_of h1⟩
    · cases h1
  · split at h2
    · rename_i j hj
      split at h2
      · rename_i z hz
        simp only [Bool.and_eq_true, beq_iff_eq] at h2
        obtain ⟨⟨⟨⟨⟨_, ha⟩, hb⟩, hc⟩, hd⟩, he⟩ := h2
        refine ⟨j, z, hj, ha, hb, hz, hc, ?_, ?_, ?_⟩
        · intro hf; rw [hf] at hd; simpa using hd
        · intro hf; rw [hf] at hd
          cases z <;> simp at hd
          exact ⟨_, rfl⟩
        · intro τ hτ
          rw [hτ] at he
          simp only [Bool.and_eq_true, beq_iff_eq] at he
          obtain ⟨⟨⟨h1, h2⟩, h3⟩, h4⟩ := he
          refine ⟨h1, h2, h3, ?_⟩
          split at h4 <;> first | assumption | cases h4
      · cases h2
    · cases h2
  · intro j z hj hz
    rw [hj] at h2
    simp only [hz, Bool.and_eq_true, beq_iff_eq] at h2
    exact h2.1.1.1.1.1

def TOK (P : Program) (T : Tbl) : Prop := ∀ t i, T[t]? = some i → TOK1 P t i

def tokAll (P : Program) : Nat → List (Option TI) → Bool
  | _, [] => true
  | t, some i :: r => tok1 P t i && tokAll P (t + 1) r
  | t, none :: r => tokAll P (t + 1) r

theorem tokAll_ok {P : Program} : {T : List (Option TI)} → {k : Nat} → tokAll P k T = true → ∀ t i, T[t]? = some (some i) → TOK1 P (k + t) i
  | [], _, _, t, i, h => by simp at h
  | some j :: r, k, h, t, i, hi => by
    simp only [tokAll, Bool.and_eq_true] at h
    cases t with
    | zero => simp at hi; subst hi; exact tok1_ok h.1
    | succ t =>
      have := tokAll_ok h.2 t i (by simpa using hi)
      rwa [show k + (t + 1) = k + 1 + t by omega]
  | none :: r, k, h, t, i, hi => by
    simp only [tokAll] at h
    cases t with
    | zero => simp at hi
    | succ t =>
      have := tokAll_ok h t i (by simpa using hi)
      rwa [show k + (t + 1) = k + 1 + t by omega]

theorem TOK.of {P : Program} {T : Tbl} (h : tokAll P 0 T.l = true) : TOK P T := fun t i hi => by
  have h1 : (T.l[t]?).join = some i := hi
  have h2 : T.l[t]? = some (some i) := by
    cases hl : T.l[t]? with
    | none => rw [hl] at h1; cases h1
    | some x => rw [hl] at h1; exact congrArg some h1
  have := tokAll_ok h t i h2
  rwa [Nat.zero_add] at this

end Go.Gh
