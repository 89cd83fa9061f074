/- Ghost values: plain data behind the memory of a run, and how they stand to the model's values. -/
import Derived.Test.YtcaphjiiaclndaaGreatDoorGhPl
import Derived.Laws.AppendOwn
import Derived.Laws.MakeOwn
import Derived.Laws.OwnMore
import Derived.Laws.CopyRow
import Derived.LoopN
import Derived.Orders
import Derived.KernelRfl
import Derived.Below
namespace Go.Gh
set_option linter.unusedVariables false
set_option linter.unusedSimpArgs false

inductive Ty where
  | int (k : IntKind)
  | bool
  | str
  | list (t : Ty)
  | unit
  | pair (a b : Ty)
  | opt (t : Ty)
  deriving DecidableEq

def Ty.den : Ty → Type
  | .int _ => Int
  | .bool => Bool
  | .str => ByteArray
  | .list t => List t.den
  | .unit => Unit
  | .pair a b => a.den × b.den
  | .opt t => Option t.den

def Ty.size : Ty → Nat
  | .int _ | .bool | .str | .list _ | .opt _ => 1
  | .unit => 0
  | .pair a b => a.size + b.size

def RepSl {α : Type} (w : World) (own : Nat → Prop) (el : α → List Value → Prop) (size : Nat) (xs : List α) (a : Option Addr) (cap : Nat) : Prop :=
  xs.length ≤ cap ∧ (a = none → cap = 0) ∧
  ∀ ad, a = some ad → ∀ i x, xs[i]? = some x → ad.spot = none ∧ ¬ own ad.block ∧
    ∃ vs, vs.length = size ∧ el x vs ∧ ∀ j v, vs[j]? = some v → w.cell? ⟨ad.block, ad.off + i * size + j, none⟩ = some v

def RepPt {α : Type} (w : World) (own : Nat → Prop) (el : α → List Value → Prop) (size : Nat) (o : Option α) (a : Option Addr) : Prop :=
  (o = none ∧ a = none) ∨ ∃ x ad vs, o = some x ∧ a = some ad ∧ ad.spot = none ∧ ¬ own ad.block ∧ vs.length = size ∧ el x vs ∧ ∀ j v, vs[j]? = some v → w.cell? ⟨ad.block, ad.off + j, none⟩ = some v

def Rep (w : World) (own : Nat → Prop) : (t : Ty) → t.den → List Value → Prop
  | .int k, n, cs => cs = [.int k n]
  | .bool, b, cs => cs = [.bool b]
  | .str, s, cs => cs = [.string s]
  | .list t, xs, cs => ∃ a cap, cs = [.slice a (List.length xs) cap] ∧ RepSl w own (Rep w own t) t.size xs a cap
  | .unit, _, cs => cs = []
  | .pair a b, x, cs => ∃ c1 c2, cs = c1 ++ c2 ∧ Rep w own a x.1 c1 ∧ Rep w own b x.2 c2
  | .opt t, o, cs => ∃ a, cs = [.pointer a] ∧ RepPt w own (Rep w own t) t.size o a

theorem Rep.length {w : World} {own : Nat → Prop} : {t : Ty} → {x : t.den} → {cs : List Value} → Rep w own t x cs → cs.length = t.size
  | .int _, _, _, h | .bool, _, _, h | .str, _, _, h => by simp [Rep] at h; simp [h, Ty.size]
  | .unit, _, _, h => by simp [Rep] at h; simp [h, Ty.size]
  | .list _, _, _, h => by obtain ⟨a, cap, rfl, _⟩ := h; rfl
  | .opt _, _, _, h => by obtain ⟨a, rfl, _⟩ := h; rfl
  | .pair a b, _, _, h => by
    obtain ⟨c1, c2, rfl, h1, h2⟩ := h
    simp [Ty.size, h1.length, h2.length]

theorem Rep.one {w : World} {own : Nat → Prop} : {t : Ty} → {x : t.den} → {cs : List Value} → Rep w own t x cs → ∀ v ∈ cs, v.oneCell' = true
  | .int _, _, _, h | .bool, _, _, h | .str, _, _, h => by simp [Rep] at h; subst h; intro v hv; simp at hv; subst hv; rfl
  | .unit, _, _, h => by simp [Rep] at h; subst h; intro v hv; simp at hv
  | .list _, _, _, h => by obtain ⟨a, cap, rfl, _⟩ := h; intro v hv; simp at hv; subst hv; rfl
  | .opt _, _, _, h => by obtain ⟨a, rfl, _⟩ := h; intro v hv; simp at hv; subst hv; rfl
  | .pair a b, _, _, h => by
    obtain ⟨c1, c2, rfl, h1, h2⟩ := h
    intro v hv
    rcases List.mem_append.1 hv with hv | hv
    · exact h1.one v hv
    · exact h2.one v hv

structure Ext (own : Nat → Prop) (w : World) (own' : Nat → Prop) (w' : World) : Prop where
  size : w.heap.size ≤ w'.heap.size
  keep : ∀ b, b < w.heap.size → ¬ own b → w'.heap[b]? = w.heap[b]?
  nown : ∀ b, b < w.heap.size → ¬ own b → ¬ own' b
  out : w'.output = w.output
  os : w'.os = w.os
  tape : w'.tape = w.tape

theorem Ext.refl {own : Nat → Prop} {w : World} : Ext own w own w :=
  ⟨Nat.le_refl _, fun _ _ _ => rfl, fun _ _ h => h, rfl, rfl, rfl⟩

theorem Ext.trans {o0 o1 o2 : Nat → Prop} {w0 w1 w2 : World} (h : Ext o0 w0 o1 w1) (k : Ext o1 w1 o2 w2) : Ext o0 w0 o2 w2 :=
  ⟨Nat.le_trans h.size k.size,
   fun b hb hn => (k.keep b (Nat.lt_of_lt_of_le hb h.size) (h.nown b hb hn)).trans (h.keep b hb hn),
   fun b hb hn => k.nown b (Nat.lt_of_lt_of_le hb h.size) (h.nown b hb hn),
   k.out.trans h.out, k.os.trans h.os, k.tape.trans h.tape⟩

theorem Ext.drew {o0 o1 : Nat → Prop} {w0 w1 : World} (h : Ext o0 w0 o1 w1) : Ext o0 w0 o1 w1.drew :=
  ⟨h.size, h.keep, h.nown, h.out, h.os, h.tape⟩

theorem Ext.cell {own own' : Nat → Prop} {w w' : World} (h : Ext own w own' w') {a : Addr} {v : Value} (hn : ¬ own a.block) (hc : w.cell? a = some v) :
    w'.cell? a = some v := by
  have hb := World.block_lt_of_cell? w a hc
  rw [World.cell?_of_block (h.keep a.block hb hn), hc]

theorem RepSl.ext {α : Type} {own own' : Nat → Prop} {w w' : World} (h : Ext own w own' w') {el el' : α → List Value → Prop} {size : Nat} {xs : List α} {a : Option Addr} {cap : Nat}
    (hel : ∀ x vs, el x vs → el' x vs) (hsz : 0 < size) (hr : RepSl w own el size xs a cap) : RepSl w' own' el' size xs a cap := by
  obtain ⟨h1, h0, h2⟩ := hr
  refine ⟨h1, h0, fun ad had => ?_⟩
  intro i x hx
  obtain ⟨hs, hn, vs, hl, he, hc⟩ := h2 ad had i x hx
  have hlt : ad.block < w.heap.size := by
    cases hvs : vs with
    | nil => subst hvs; simp at hl; omega
    | cons v0 r => exact World.block_lt_of_cell? w ⟨ad.block, ad.off + i * size + 0, none⟩ (hc 0 v0 (by simp [hvs]))
  exact ⟨hs, h.nown _ hlt hn, vs, hl, hel _ _ he, fun j v hv => h.cell (a := ⟨ad.block, _, none⟩) hn (hc j v hv)⟩

theorem RepPt.ext {α : Type} {own own' : Nat → Prop} {w w' : World} (h : Ext own w own' w') {el el' : α → List Value → Prop} {size : Nat} {o : Option α} {a : Option Addr}
    (hel : ∀ x vs, el x vs → el' x vs) (hsz : 0 < size) (hr : RepPt w own el size o a) : RepPt w' own' el' size o a := by
  rcases hr with hr | ⟨x, ad, vs, rfl, rfl, hs, hn, hl, he, hc⟩
  · exact .inl hr
  · have hlt : ad.block < w.heap.size := by
      cases hvs : vs with
      | nil => subst hvs; simp at hl; omega
      | cons v0 r => exact World.block_lt_of_cell? w ⟨ad.block, ad.off + 0, none⟩ (hc 0 v0 (by simp [hvs]))
    exact .inr ⟨x, ad, vs, rfl, rfl, hs, h.nown _ hlt hn, hl, hel _ _ he, fun j v hv => h.cell (a := ⟨ad.block, _, none⟩) hn (hc j v hv)⟩

def Ty.ok : Ty → Prop
  | .list t => 0 < t.size ∧ t.ok
  | .opt t => 0 < t.size ∧ t.ok
  | .pair a b => a.ok ∧ b.ok
  | _ => True

def Ty.okB : Ty → Bool
  | .list t => decide (0 < t.size) && t.okB
  | .opt t => decide (0 < t.size) && t.okB
  | .pair a b => a.okB && b.okB
  | _ => true

theorem Ty.ok_of_okB : {t : Ty} → t.okB = true → t.ok
  | .int _, _ | .bool, _ | .str, _ | .unit, _ => trivial
  | .list t, h => by simp [Ty.okB] at h; exact ⟨h.1, Ty.ok_of_okB h.2⟩
  | .opt t, h => by simp [Ty.okB] at h; exact ⟨h.1, Ty.ok_of_okB h.2⟩
  | .pair a b, h => by simp [Ty.okB] at h; exact ⟨Ty.ok_of_okB h.1, Ty.ok_of_okB h.2⟩

theorem Rep.ext {own own' : Nat → Prop} {w w' : World} (h : Ext own w own' w') : {t : Ty} → t.ok → {x : t.den} → {cs : List Value} → Rep w own t x cs → Rep w' own' t x cs
  | .int _, _, _, _, hr | .bool, _, _, _, hr | .str, _, _, _, hr | .unit, _, _, _, hr => hr
  | .list t, ho, _, _, hr => by
    obtain ⟨a, cap, rfl, hs⟩ := hr
    exact ⟨a, cap, rfl, hs.ext h (fun x vs hx => Rep.ext h ho.2 hx) ho.1⟩
  | .opt t, ho, _, _, hr => by
    obtain ⟨a, rfl, hs⟩ := hr
    exact ⟨a, rfl, hs.ext h (fun x vs hx => Rep.ext h ho.2 hx) ho.1⟩
  | .pair a b, ho, _, _, hr => by
    obtain ⟨c1, c2, rfl, h1, h2⟩ := hr
    exact ⟨c1, c2, rfl, Rep.ext h ho.1 h1, Rep.ext h ho.2 h2⟩

def RepAll (w : World) (own : Nat → Prop) (t : Ty) : List t.den → List Value → Prop
  | [], cs => cs = []
  | x :: xs, cs => ∃ c1 c2, cs = c1 ++ c2 ∧ Rep w own t x c1 ∧ RepAll w own t xs c2

theorem RepAll.length {w : World} {own : Nat → Prop} {t : Ty} : {xs : List t.den} → {cs : List Value} → RepAll w own t xs cs → cs.length = xs.length * t.size
  | [], _, h => by simp [RepAll] at h; simp [h]
  | _ :: xs, _, h => by
    obtain ⟨c1, c2, rfl, h1, h2⟩ := h
    simp [h1.length, RepAll.length h2, Nat.add_mul]; omega

theorem RepAll.one {w : World} {own : Nat → Prop} {t : Ty} : {xs : List t.den} → {cs : List Value} → RepAll w own t xs cs → ∀ v ∈ cs, v.oneCell' = true
  | [], _, h => by simp [RepAll] at h; subst h; intro v hv; simp at hv
  | _ :: xs, _, h => by
    obtain ⟨c1, c2, rfl, h1, h2⟩ := h
    intro v hv
    rcases List.mem_append.1 hv with hv | hv
    · exact h1.one v hv
    · exact RepAll.one h2 v hv

theorem RepAll.ext {own own' : Nat → Prop} {w w' : World} (h : Ext own w own' w') {t : Ty} (ho : t.ok) : {xs : List t.den} → {cs : List Value} → RepAll w own t xs cs → RepAll w' own' t xs cs
  | [], _, hr => hr
  | _ :: xs, _, hr => by
    obtain ⟨c1, c2, rfl, h1, h2⟩ := hr
    exact ⟨c1, c2, rfl, h1.ext h ho, RepAll.ext h ho h2⟩

theorem RepAll.append {w : World} {own : Nat → Prop} {t : Ty} : {xs ys : List t.den} → {cs ds : List Value} → RepAll w own t xs cs → RepAll w own t ys ds → RepAll w own t (xs ++ ys) (cs ++ ds)
  | [], _, _, _, h, k => by simp [RepAll] at h; subst h; exact k
  | _ :: xs, ys, _, _, h, k => by
    obtain ⟨c1, c2, rfl, h1, h2⟩ := h
    exact ⟨c1, c2 ++ _, by simp, h1, RepAll.append h2 k⟩

theorem RepAll.get {w : World} {own : Nat → Prop} {t : Ty} : {xs : List t.den} → {cs : List Value} → RepAll w own t xs cs → ∀ (i : Nat) (x : t.den), xs[i]? = some x →
    ∃ vs, vs.length = t.size ∧ Rep w own t x vs ∧ ∀ j v, vs[j]? = some v → cs[i * t.size + j]? = some v
  | [], _, _, i, x, hx => by simp at hx
  | y :: xs, _, h, i, x, hx => by
    obtain ⟨c1, c2, rfl, h1, h2⟩ := h
    cases i with
    | zero =>
      simp at hx; subst hx
      refine ⟨c1, h1.length, h1, fun j v hv => ?_⟩
      have hj : j < c1.length := by
        rcases Nat.lt_or_ge j c1.length with h | h
        · exact h
        · simp [List.getElem?_eq_none h] at hv
      simp [List.getElem?_append_left hj, hv]
    | succ i =>
      obtain ⟨vs, hl, hr, hc⟩ := RepAll.get h2 i x (by simpa using hx)
      refine ⟨vs, hl, hr, fun j v hv => ?_⟩
      have := hc j v hv
      rw [List.getElem?_append_right (by rw [h1.length, Nat.add_mul]; omega), h1.length]
      rw [show (i + 1) * t.size + j - t.size = i * t.size + j by rw [Nat.add_mul]; omega]
      exact this

theorem RepAll.set {w : World} {own : Nat → Prop} {t : Ty} : {xs : List t.den} → {cs : List Value} → RepAll w own t xs cs → ∀ (i : Nat) (x : t.den) (vs : List Value), i < xs.length → Rep w own t x vs →
    RepAll w own t (xs.set i x) (cs.take (i * t.size) ++ vs ++ cs.drop ((i + 1) * t.size))
  | [], _, _, i, x, vs, hi, _ => by simp at hi
  | y :: xs, _, h, i, x, vs, hi, hv => by
    obtain ⟨c1, c2, rfl, h1, h2⟩ := h
    cases i with
    | zero =>
      simp only [List.set_cons_zero, Nat.zero_mul, List.take_zero, List.nil_append, Nat.zero_add, Nat.one_mul]
      refine ⟨vs, c2, ?_, hv, h2⟩
      rw [← h1.length]; simp
    | succ i =>
      have ih := RepAll.set h2 i x vs (by simpa using hi) hv
      simp only [List.set_cons_succ]
      refine ⟨c1, _, ?_, h1, ih⟩
      have e1 : (i + 1) * t.size = c1.length + i * t.size := by rw [h1.length, Nat.add_mul]; omega
      have e2 : (i + 1 + 1) * t.size = c1.length + (i + 1) * t.size := by rw [h1.length, Nat.add_mul (i + 1)]; omega
      rw [e2, e1, List.take_length_add_append, List.drop_length_add_append]
      simp

end Go.Gh
