/- One operation. -/
import Derived.Test.YtcaphjiiaclndaaGreatDoorGhM
namespace Go.Gh
set_option linter.unusedVariables false
set_option linter.unusedSimpArgs false

def evs (ev : Operand → G) (ps : Array (Nat × Operand)) : List (Nat × G) := ps.toList.map fun x => (x.1, ev x.2)

def gInt : Option G → Option (Option Int)
 | none => some none
 | some (.r (.at (.int _ n))) => some (some n)
 | _ => none

def gOp (T : Tbl) (o : Oper) (ev : Operand → G) (H : Heap) (es : List En) : Option (OR × List En) :=
 match o.op with
 | .move x | .assign x => some ({ val := ev x }, es)
 | .pick c x y => (match ev c, es with
  | .r (.at (.bool cb)), .br d :: es' => some ({ val := if d then ev x else ev y, cs := [cb = d] }, es')
  | _, _ => none)
 | .alloc t => gAlloc T t es
 | .box t x => gBox T t (ev x) es
 | .build t ps => (match gBuild T t (evs ev ps) with | some g => some ({ val := g }, es) | none => none)
 | .buildSlice t n ps => (match es with
  | .thr :: .nm m :: es' => gBuildV T t n m (evs ev ps) es'
  | _ => (match gBuildSlice T t n (evs ev ps) with | some g => some ({ val := g }, es) | none => none))
 | .load t x => (match ev x with | .r (.at g) => gLoad T H t g es | _ => none)
 | .store t x y => (match ev x with | .r (.at g) => (match gStore T H t g (ev y) with | some R => some (R, es) | none => none) | _ => none)
 | .nilCheck x => (match ev x with | .r (.at g) => if gNilCheck g then some ({ val := .a g }, es) else none | _ => none)
 | .binOp op t x y _ => (match T[t]?, ev x, ev y with
  | some ti, .r (.at gx), .r (.at gy) => (match binG ti.d op gx gy with | some (g, cs) => some ({ val := .a g, cs := cs }, es) | none => none)
  | some _, .r (.agg sx), .r (.agg sy) => (match gArrEq T op t sx sy with | some g => some ({ val := g }, es) | none => none)
  | _, _, _ => none)
 | .unOp op _ x => (match ev x with | .r (.at g) => (match unG op g with | some g' => some ({ val := .a g' }, es) | none => none) | _ => none)
 | .convert s t x => (match T[s]?, T[t]?, ev x with
  | some _, some ti, .r (.at (.int _ n)) => (match ti.d with | .int k => some ({ val := .a (.int k (k.wrap n)) }, es) | _ => none)
  | _, _, _ => none)
 | .makeFunc (.func f) first caps => (match atoms (first.toList.map ev), atoms (caps.toList.map ev) with
  | some g1, some g2 => some ({ val := .a (spine (.fn f) g1 g2) }, es)
  | _, _ => none)
 | .makeSlice t x y => (match ev x, ev y with | .r (.at gx), .r (.at gy) => gMake T t gx gy es | _, _ => none)
 | .slice t x lo hi mx => (match ev x, gInt (lo.map ev), gInt (hi.map ev), gInt (mx.map ev) with
  | .r (.at g), some l, some h, some m => (match gSlice T H t g l h m with | some R => some (R, es) | none => none)
  | _, _, _, _ => none)
 | .fieldAddr t x f => (match ev x with | .r (.at g) => (match gFieldAddr T t g f with | some g' => some ({ val := .a g' }, es) | none => none) | _ => none)
 | .field t x f => (match gField T t (ev x) f with | some g => some ({ val := g }, es) | none => none)
 | .indexAddr t x i => (match ev x, ev i with | .r (.at g), .r (.at (.int _ n)) => gIndexAddr T H t g n es | _, _ => none)
 | .extract x i => (match gExtract (ev x) i with | some g => some ({ val := g }, es) | none => none)
 | .call c => (match c.callee, c.args.toList, c.argTypes.toList with
  | .builtin .len, [x], [t] => (match ev x with | .r (.at g) => (match gLen T H t g with | some R => some (R, es) | none => none) | _ => none)
  | .builtin .append, [x, y], [t, t2] => (match ev x, ev y with | .r (.at g), .r (.at g2) => gAppend T H t t2 g g2 es | _, _ => none)
  | _, _, _ => none)
 | _ => none

theorem call_eq {c : Call} {b : Callee} {xs : List Operand} {ts : List TypeId} (h1 : c.callee = b) (h2 : c.args.toList = xs) (h3 : c.argTypes.toList = ts) : c = { callee := b, args := xs.toArray, argTypes := ts.toArray } := by
 cases c; simp at h1 h2 h3; subst h1; subst h2; subst h3; simp

theorem gInt_rel {ev : Operand → G} {a : Act} {μ : Map} {w : World} {own : Nat → Prop} {x : Option Operand} {n : Option Int} (h : gInt (x.map ev) = some n) (hx : ∀ y ∈ x, VG μ w own (ev y) (a.eval y)) : BV n (x.map a.eval) := by
 cases x with
 | none => simp only [Option.map_none, gInt, Option.some.injEq] at h; subst h; trivial
 | some y =>
  have hy := hx y rfl
  simp only [Option.map_some] at h ⊢
  unfold gInt at h
  split at h
  ·rename_i heq; cases heq
  ·rename_i k m heq
   simp only [Option.some.injEq] at heq h
   subst h
   rw [heq] at hy
   exact ⟨k, hy⟩
  ·cases h

theorem gOp_ok {P : Program} {T : Tbl} (hT : TOK P T) {o : Oper} {a : Act} {μ : Map} {w : World} {H H0 : Heap} {ev : Operand → G} {es es' : List En} {R : OR} (hg : gOp T o ev H0 es = some (R, es')) (hc : AllP R.cs)
  (hrd : ∀ x ∈ R.rd, H x.1 = some x.2) (hx : ∀ x ∈ o.op.operands.toList, VG μ w (ownOf μ H) (ev x) (a.eval x)) (hH : HRel μ w H) : OpOK P o a μ w H R := by
 unfold gOp at hg
 split at hg
 ·rename_i x ho
  simp only [Option.some.injEq, Prod.mk.injEq] at hg; obtain ⟨rfl, rfl⟩ := hg
  exact move_ok (.inl ho) (hx x (by simp [ho, Op.operands])) hH
 ·rename_i x ho
  simp only [Option.some.injEq, Prod.mk.injEq] at hg; obtain ⟨rfl, rfl⟩ := hg
  exact move_ok (.inr ho) (hx x (by simp [ho, Op.operands])) hH
 ·rename_i c x y ho
  split at hg
  ·rename_i cb d es1 hev
   simp only [Option.some.injEq, Prod.mk.injEq] at hg; obtain ⟨rfl, rfl⟩ := hg
   have h1 := hx c (by simp [ho, Op.operands])
   rw [hev] at h1
   exact pick_ok ho h1 (hx x (by simp [ho, Op.operands])) (hx y (by simp [ho, Op.operands])) hc.1 hH
  ·cases hg
 ·rename_i t ho; exact alloc_ok hT ho hg hH
 ·rename_i t x ho; exact box_ok hT ho hg (hx x (by simp [ho, Op.operands])) hH
 ·rename_i t ps ho
  split at hg
  ·rename_i g h
   simp only [Option.some.injEq, Prod.mk.injEq] at hg; obtain ⟨rfl, rfl⟩ := hg
   exact build_ok hT ho h (fun x hm => hx x.2 (by simp only [ho, Op.operands, List.mem_map]; exact ⟨x, hm, rfl⟩)) hH
  ·cases hg
 ·rename_i t n ps ho
  split at hg
  ·exact buildV_ok hT ho hg (fun x hm => hx x.2 (by simp only [ho, Op.operands, List.mem_map]; exact ⟨x, hm, rfl⟩)) hH
  split at hg
  ·rename_i g h
   simp only [Option.some.injEq, Prod.mk.injEq] at hg; obtain ⟨rfl, rfl⟩ := hg
   exact buildSlice_ok hT ho h (fun x hm => hx x.2 (by simp only [ho, Op.operands, List.mem_map]; exact ⟨x, hm, rfl⟩)) hH
  ·cases hg
 ·rename_i t x ho
  split at hg
  ·rename_i g hev
   have h1 := hx x (by simp [ho, Op.operands])
   rw [hev] at h1
   exact load_ok hT ho hg hc hrd h1 hH
  ·cases hg
 ·rename_i t x y ho
  split at hg
  ·rename_i g hev
   split at hg
   ·rename_i R' h
    simp only [Option.some.injEq, Prod.mk.injEq] at hg; obtain ⟨rfl, rfl⟩ := hg
    have h1 := hx x (by simp [ho, Op.operands])
    rw [hev] at h1
    exact store_ok hT ho h hc hrd h1 (hx y (by simp [ho, Op.operands])) hH
   ·cases hg
  ·cases hg
 ·rename_i x ho
  split at hg
  ·rename_i g hev
   split at hg
   ·rename_i h
    simp only [Option.some.injEq, Prod.mk.injEq] at hg; obtain ⟨rfl, rfl⟩ := hg
    have h1 := hx x (by simp [ho, Op.operands])
    rw [hev] at h1
    exact nilCheck_ok ho h h1 hH
   ·cases hg
  ·cases hg
 ·rename_i op t x y yt ho
  split at hg
  ·rename_i ti gx gy hti hex hey
   split at hg
   ·rename_i g cs h
    simp only [Option.some.injEq, Prod.mk.injEq] at hg; obtain ⟨rfl, rfl⟩ := hg
    have h1 := hx x (by simp [ho, Op.operands])
    have h2 := hx y (by simp [ho, Op.operands])
    rw [hex] at h1; rw [hey] at h2
    exact bin_ok hT ho hti h hc h1 h2 hH
   ·cases hg
  ·rename_i ti sx sy hti hevx hevy
   split at hg
   ·rename_i g h
    simp only [Option.some.injEq, Prod.mk.injEq] at hg; obtain ⟨rfl, rfl⟩ := hg
    have h1 := hx x (by simp [ho, Op.operands])
    have h2 := hx y (by simp [ho, Op.operands])
    rw [hevx] at h1
    rw [hevy] at h2
    exact arrEq_ok hT ho h h1 h2 hH
   ·cases hg
  ·cases hg
 ·rename_i op t x ho
  split at hg
  ·rename_i g hev
   split at hg
   ·rename_i g' h
    simp only [Option.some.injEq, Prod.mk.injEq] at hg; obtain ⟨rfl, rfl⟩ := hg
    have h1 := hx x (by simp [ho, Op.operands])
    rw [hev] at h1
    exact un_ok ho h h1 hH
   ·cases hg
  ·cases hg
 ·rename_i s t x ho
  split at hg
  ·rename_i si ti k n hsi hti hev
   split at hg
   ·rename_i k' hd
    simp only [Option.some.injEq, Prod.mk.injEq] at hg; obtain ⟨rfl, rfl⟩ := hg
    have h1 := hx x (by simp [ho, Op.operands])
    rw [hev] at h1
    exact conv_ok hT ho hsi hti hd h1 hH
   ·cases hg
  ·cases hg
 ·rename_i f first caps ho
  split at hg
  ·rename_i g1 g2 h1 h2
   simp only [Option.some.injEq, Prod.mk.injEq] at hg; obtain ⟨rfl, rfl⟩ := hg
   exact func_ok ho h1 h2 (fun x hm => hx x (by simpa [ho, Op.operands] using hm)) hH
  ·cases hg
 ·rename_i t x y ho
  split at hg
  ·rename_i gx gy hex hey
   have h1 := hx x (by simp [ho, Op.operands])
   have h2 := hx y (by simp [ho, Op.operands])
   rw [hex] at h1; rw [hey] at h2
   exact make_ok hT ho hg hc h1 h2 hH
  ·cases hg
 ·rename_i t x lo hi mx ho
  split at hg
  ·rename_i g l h m hev hl hh hm
   split at hg
   ·rename_i R' hs
    simp only [Option.some.injEq, Prod.mk.injEq] at hg; obtain ⟨rfl, rfl⟩ := hg
    have h1 := hx x (by simp [ho, Op.operands])
    rw [hev] at h1
    refine slice_ok hT ho hs hc hrd h1 (gInt_rel hl fun y hy => hx y ?_) (gInt_rel hh fun y hy => hx y ?_) (gInt_rel hm fun y hy => hx y ?_) hH
    all_goals (simp only [Option.mem_def] at hy; simp [ho, Op.operands, hy])
   ·cases hg
  ·cases hg
 ·rename_i t x f ho
  split at hg
  ·rename_i g hev
   split at hg
   ·rename_i g' h
    simp only [Option.some.injEq, Prod.mk.injEq] at hg; obtain ⟨rfl, rfl⟩ := hg
    have h1 := hx x (by simp [ho, Op.operands])
    rw [hev] at h1
    exact fieldAddr_ok hT ho h h1 hH
   ·cases hg
  ·cases hg
 ·rename_i t x f ho
  split at hg
  ·rename_i g h
   simp only [Option.some.injEq, Prod.mk.injEq] at hg; obtain ⟨rfl, rfl⟩ := hg
   exact field_ok hT ho h (hx x (by simp [ho, Op.operands])) hH
  ·cases hg
 ·rename_i t x i ho
  split at hg
  ·rename_i g k n hex hei
   have h1 := hx x (by simp [ho, Op.operands])
   have h2 := hx i (by simp [ho, Op.operands])
   rw [hex] at h1; rw [hei] at h2
   exact indexAddr_ok hT ho hg hc hrd h1 h2 hH
  ·cases hg
 ·rename_i x i ho
  split at hg
  ·rename_i g h
   simp only [Option.some.injEq, Prod.mk.injEq] at hg; obtain ⟨rfl, rfl⟩ := hg
   exact extract_ok ho h (hx x (by simp [ho, Op.operands])) hH
  ·cases hg
 ·rename_i c ho
  split at hg
  ·rename_i x t hc1 hc2 hc3
   have ho := ho.trans (congrArg Op.call (call_eq hc1 hc2 hc3))
   split at hg
   ·rename_i g hev
    split at hg
    ·rename_i R' h
     simp only [Option.some.injEq, Prod.mk.injEq] at hg; obtain ⟨rfl, rfl⟩ := hg
     have h1 := hx x (by simp [ho, Op.operands, Call.operands])
     rw [hev] at h1
     exact len_ok hT ho h hrd h1 hH
    ·cases hg
   ·cases hg
  ·rename_i x y t t2 hc1 hc2 hc3
   have ho := ho.trans (congrArg Op.call (call_eq hc1 hc2 hc3))
   split at hg
   ·rename_i g g2 hex hey
    have h1 := hx x (by simp [ho, Op.operands, Call.operands])
    have h2 := hx y (by simp [ho, Op.operands, Call.operands])
    rw [hex] at h1; rw [hey] at h2
    exact append_ok hT ho hg hc hrd h1 h2 hH
   ·cases hg
  ·cases hg
 ·cases hg

end Go.Gh
