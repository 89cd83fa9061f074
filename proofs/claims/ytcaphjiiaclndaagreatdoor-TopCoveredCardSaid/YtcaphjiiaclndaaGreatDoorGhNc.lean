/- Maps: keys are structs of whole numbers. -/
import Derived.Test.YtcaphjiiaclndaaGreatDoorGhNb
import Derived.Laws.StructEq
import Derived.MapKept
import Derived.Laws.Strings
import Derived.Laws.Strings
namespace Go.Gh
set_option linter.unusedVariables false
set_option linter.unusedSimpArgs false

def instDecidableEqOptionOf (α : Type) (h : DecidableEq α) : DecidableEq (Option α) := inferInstance

def tDec : (t : Ty) → DecidableEq t.den
 | .int _ => Int.instDecidableEq
 | .bool => instDecidableEqBool
 | .str => (inferInstance : DecidableEq ByteArray)
 | .list t => @instDecidableEqList _ (tDec t)
 | .unit => instDecidableEqPUnit
 | .pair a b => @instDecidableEqProd _ _ (tDec a) (tDec b)
 | .opt t => instDecidableEqOptionOf _ (tDec t)

instance tDecI (t : Ty) : DecidableEq t.den := tDec t

def keyFs (T : Tbl) : List Field → Nat → Ty → Bool
 | [], _, .unit => true
 | f :: fs, off, .pair (.int k) b => f.name != "_" && Nat.beq f.offset off && (match T[f.type]? with
  | some i => (match i.d with | .int k' => decide (k' = k) | _ => false)
  | none => false) && keyFs T fs (off + 1) b
 | _, _, _ => false

def keyOK (P : Program) (T : Tbl) (t : TypeId) (kt : Ty) : Bool :=
 match P.underlying t with
 | some (.struct fs) => !P.stoodInHeld t && keyFs T fs.toList 0 kt
 | _ => false

section
variable {P : Program} {T : Tbl} {o : Oper} {a : Act} {μ : Map} {w : World} {H : Heap}

theorem keyFs_part (hT : TOK P T) {f : Field} {k : IntKind} (h : (match T[f.type]? with | some i => (match i.d with | .int k' => decide (k' = k) | _ => false) | none => false) = true) :
  P.underlying f.type = some (.int k) ∧ ∀ (xs : Array Value) (off : Nat) (v : Value), xs[off]? = some v → (part f.type xs off).run P w = .ok v w := by
 split at h
 ·rename_i i hi
  split at h
  ·rename_i k' hd
   have hk : k' = k := by simpa using h
   subst hk
   obtain ⟨D, hD, hf⟩ := (hT _ i hi).und
   rw [hd] at hf
   simp only [TD.fits] at hf
   subst hf
   refine ⟨hD, fun xs off v hv => ?_⟩
   simp [Go.part, isAgg, run_underlying hD, hv]
  ·cases h
 ·cases h

theorem drop_head {α : Type} {l : List α} {n : Nat} {x : α} {r : List α} (h : l.drop n = x :: r) : l[n]? = some x ∧ l.drop (n + 1) = r := by
 have h1 : (l.drop n)[0]? = some x := by rw [h]; rfl
 rw [List.getElem?_drop, Nat.add_zero] at h1
 refine ⟨h1, ?_⟩
 rw [← List.drop_drop, h]; rfl

theorem eqFields_ok (hT : TOK P T) {own own' : Nat → Prop} (d : Nat) {xs ys : Array Value} : ∀ (fs : List Field) (off : Nat) (kt : Ty) (x y : kt.den), keyFs T fs off kt = true → Rep w own kt x (xs.toList.drop off) → Rep w own' kt y (ys.toList.drop off) →
  (Op.eqFields (d + 1) xs ys fs).run P w = .ok (@decide (x = y) (tDec kt x y)) w
 | [], off, .unit, x, y, _, _, _ => by
  simp only [Op.eqFields, Sem.run_pure]
  congr 1
 | f :: fs, off, .pair (.int k) b, x, y, h, hx, hy => by
  simp only [keyFs, Bool.and_eq_true] at h
  obtain ⟨⟨⟨h1, h2⟩, h3⟩, h4⟩ := h
  obtain ⟨hu, hp⟩ := keyFs_part (w := w) hT h3
  have h2 := Nat.eq_of_beq_eq_true h2
  obtain ⟨c1, c2, hc, hc1, hc2⟩ := hx
  obtain ⟨d1, d2, hd, hd1, hd2⟩ := hy
  simp only [Rep] at hc1 hd1
  subst hc1; subst hd1
  obtain ⟨e1, e2⟩ := drop_head hc
  obtain ⟨g1, g2⟩ := drop_head hd
  rw [Array.getElem?_toList] at e1 g1
  have ih := eqFields_ok hT d fs (off + 1) b x.2 y.2 h4 (by rw [e2]; exact hc2) (by rw [g2]; exact hd2)
  have hn : f.name ≠ "_" := by simpa using h1
  simp only [Op.eqFields, if_pos hn, Sem.run_bind, h2, hp xs off _ e1, hp ys off _ g1, Result.andThen_ok, run_equalIn_int w d f.type k k x.1 y.1 hu]
  have key : @decide (x = y) (tDec (.pair (.int k) b) x y) = (@decide (x.1 = y.1) (tDec (.int k) x.1 y.1) && @decide (x.2 = y.2) (tDec b x.2 y.2)) := by
   by_cases hxy : x = y
   ·subst hxy
    rw [decide_eq_true rfl, decide_eq_true rfl, decide_eq_true rfl]; rfl
   ·rw [decide_eq_false hxy]
    by_cases h5 : x.1 = y.1
    ·by_cases h6 : x.2 = y.2
     ·exact absurd (Prod.ext h5 h6) hxy
     ·rw [decide_eq_false h6, Bool.and_false]
    ·rw [decide_eq_false h5, Bool.false_and]
  rw [key]
  by_cases h5 : x.1 = y.1
  ·have hb : (@BEq.beq Int _ x.1 y.1) = true := (@beq_iff_eq Int _ _ x.1 y.1).2 h5
   rw [decide_eq_true h5, hb]
   simp only [Bool.not_true, Bool.false_eq_true, if_false, Bool.true_and]
   exact ih
  ·have hb : (@BEq.beq Int _ x.1 y.1) = false := (@beq_eq_false_iff_ne Int _ _ x.1 y.1).2 h5
   rw [decide_eq_false h5, hb]
   simp
 | [], _, .int _, _, _, h, _, _ | [], _, .bool, _, _, h, _, _ | [], _, .str, _, _, h, _, _ | [], _, .list _, _, _, h, _, _ | [], _, .pair _ _, _, _, h, _, _ | [], _, .opt _, _, _, h, _, _
 | _ :: _, _, .int _, _, _, h, _, _ | _ :: _, _, .bool, _, _, h, _, _ | _ :: _, _, .str, _, _, h, _, _ | _ :: _, _, .list _, _, _, h, _, _ | _ :: _, _, .unit, _, _, h, _, _ | _ :: _, _, .opt _, _, _, h, _, _
 | _ :: _, _, .pair .bool _, _, _, h, _, _ | _ :: _, _, .pair .str _, _, _, h, _, _ | _ :: _, _, .pair (.list _) _, _, _, h, _, _ | _ :: _, _, .pair .unit _, _, _, h, _, _ | _ :: _, _, .pair (.pair _ _) _, _, _, h, _, _ | _ :: _, _, .pair (.opt _) _, _, _, h, _, _ => by simp [keyFs] at h

theorem checkFields_ok (hT : TOK P T) {own : Nat → Prop} (em : Bool) (d : Nat) {xs : Array Value} : ∀ (fs : List Field) (off : Nat) (kt : Ty) (x : kt.den), keyFs T fs off kt = true → Rep w own kt x (xs.toList.drop off) →
  (forIn fs PUnit.unit (fun f _ => do
   if f.name ≠ "_" then Instr.checkKey em (d + 1) f.type (← part f.type xs f.offset)
   pure (ForInStep.yield PUnit.unit) : Field → PUnit → Sem (ForInStep PUnit))).run P w = .ok PUnit.unit w
 | [], off, .unit, _, _, _ => by simp
 | f :: fs, off, .pair (.int k) b, x, h, hx => by
  simp only [keyFs, Bool.and_eq_true] at h
  obtain ⟨⟨⟨h1, h2⟩, h3⟩, h4⟩ := h
  obtain ⟨hu, hp⟩ := keyFs_part (w := w) hT h3
  have h2 := Nat.eq_of_beq_eq_true h2
  obtain ⟨c1, c2, hc, hc1, hc2⟩ := hx
  simp only [Rep] at hc1
  subst hc1
  obtain ⟨e1, e2⟩ := drop_head hc
  rw [Array.getElem?_toList] at e1
  have ih := checkFields_ok hT em d fs (off + 1) b x.2 h4 (by rw [e2]; exact hc2)
  have hn : f.name ≠ "_" := by simpa using h1
  have hk : (Instr.checkKey em (d + 1) f.type (.int k x.1)).run P w = .ok () w := by simp [Instr.checkKey, run_underlying hu]
  simp only [List.forIn_cons, Sem.run_bind, if_pos hn, h2, hp xs off _ e1, Result.andThen_ok, hk, Sem.run_pure]
  exact ih
 | [], _, .int _, _, h, _ | [], _, .bool, _, h, _ | [], _, .str, _, h, _ | [], _, .list _, _, h, _ | [], _, .pair _ _, _, h, _ | [], _, .opt _, _, h, _
 | _ :: _, _, .int _, _, h, _ | _ :: _, _, .bool, _, h, _ | _ :: _, _, .str, _, h, _ | _ :: _, _, .list _, _, h, _ | _ :: _, _, .unit, _, h, _ | _ :: _, _, .opt _, _, h, _
 | _ :: _, _, .pair .bool _, _, h, _ | _ :: _, _, .pair .str _, _, h, _ | _ :: _, _, .pair (.list _) _, _, h, _ | _ :: _, _, .pair .unit _, _, h, _ | _ :: _, _, .pair (.pair _ _) _, _, h, _ | _ :: _, _, .pair (.opt _) _, _, h, _ => by simp [keyFs] at h

theorem keyFs_agg {fs : List Field} {off : Nat} {kt : Ty} (h : keyFs T fs off kt = true) : kt.isAgg = true := by
 cases kt <;> cases fs <;> simp_all [keyFs, Ty.isAgg]

theorem keyFs_cells {own own' : Nat → Prop} {w' : World} : ∀ (fs : List Field) (off : Nat) (kt : Ty) (x : kt.den) (cs ds : List Value), keyFs T fs off kt = true → Rep w own kt x cs → Rep w' own' kt x ds → cs = ds ∧ ∀ v ∈ cs, ∃ k n, v = .int k n
 | [], off, .unit, x, cs, ds, _, hx, hy => by simp only [Rep] at hx hy; subst hx; subst hy; exact ⟨rfl, by simp⟩
 | f :: fs, off, .pair (.int k) b, x, cs, ds, h, hx, hy => by
  simp only [keyFs, Bool.and_eq_true] at h
  obtain ⟨c1, c2, rfl, hc1, hc2⟩ := hx
  obtain ⟨d1, d2, rfl, hd1, hd2⟩ := hy
  simp only [Rep] at hc1 hd1
  subst hc1; subst hd1
  obtain ⟨e1, e2⟩ := keyFs_cells fs (off + 1) b x.2 c2 d2 h.2 hc2 hd2
  refine ⟨by rw [e1], fun v hv => ?_⟩
  rcases List.mem_append.1 hv with hv | hv
  ·simp at hv; exact ⟨_, _, hv⟩
  ·exact e2 v hv
 | [], _, .int _, _, _, _, h, _, _ | [], _, .bool, _, _, _, h, _, _ | [], _, .str, _, _, _, h, _, _ | [], _, .list _, _, _, _, h, _, _ | [], _, .pair _ _, _, _, _, h, _, _ | [], _, .opt _, _, _, _, h, _, _
 | _ :: _, _, .int _, _, _, _, h, _, _ | _ :: _, _, .bool, _, _, _, h, _, _ | _ :: _, _, .str, _, _, _, h, _, _ | _ :: _, _, .list _, _, _, _, h, _, _ | _ :: _, _, .unit, _, _, _, h, _, _ | _ :: _, _, .opt _, _, _, _, h, _, _
 | _ :: _, _, .pair .bool _, _, _, _, h, _, _ | _ :: _, _, .pair .str _, _, _, _, h, _, _ | _ :: _, _, .pair (.list _) _, _, _, _, h, _, _ | _ :: _, _, .pair .unit _, _, _, _, h, _, _ | _ :: _, _, .pair (.pair _ _) _, _, _, _, h, _, _ | _ :: _, _, .pair (.opt _) _, _, _, _, h, _, _ => by simp [keyFs] at h

theorem sameBits_self {d : Nat} {cs : Array Value} (h : ∀ v ∈ cs.toList, ∃ k n, v = .int k n) : Instr.sameBits (d + 1) (.agg cs) (.agg cs) = true := by
 simp only [Instr.sameBits, beq_self_eq_true, Bool.true_and, List.all_eq_true]
 intro p hp
 have hz : ∀ (l : List Value), p ∈ l.zip l → p.1 = p.2 ∧ p.1 ∈ l := by
  intro l
  induction l with
  | nil => simp
  | cons v l ih =>
   intro hm
   simp only [List.zip_cons_cons, List.mem_cons] at hm
   rcases hm with rfl | hm
   ·simp
   ·obtain ⟨a, b⟩ := ih hm; exact ⟨a, List.mem_cons_of_mem _ b⟩
 obtain ⟨e1, e2⟩ := hz _ hp
 obtain ⟨k, n, e3⟩ := h _ e2
 obtain ⟨p1, p2⟩ := p
 simp only at e1 e3 ⊢
 subst e1; subst e3
 cases d <;> simp [Instr.sameBits]

theorem keyOK_spec {t : TypeId} {kt : Ty} (h : keyOK P T t kt = true) : ∃ fs, P.underlying t = some (.struct fs) ∧ P.fieldsOf t = fs ∧ P.stoodInHeld t = false ∧ keyFs T fs.toList 0 kt = true := by
 unfold keyOK at h
 split at h
 ·rename_i fs hfs
  simp only [Bool.and_eq_true, Bool.not_eq_true'] at h
  exact ⟨fs, hfs, by simp [Program.fieldsOf, hfs], h.1, h.2⟩
 ·cases h

theorem checkKey_ok (hT : TOK P T) {own : Nat → Prop} {t : TypeId} {kt : Ty} (h : keyOK P T t kt = true) (em : Bool) {xs : List Value} {x : kt.den} (hx : Rep w own kt x xs) : (Instr.checkKey em 10000 t (.agg xs.toArray)).run P w = .ok () w := by
 obtain ⟨fs, h1, _, _, h4⟩ := keyOK_spec h
 have := checkFields_ok hT (xs := xs.toArray) em 9998 fs.toList 0 kt x h4 (by simpa using hx)
 rw [show (10000 : Nat) = 9999 + 1 from rfl, Instr.checkKey]
 simp only [Sem.run_bind, run_underlying h1, Result.andThen_ok]
 rw [← Array.forIn_toList]
 simp only [Sem.run_bind, this, Result.andThen_ok, Sem.run_pure]

theorem equal_ok (hT : TOK P T) {own own' : Nat → Prop} {t : TypeId} {kt : Ty} (h : keyOK P T t kt = true) {xs ys : List Value} {x y : kt.den} (hx : Rep w own kt x xs) (hy : Rep w own' kt y ys) :
  (Op.equal t (.agg xs.toArray) (.agg ys.toArray)).run P w = .ok (@decide (x = y) (tDec kt x y)) w := by
 obtain ⟨fs, h1, h2, h3, h4⟩ := keyOK_spec h
 unfold Op.equal
 rw [show Op.maxDepth = 9999 + 1 from rfl, run_equalIn_struct w 9999 t xs.toArray ys.toArray (by rw [h2]; exact h1) h3, h2]
 exact eqFields_ok hT 9998 fs.toList 0 kt x y h4 (by simpa using hx) (by simpa using hy)

theorem find_ok (hT : TOK P T) {own own' : Nat → Prop} {t : TypeId} {kt vt : Ty} (h : keyOK P T t kt = true) {xs : List Value} {x : kt.den} (hx : Rep w own' kt x xs) : ∀ (L : List (kt.den × vt.den)) (es : List MapEntry) (i : Nat), EntsRel w own kt vt L es →
  ((Instr.findAsking t (.agg xs.toArray) es i).run P w = .ok none w ∧ @mget _ _ (tDec kt) L x = none ∧ ∀ v, @mset _ _ (tDec kt) L x v = L ++ [(x, v)]) ∨
  ∃ j e y vv, (Instr.findAsking t (.agg xs.toArray) es i).run P w = .ok (some (i + j, e.val)) w ∧ es[j]? = some e ∧ e.key = .agg xs.toArray ∧ @mget _ _ (tDec kt) L x = some y ∧ CellsOf vt.isAgg e.val vv ∧ Rep w own vt y vv ∧
   ∀ (v : vt.den) (vc : List Value) (e' : MapEntry), CellsOf kt.isAgg e'.key xs → CellsOf vt.isAgg e'.val vc → Rep w own kt x xs → Rep w own vt v vc → EntsRel w own kt vt (@mset _ _ (tDec kt) L x v) (es.set j e')
 | [], es, i, he => by
  simp only [EntsRel] at he
  subst he
  exact .inl ⟨by simp [Instr.findAsking], rfl, fun _ => rfl⟩
 | z :: L, es, i, he => by
  obtain ⟨e, es', kv, vv, rfl, h1, h2, h3, h4, h5⟩ := he
  obtain ⟨fs, g1, g2, g3, g4⟩ := keyOK_spec h
  have hagg := keyFs_agg g4
  rw [hagg] at h1
  have h1 : e.key = .agg kv.toArray := h1
  have eq := equal_ok hT h hx h3
  by_cases hz : z.1 = x
  ·have hz' : x = z.1 := hz.symm
   rw [@decide_eq_true _ (tDec kt x z.1) hz'] at eq
   have hkv : kv = xs := (keyFs_cells fs.toList 0 kt x kv xs g4 (by rw [hz'] ; exact h3) hx).1
   refine .inr ⟨0, e, z.2, vv, ?_, rfl, by rw [h1, hkv], ?_, h2, h4, ?_⟩
   ·simp [Instr.findAsking, Sem.run_bind, h1, eq]
   ·simp only [mget]; rw [if_pos hz]
   ·intro v vc e' k1 k2 k3 k4
    simp only [mset]
    rw [if_pos hz]
    exact ⟨e', es', xs, vc, rfl, k1, k2, k3, k4, h5⟩
  ·have hz' : ¬ x = z.1 := fun e => hz e.symm
   rw [@decide_eq_false _ (tDec kt x z.1) hz'] at eq
   have ih := find_ok hT (own := own) h hx L es' (i + 1) h5
   have step : (Instr.findAsking t (.agg xs.toArray) (e :: es') i).run P w = (Instr.findAsking t (.agg xs.toArray) es' (i + 1)).run P w := by
    simp [Instr.findAsking, Sem.run_bind, h1, eq]
   rcases ih with ⟨i1, i2, i3⟩ | ⟨j, e0, y, v0, i1, i2, i3, i4, i5, i6, i7⟩
   ·refine .inl ⟨by rw [step, i1], ?_, fun v => ?_⟩
    ·simp only [mget]; rw [if_neg hz]; exact i2
    ·simp only [mset]; rw [if_neg hz, i3 v]; rfl
   ·refine .inr ⟨j + 1, e0, y, v0, by rw [step, i1]; congr 3; omega, by simpa using i2, i3, ?_, i5, i6, fun v vc e' k1 k2 k3 k4 => ?_⟩
    ·simp only [mget]; rw [if_neg hz]; exact i4
    ·simp only [mset]
     rw [if_neg hz]
     exact ⟨e, es'.set j e', kv, vv, rfl, by rw [hagg]; exact h1, h2, h3, h4, i7 v vc e' k1 k2 k3 k4⟩

theorem findKey_ok {t : TypeId} {kt : Ty} (h : keyOK P T t kt = true) {x : Value} {es : List MapEntry} : (Instr.findKey t x es).run P w = (Instr.findAsking t x es).run P w := by
 obtain ⟨fs, h1, _⟩ := keyOK_spec h
 cases es with
 | nil => simp [Instr.findKey, run_underlying h1, Instr.findNow, Instr.findAsking]
 | cons e es =>
  have : Instr.findNow (.struct fs) x (e :: es) 0 = none := by
   simp only [Instr.findNow]
   cases x <;> cases e.key <;> rfl
  simp [Instr.findKey, Sem.run_bind, run_underlying h1, this]

theorem CellsOf.vr {own : Nat → Prop} {t : Ty} (ho : t.ok) {x : t.den} {v : Value} {cs : List Value} (h : CellsOf t.isAgg v cs) (hr : Rep w own t x cs) : VR μ w own (ofDen t x) v := by
 unfold ofDen
 cases ha : t.isAgg with
 | true =>
  rw [ha] at h
  have h : v = .agg cs.toArray := h
  rw [if_pos rfl]
  exact ⟨_, h, by simpa using ofDenS_rel ho hr⟩
 | false =>
  rw [ha] at h
  have h : cs = [v] := h
  subst h
  rw [if_neg (by simp)]
  exact ofDenA_rel ho ha hr

theorem CellsOf.of {own : Nat → Prop} {t : Ty} {g : GR} {x : t.den} {v : Value} (h : toDen t g = some x) (hv : VR μ w own g v) : CellsOf t.isAgg v v.cells.toList ∧ Rep w own t x v.cells.toList := by
 have hr := toDen_rel h hv
 refine ⟨?_, hr⟩
 cases g with
 | «at» a =>
  simp only [toDen] at h
  split at h
  ·cases h
  ·rename_i ha
   have ha : t.isAgg = false := by simpa using ha
   rw [ha]
   have h1 := toDenA_rel h hv
   show v.cells.toList = [v]
   have hone := h1.one v (by simp)
   cases v <;> simp_all [Value.cells, Value.oneCell']
 | agg ss =>
  simp only [toDen] at h
  split at h
  ·rename_i ha
   rw [ha]
   obtain ⟨cs, rfl, _⟩ := hv
   show (Value.agg cs) = .agg (Value.agg cs).cells.toList.toArray
   simp [Value.cells]
  ·cases h

theorem TOK1.run_zeroC {t : TypeId} {i : TI} (h : TOK1 P t i) {τ : Ty} (hτ : i.ty = some τ) : ∃ z, (zeroValue t).run P w = .ok z w ∧ CellsOf τ.isAgg z z.cells.toList ∧ ∀ own, Rep w own τ τ.dflt z.cells.toList := by
 obtain ⟨j, z, h1, h2, h3, h4, h5, h6, h7, h8⟩ := h.info
 obtain ⟨k1, k2, k3, k4⟩ := h8 τ hτ
 refine ⟨z, by simp [zeroValue, typeInfo, h1, h4], ?_, fun own => ?_⟩
 ·rw [k3]
  cases hd : i.d.isAgg with
  | true =>
   obtain ⟨cs, rfl⟩ := h7 hd
   show (Value.agg cs) = .agg (Value.agg cs).cells.toList.toArray
   simp [Value.cells]
  | false =>
   have hone := (h6 hd).1
   show z.cells.toList = [z]
   cases z <;> simp_all [Value.cells, Value.oneCell']
 ·obtain ⟨c, hc, hr⟩ := zcells_rel (w := w) (own := own) k4
  rw [hc, List.append_nil]; exact hr

def lookVal (vt : Ty) (r : Option vt.den) : Bool → G
 | true => .tup [ofDen vt (r.getD vt.dflt), .at (.bool r.isSome)]
 | false => .r (ofDen vt (r.getD vt.dflt))

def gMap (P : Program) (T : Tbl) (o : Oper) (ev : Operand → G) (H : Heap) (es : List En) : Option (OR × List En) :=
 match o.op, es with
 | .makeMap t none, .nm n :: es' => (match T[t]? with
  | some ti => (match ti.d with
   | .map k v => (match T[k]?, T[v]? with
    | some ki, some vi => (match ki.ty, vi.ty with
     | some kt, some vt => if kt.okB ∧ vt.okB then some ({ val := .a (.mp n), wr := [(n, some (.mpb kt vt []))], mv := [n] }, es') else none
     | _, _ => none)
    | _, _ => none)
   | _ => none)
  | none => none)
 | .lookup t x k ok, es => (match T[t]?, ev x, ev k with
  | some ti, .r (.at (.mp n)), .r gk => (match ti.d, H n with
   | .map kT vT, some (.mpb kt vt L) => (match T[vT]?, toDen kt gk with
    | some vi, some key => if vi.ty = some vt then
      some ({ val := lookVal vt (@mget _ _ (tDec kt) L key) ok, rd := [(n, .mpb kt vt L)], cs := [keyOK P T kT kt = true] }, es) else none
    | _, _ => none)
   | _, _ => none)
  | _, _, _ => none)
 | .mapUpdate t m k x, es => (match T[t]?, ev m, ev k, ev x with
  | some ti, .r (.at (.mp n)), .r gk, .r gx => (match ti.d, H n with
   | .map kT vT, some (.mpb kt vt L) => (match toDen kt gk, toDen vt gx with
    | some key, some v => some ({ val := .a .unit0, rd := [(n, .mpb kt vt L)], wr := [(n, some (.mpb kt vt (@mset _ _ (tDec kt) L key v)))], cs := [keyOK P T kT kt = true] }, es)
    | _, _ => none)
   | _, _ => none)
  | _, _, _, _ => none)
 | .range t x, .nm n :: es' => (match T[t]?, ev x with
  | some ti, .r (.at (.str s)) => (match ti.d with
   | .str => some ({ val := .a (.ptr n 0 0), wr := [(n, some (.itb s 0))], mv := [n] }, es')
   | _ => none)
  | _, _ => none)
 | .next it true, .br b :: es' => (match ev it with
  | .r (.at (.ptr n 0 0)) => (match H n, b with
   | some (.itb s p), true => some ({ val := .tup [.at (.bool true), .at (.int .i64 p), .at (.int .i32 (strAt s p))], rd := [(n, .itb s p)], wr := [(n, some (.itb s (p + 1)))], cs := [decide (p < (ByteArray.size s : Int)) = true, 0 ≤ p ∧ strAt s p < 128] }, es')
   | some (.itb s p), false => some ({ val := .tup [.at (.bool false)], rd := [(n, .itb s p)], cs := [decide (p < (ByteArray.size s : Int)) = false, 0 ≤ p] }, es')
   | _, _ => none)
  | _ => none)
 | .slice t x lo hi none, es => (match T[t]?, ev x, gInt (lo.map ev), gInt (hi.map ev) with
  | some ti, .r (.at (.str s)), some l, some h => (match ti.d with
   | .str => some ({ val := .a (.str (ByteArray.extract s (l.getD 0).toNat (h.getD (ByteArray.size s : Int)).toNat)), cs := [0 ≤ l.getD 0 ∧ l.getD 0 ≤ h.getD (ByteArray.size s : Int) ∧ h.getD (ByteArray.size s : Int) ≤ (ByteArray.size s : Int)] }, es)
   | _ => none)
  | _, _, _, _ => none)
 | .binOp op _ x y _, es => (match op, ev x, ev y with
  | .add, .r (.at (.str s)), .r (.at (.str u)) => some ({ val := .a (.str (s ++ u)), cs := [ByteArray.size s + ByteArray.size u ≤ 1099511627776] }, es)
  | .eql, .r (.at (.str s)), .r (.at (.str u)) => some ({ val := .a (.bool (s.data.toList == u.data.toList)) }, es)
  | .neq, .r (.at (.str s)), .r (.at (.str u)) => some ({ val := .a (.bool (!(s.data.toList == u.data.toList))) }, es)
  | _, _, _ => none)
 | _, _ => none

theorem gMap_nd {o : Oper} {ev : Operand → G} {es : List En} {r : OR × List En} (hg : gMap P T o ev H es = some r) (c : Call) : o.op ≠ .defer c := by
 intro h
 unfold gMap at hg
 split at hg
 ·rename_i ho; rw [h] at ho; cases ho
 ·rename_i ho; rw [h] at ho; cases ho
 ·rename_i ho; rw [h] at ho; cases ho
 ·rename_i ho; rw [h] at ho; cases ho
 ·rename_i ho; rw [h] at ho; cases ho
 ·rename_i ho; rw [h] at ho; cases ho
 ·rename_i ho; rw [h] at ho; cases ho
 ·cases hg

theorem gMap_rd {o : Oper} {ev : Operand → G} {es es' : List En} {R : OR} (h : gMap P T o ev H es = some (R, es')) : ∀ x ∈ R.rd, H x.1 = some x.2 := by
 unfold gMap at h
 (repeat' split at h) <;> first | (cases h; done) | skip
 all_goals simp only [Option.some.injEq, Prod.mk.injEq] at h
 all_goals obtain ⟨rfl, rfl⟩ := h
 all_goals intro x hx
 all_goals simp only [List.not_mem_nil, List.mem_cons, or_false] at hx
 all_goals (subst hx; assumption)

theorem HRel.putMap (hH : HRel μ w H) {n : Nat} {b0 : Blk} (b' : Blk) (hn : H n = some b0) {l : Loc} (hl : μ n = some l) (ob : Obj) (hlt : l.blk < w.heap.size)
  (hrel : Ext (ownOf μ H) w (ownOf μ (after [] [(n, some b')] H)) { w with heap := w.heap.setIfInBounds l.blk ob } → BRel μ { w with heap := w.heap.setIfInBounds l.blk ob } (ownOf μ (after [] [(n, some b')] H)) n b') :
  HRel μ { w with heap := w.heap.setIfInBounds l.blk ob } (after [] [(n, some b')] H) ∧ Ev μ H w μ (after [] [(n, some b')] H) { w with heap := w.heap.setIfInBounds l.blk ob } := by
 refine hH.step rfl (fun _ _ => rfl) (fun _ _ => rfl) (by simp) (by simp) rfl rfl rfl (fun k _ hk => ?_) ?_ hrel
 ·have : l.blk ≠ k := hk l (by simp [hn]) hl
  simp [Array.getElem?_setIfInBounds_ne this]
 ·intro l' hl'
  exact .inr ⟨by simp [hn], l', hl', rfl⟩

theorem EntsRel.snoc {own : Nat → Prop} {kt vt : Ty} {x : kt.den} {v : vt.den} {e : MapEntry} {kv vv : List Value} (h1 : CellsOf kt.isAgg e.key kv) (h2 : CellsOf vt.isAgg e.val vv) (h3 : Rep w own kt x kv) (h4 : Rep w own vt v vv) : ∀ {L : List (kt.den × vt.den)} {es : List MapEntry}, EntsRel w own kt vt L es → EntsRel w own kt vt (L ++ [(x, v)]) (es ++ [e])
 | [], _, h => by simp only [EntsRel] at h; subst h; exact ⟨e, [], kv, vv, rfl, h1, h2, h3, h4, rfl⟩
 | _ :: L, _, h => by
  obtain ⟨e0, es', k0, v0, rfl, g1, g2, g3, g4, g5⟩ := h
  exact ⟨e0, es' ++ [e], k0, v0, rfl, g1, g2, g3, g4, EntsRel.snoc h1 h2 h3 h4 g5⟩

theorem gMap_ok (hT : TOK P T) {o : Oper} {ev : Operand → G} {H0 : Heap} {es es' : List En} {R : OR} (hg : gMap P T o ev H0 es = some (R, es')) (hc : AllP R.cs) (hrd : ∀ x ∈ R.rd, H x.1 = some x.2)
  (hx : ∀ x ∈ o.op.operands.toList, VG μ w (ownOf μ H) (ev x) (a.eval x)) (hH : HRel μ w H) : OpOK P o a μ w H R := by
 unfold gMap at hg
 split at hg
 ·rename_i t n es1 ho
  (repeat' split at hg) <;> first | (cases hg; done) | skip
  rename_i ti hti k v hd _ _ ki vi hki hvi _ _ kt vt hkt hvt hok
  simp only [Option.some.injEq, Prod.mk.injEq] at hg; obtain ⟨rfl, rfl⟩ := hg
  have hrun : (execOp a.eval o).run P w = .ok (.value (.map (some w.heap.size))) (w.alloc (.map #[] 0)) := by
   simp [execOp, ho, Instr.makeMap, newObj, Sem.run_bind, Sem.run]
  obtain ⟨h1, h2⟩ := hH.new n (.map #[] 0) ⟨w.heap.size, 0, 0, 0⟩ rfl (.mpb kt vt []) (fun _ => ⟨_, #[], 0, upd_same .., heap_alloc_new w _, Ty.ok_of_okB hok.1, Ty.ok_of_okB hok.2, rfl⟩)
  exact ⟨_, _, _, .inl hrun, fun m hm => upd_other _ _ _ (by simpa using hm), h1, h2, _, upd_same .., rfl⟩
 ·rename_i es1 t x k ok ho
  (repeat' split at hg) <;> first | (cases hg; done) | skip
  rename_i ti n gk hti hevx hevk _ _ kT vT kt vt L hd hHn _ _ vi key hvi hkey hvt
  simp only [Option.some.injEq, Prod.mk.injEq] at hg; obtain ⟨rfl, rfl⟩ := hg
  have hkok := hc.1
  have hxx := hx x (by simp [ho, Op.operands])
  have hxk := hx k (by simp [ho, Op.operands])
  rw [hevx] at hxx; rw [hevk] at hxk
  obtain ⟨l, hl, hv⟩ := hxx
  have hn := hrd (n, .mpb kt vt L) (by simp)
  obtain ⟨l', ents, clock, hl', hb, hko, hvo, hes⟩ := hH.blk n _ hn
  rw [hl] at hl'; cases hl'
  obtain ⟨hck, hrk⟩ := CellsOf.of hkey hxk
  obtain ⟨fs, g1, g2, g3, g4⟩ := keyOK_spec hkok
  rw [keyFs_agg g4] at hck
  have hck : a.eval k = .agg (a.eval k).cells.toList.toArray := hck
  obtain ⟨D, hr, hD, hf⟩ := (hT t ti hti).run_und w
  rw [hd] at hf; simp only [TD.fits] at hf; subst hf
  obtain ⟨z, hz1, hz2, hz3⟩ := (hT vT vi hvi).run_zeroC (w := w) hvt
  have hchk := checkKey_ok hT hkok ents.isEmpty hrk
  have hq := find_ok (w := w) hT (own := ownOf μ H) (vt := vt) hkok hrk L ents.toList 0 hes
  have hrun0 : ∀ r, (Instr.findAsking kT (.agg (a.eval k).cells.toList.toArray) ents.toList).run P w = .ok r w → (execOp a.eval o).run P w = .ok (.value (if ok = true then .tuple #[(r.map (·.2)).getD z, .bool r.isSome] else (r.map (·.2)).getD z)) w := by
   intro r hr0
   have hfk : (Instr.findKey kT (.agg (a.eval k).cells.toList.toArray) ents.toList).run P w = .ok r w := (findKey_ok hkok).trans hr0
   rw [← hck] at hfk hchk
   have e0 : execOp a.eval o = (do Pure.pure (.value (← Instr.lookup t (a.eval x) (a.eval k) ok))) := by simp [execOp, ho]
   rw [e0, hv]
   cases r with
   | none => simp [Instr.lookup, Sem.run_bind, hr, Go.MapKept.run_getObj_map hb, hchk, hfk, hz1, Result.andThen]
   | some p => obtain ⟨i, u⟩ := p; simp [Instr.lookup, Sem.run_bind, hr, Go.MapKept.run_getObj_map hb, hchk, hfk, Result.andThen]
  have fin : ∀ (r : Option vt.den) (u : Value) (cs : List Value), CellsOf vt.isAgg u cs → Rep w (ownOf μ H) vt (r.getD vt.dflt) cs → VG μ w (ownOf μ H) (lookVal vt r ok) (if ok = true then .tuple #[u, .bool r.isSome] else u) := by
   intro r u cs h1 h2
   have h3 := CellsOf.vr (μ := μ) hvo h1 h2
   cases ok with
   | true => exact ⟨_, rfl, u, [.bool r.isSome], rfl, h3, .bool r.isSome, [], rfl, rfl, rfl⟩
   | false => exact h3
  rcases hq with ⟨q1, q2, _⟩ | ⟨j, e, y, vv, q1, _, _, q4, q5, q6, _⟩
  ·refine OpOK.pure hH (hrun0 _ q1) ?_
   rw [q2]
   exact fin none z _ hz2 (hz3 _)
  ·refine OpOK.pure hH (hrun0 _ q1) ?_
   rw [q4]
   exact fin (some y) e.val vv q5 q6
 ·rename_i es1 t m k x ho
  (repeat' split at hg) <;> first | (cases hg; done) | skip
  rename_i ti n gk gx hti hevm hevk hevx _ _ kT vT kt vt L hd hHn _ _ key v hkey hval
  simp only [Option.some.injEq, Prod.mk.injEq] at hg; obtain ⟨rfl, rfl⟩ := hg
  have hkok := hc.1
  have hxm := hx m (by simp [ho, Op.operands])
  have hxk := hx k (by simp [ho, Op.operands])
  have hxx := hx x (by simp [ho, Op.operands])
  rw [hevm] at hxm; rw [hevk] at hxk; rw [hevx] at hxx
  obtain ⟨l, hl, hv⟩ := hxm
  have hn := hrd (n, .mpb kt vt L) (by simp)
  obtain ⟨l', ents, clock, hl', hb, hko, hvo, hes⟩ := hH.blk n _ hn
  rw [hl] at hl'; cases hl'
  obtain ⟨hck, hrk⟩ := CellsOf.of hkey hxk
  obtain ⟨hcv, hrv⟩ := CellsOf.of hval hxx
  obtain ⟨fs, g1, g2, g3, g4⟩ := keyOK_spec hkok
  have hck0 := hck
  rw [keyFs_agg g4] at hck
  have hck : a.eval k = .agg (a.eval k).cells.toList.toArray := hck
  obtain ⟨D, hr, hD, hf⟩ := (hT t ti hti).run_und w
  rw [hd] at hf; simp only [TD.fits] at hf; subst hf
  have hchk := checkKey_ok hT hkok false hrk
  have hq := find_ok (w := w) hT (own := ownOf μ H) (vt := vt) hkok hrk L ents.toList 0 hes
  have hlt : l.blk < w.heap.size := (Array.getElem?_eq_some_iff.1 hb).1
  have hbits := sameBits_self (d := 9999) (cs := (a.eval k).cells.toList.toArray) (by simpa using (keyFs_cells fs.toList 0 kt key _ _ g4 hrk hrk).2)
  have e0 : execOp a.eval o = (do Instr.mapUpdate t (a.eval m) (a.eval k) (a.eval x); Pure.pure .skip) := by simp [execOp, ho]
  have fin : ∀ (es2 : Array MapEntry) (c2 : Nat), (execOp a.eval o).run P w = .ok .skip { w with heap := w.heap.setIfInBounds l.blk (.map es2 c2) } →
    EntsRel w (ownOf μ H) kt vt (@mset _ _ (tDec kt) L key v) es2.toList →
    OpOK P o a μ w H { val := .a .unit0, rd := [(n, .mpb kt vt L)], wr := [(n, some (.mpb kt vt (@mset _ _ (tDec kt) L key v)))], cs := [keyOK P T kT kt = true] } := by
   intro es2 c2 hrun hents
   have hw := hH.putMap (.mpb kt vt (@mset _ _ (tDec kt) L key v)) hn hl (.map es2 c2) hlt (fun he => ⟨l, es2, c2, hl, by simp [hlt], hko, hvo, hents.ext he hko hvo⟩)
   exact ⟨undef, _, μ, .inr ⟨hrun, rfl⟩, fun _ _ => rfl, hw.1, hw.2, rfl⟩
  rcases hq with ⟨q1, q2, q3⟩ | ⟨j, e, y, vv, q1, q2, q3, q4, q5, q6, q7⟩
  ·have hfk : (Instr.findKey kT (a.eval k) ents.toList).run P w = .ok none w := by rw [hck]; exact (findKey_ok hkok).trans q1
   rw [← hck] at hchk
   refine fin (ents.push { key := a.eval k, val := a.eval x, born := clock }) (clock + 1) ?_ ?_
   ·rw [e0, hv]
    simp [Instr.mapUpdate, Sem.run_bind, hr, Go.MapKept.run_getObj_map hb, hchk, hfk, Go.MapKept.run_setObj_map _ hb, Result.andThen]
   ·rw [q3 v, Array.toList_push]
    exact EntsRel.snoc hck0 hcv hrk hrv hes
  ·have hfk : (Instr.findKey kT (a.eval k) ents.toList).run P w = .ok (some (j, e.val)) w := by
    rw [hck]; have := (findKey_ok hkok).trans q1; rwa [Nat.zero_add] at this
   rw [← hck] at hchk
   have hej : ents[j]? = some e := by rw [← Array.getElem?_toList]; exact q2
   have hst : (Instr.keyThatStays e.key (a.eval k)).run P w = .ok (a.eval k) w := by
    unfold Instr.keyThatStays
    rw [q3, ← hck] at *
    rw [hck, if_pos hbits]; rfl
   refine fin (ents.modify j fun e => { e with key := a.eval k, val := a.eval x }) clock ?_ ?_
   ·rw [e0, hv]
    simp [Instr.mapUpdate, Sem.run_bind, hr, Go.MapKept.run_getObj_map hb, hchk, hfk, hej, hst, Go.MapKept.run_setObj_map _ hb, Result.andThen]
   ·have hset : (ents.modify j fun e => { e with key := a.eval k, val := a.eval x }).toList = ents.toList.set j { e with key := a.eval k, val := a.eval x } := by
     refine List.ext_getElem? fun i => ?_
     rw [Array.toList_modify, List.getElem?_modify, List.getElem?_set]
     by_cases hij : j = i
     ·subst hij
      have hjl := (List.getElem?_eq_some_iff.1 q2).1
      rw [if_pos rfl, if_pos hjl, q2]; simp
     ·rw [if_neg hij]; simp [hij]
    rw [hset]
    exact q7 v _ { e with key := a.eval k, val := a.eval x } hck0 hcv hrk hrv
 ·rename_i t x n es1 ho
  (repeat' split at hg) <;> first | (cases hg; done) | skip
  rename_i ti s hti hevx _ hd
  simp only [Option.some.injEq, Prod.mk.injEq] at hg; obtain ⟨rfl, rfl⟩ := hg
  have hxx := hx x (by simp [ho, Op.operands])
  rw [hevx] at hxx
  have hv : a.eval x = .string s := hxx
  obtain ⟨D, hr, hD, hf⟩ := (hT t ti hti).run_und w
  rw [hd] at hf; simp only [TD.fits] at hf; subst hf
  have hrun : (execOp a.eval o).run P w = .ok (.value (.pointer (some ⟨w.heap.size, 0, none⟩))) (w.alloc (.stringIter s 0)) := by
   simp [execOp, ho, Instr.range, hv, newObj, Sem.run_bind, hr, Sem.run]
  obtain ⟨h1, h2⟩ := hH.new n (.stringIter s 0) ⟨w.heap.size, 0, 0, 0⟩ rfl (.itb s 0) (fun _ => ⟨_, upd_same .., heap_alloc_new w _⟩)
  exact ⟨_, _, _, .inl hrun, fun m hm => upd_other _ _ _ (by simpa using hm), h1, h2, _, upd_same .., rfl⟩
 ·rename_i it b es1 ho
  (repeat' split at hg) <;> first | (cases hg; done) | skip
  ·rename_i n hev _ _ s p hHn
   simp only [Option.some.injEq, Prod.mk.injEq] at hg; obtain ⟨rfl, rfl⟩ := hg
   obtain ⟨h1, ⟨h0, h2⟩, _⟩ := hc
   have h1 := of_decide_eq_true h1
   have hxx := hx it (by simp [ho, Op.operands])
   rw [hev] at hxx
   obtain ⟨l, hl, hv⟩ := hxx
   have hn := hrd (n, .itb s p) (by simp)
   obtain ⟨l', hl', hb⟩ := hH.blk n _ hn
   rw [hl] at hl'; cases hl'
   have hlt : l.blk < w.heap.size := (Array.getElem?_eq_some_iff.1 hb).1
   have hp : p.toNat < s.size := by omega
   have hby : (s.get! p.toNat).toNat = ((s.data)[p.toNat]?.getD 0).toNat := by
    have : p.toNat < s.data.size := hp
    rw [ByteArray.get!, getElem!_pos s.data p.toNat this, getElem?_pos s.data p.toNat this]; rfl
   have hb0 : (s.get! p.toNat).toNat < 128 := by
    rw [hby]; unfold strAt at h2; omega
   have hdec : Utf8.decode s p.toNat = ((s.get! p.toNat).toNat, 1) := by
    unfold Utf8.decode
    simp only [Nat.add_zero]
    rw [if_pos hb0]
   have hst : (((s.get! p.toNat).toNat : Nat) : Int) = strAt s p := by rw [hby]; rfl
   have hrun : (execOp a.eval o).run P w = .ok (.value (.tuple #[.bool true, .int .i64 p, .int .i32 (strAt s p)])) { w with heap := w.heap.setIfInBounds l.blk (.stringIter s (p.toNat + 1)) } := by
    simp [execOp, ho, hv, Instr.next, Sem.run_bind, getObj, setObj, Sem.run, hb, hp, hdec, goInt, hst, show max p 0 = p by omega]
   have hw := hH.putMap (.itb s (p + 1)) hn hl (.stringIter s (p.toNat + 1)) hlt (fun _ => ⟨l, hl, by simp [hlt, show (p + 1).toNat = p.toNat + 1 by omega]⟩)
   exact ⟨_, _, μ, .inl hrun, fun _ _ => rfl, hw.1, hw.2, _, rfl, _, _, rfl, rfl, _, _, rfl, rfl, _, _, rfl, rfl, rfl⟩
  ·rename_i n hev _ _ s p hHn
   simp only [Option.some.injEq, Prod.mk.injEq] at hg; obtain ⟨rfl, rfl⟩ := hg
   obtain ⟨h1, h0, _⟩ := hc
   have h1 := of_decide_eq_false h1
   have hxx := hx it (by simp [ho, Op.operands])
   rw [hev] at hxx
   obtain ⟨l, hl, hv⟩ := hxx
   have hn := hrd (n, .itb s p) (by simp)
   obtain ⟨l', hl', hb⟩ := hH.blk n _ hn
   rw [hl] at hl'; cases hl'
   have hp : ¬ p.toNat < s.size := by omega
   refine OpOK.pure hH (v := .tuple #[.bool false]) ?_ ⟨_, rfl, _, _, rfl, rfl, rfl⟩
   simp [execOp, ho, hv, Instr.next, Sem.run_bind, getObj, Sem.run, hb, hp]
 ·rename_i es1 t x lo hi ho
  (repeat' split at hg) <;> first | (cases hg; done) | skip
  rename_i ti s l h hti hevx hlo hhi _ hd
  simp only [Option.some.injEq, Prod.mk.injEq] at hg; obtain ⟨rfl, rfl⟩ := hg
  obtain ⟨⟨h0, h1, h2⟩, _⟩ := hc
  have hxx := hx x (by simp [ho, Op.operands])
  rw [hevx] at hxx
  have hv : a.eval x = .string s := hxx
  obtain ⟨D, hr, hD, hf⟩ := (hT t ti hti).run_und w
  rw [hd] at hf; simp only [TD.fits] at hf; subst hf
  have hb := run_sliceBounds (P := P) (w := w) false (ByteArray.size s) (ByteArray.size s) (gInt_rel hlo fun y hy => hx y (by simp only [Option.mem_def] at hy; simp [ho, Op.operands, hy])) (gInt_rel hhi fun y hy => hx y (by simp only [Option.mem_def] at hy; simp [ho, Op.operands, hy])) h0 h1 h2
  refine OpOK.pure hH (v := .string (ByteArray.extract s (l.getD 0).toNat (h.getD (ByteArray.size s : Int)).toNat)) ?_ rfl
  simp [execOp, ho, hv, Instr.sliceAt, Instr.slice, Sem.run_bind, hr, hb]
 ·rename_i op t x y yt ho
  (repeat' split at hg) <;> first | (cases hg; done) | skip
  ·rename_i s u hevx hevy
   simp only [Option.some.injEq, Prod.mk.injEq] at hg; obtain ⟨rfl, rfl⟩ := hg
   have hsz := hc.1
   have hxx := hx x (by simp [ho, Op.operands])
   have hyy := hx y (by simp [ho, Op.operands])
   rw [hevx] at hxx; rw [hevy] at hyy
   have hv : a.eval x = .string s := hxx
   have hv2 : a.eval y = .string u := hyy
   refine OpOK.pure hH (v := .string (s ++ u)) ?_ rfl
   simp only [execOp, ho, hv, hv2]
   simp [eqGuard, binOp, Op.stringOp, Sem.run_bind]
   omega
  ·rename_i s u hevx hevy
   simp only [Option.some.injEq, Prod.mk.injEq] at hg; obtain ⟨rfl, rfl⟩ := hg
   have hxx := hx x (by simp [ho, Op.operands])
   have hyy := hx y (by simp [ho, Op.operands])
   rw [hevx] at hxx; rw [hevy] at hyy
   have hv : a.eval x = .string s := hxx
   have hv2 : a.eval y = .string u := hyy
   refine OpOK.pure hH (v := .bool (s.data.toList == u.data.toList)) ?_ rfl
   simp only [execOp, ho, hv, hv2]
   simp [eqGuard, binOp, Op.stringOp, Sem.run_bind, ByteArray.toList_eq]
  ·rename_i s u hevx hevy
   simp only [Option.some.injEq, Prod.mk.injEq] at hg; obtain ⟨rfl, rfl⟩ := hg
   have hxx := hx x (by simp [ho, Op.operands])
   have hyy := hx y (by simp [ho, Op.operands])
   rw [hevx] at hxx; rw [hevy] at hyy
   have hv : a.eval x = .string s := hxx
   have hv2 : a.eval y = .string u := hyy
   refine OpOK.pure hH (v := .bool (!(s.data.toList == u.data.toList))) ?_ rfl
   simp only [execOp, ho, hv, hv2]
   simp [eqGuard, binOp, Op.stringOp, Sem.run_bind, ByteArray.toList_eq]
 ·cases hg

end
end Go.Gh
