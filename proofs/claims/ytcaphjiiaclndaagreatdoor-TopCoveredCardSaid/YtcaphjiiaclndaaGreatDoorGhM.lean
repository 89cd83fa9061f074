/- Structs, arrays and slices that are written out; maps. -/
import Derived.Test.YtcaphjiiaclndaaGreatDoorGhL
namespace Go.Gh
set_option linter.unusedVariables false
set_option linter.unusedSimpArgs false

theorem fold_set (off : Nat) : ∀ (l : List Value) (k : Nat) (cs : Array Value), off + k + l.length ≤ cs.size →
  ((l.zipIdx k).foldl (fun (cs : Array Value) (x : Value × Nat) => cs.setIfInBounds (off + x.2) x.1) cs).toList = cs.toList.take (off + k) ++ l ++ cs.toList.drop (off + k + l.length)
 | [], k, cs, _ => by simp
 | v :: l, k, cs, h => by
  simp only [List.zipIdx_cons, List.foldl_cons]
  rw [fold_set off l (k + 1) _ (by simp at h ⊢; omega)]
  have e := list_seg_step cs.toList (off + k) v l (by simp at h ⊢; omega)
  simp only [Array.toList_setIfInBounds, List.length_cons]
  rw [show off + (k + 1) = off + k + 1 by omega]
  exact e

theorem fold_cells (off : Nat) (v : Value) (cs : Array Value) (h : off + v.cells.size ≤ cs.size) :
  (v.cells.zipIdx.foldl (fun (cs : Array Value) (x : Value × Nat) => cs.setIfInBounds (off + x.2) x.1) cs).toList = cs.toList.take off ++ v.cells.toList ++ cs.toList.drop (off + v.cells.size) := by
 rw [← Array.foldl_toList, Array.toList_zipIdx]
 have := fold_set off v.cells.toList 0 cs (by simpa using h)
 simpa using this

section
variable {P : Program} {T : Tbl} {o : Oper} {a : Act} {μ : Map} {w : World} {H : Heap}

def gFill (T : Tbl) (fs : List (Nat × Nat)) : List Slot → List (Nat × G) → Option (List Slot)
 | ss, [] => some ss
 | ss, (i, g) :: rest => (match fs[i]? with
  | some (ft, off) => (match T[ft]?, slotsOf g with
   | some fi, some ns => (match toShape fi.zero ns with
    | some ns' => if (ns'.map Slot.size).sum ≠ fi.size then none else (match putSlots ss off fi.size ns' with
     | some ss' => gFill T fs ss' rest
     | none => none)
    | none => none)
   | _, _ => none)
  | none => none)

theorem fill_rel (hT : TOK P T) {fs : List (Nat × Nat)} {place : Nat → Option (Nat × Nat)} (hp : ∀ i ft off fi, fs[i]? = some (ft, off) → T[ft]? = some fi → place i = some (off, fi.size)) {own : Nat → Prop} {ev : Operand → G} :
  ∀ {parts : List (Nat × Operand)} {ss ss' : List Slot} {cells : Array Value}, gFill T fs ss (parts.map fun x => (x.1, ev x.2)) = some ss' → (∀ x ∈ parts, VG μ w own (ev x.2) (a.eval x.2)) → VS μ w own ss cells.toList →
   ∃ cells', Instr.fill place cells (parts.map fun x => (x.1, a.eval x.2)) = some cells' ∧ VS μ w own ss' cells'.toList
 | [], ss, ss', cells, h, _, hv => by simp only [List.map_nil, gFill, Option.some.injEq] at h; subst h; exact ⟨cells, rfl, hv⟩
 | (i, x) :: rest, ss, ss', cells, h, hx, hv => by
  simp only [List.map_cons, gFill] at h
  split at h
  ·rename_i ft off hf
   split at h
   ·rename_i fi ns hfi hns
    split at h
    ·rename_i ns' hns'
     split at h
     ·cases h
     ·rename_i hsum
      have hsum : (ns'.map Slot.size).sum = fi.size := by simpa using hsum
      split at h
      ·rename_i ss1 hput
       have hds := toShape_rel (hT ft fi hfi).shok hns' (slotsOf_rel hns (hx (i, x) (by simp)))
       have hlen : (a.eval x).cells.toList.length = fi.size := by rw [hds.length, hsum]
       obtain ⟨hle, hput'⟩ := VS.put hput hv hds hlen
       have hlen' : (a.eval x).cells.size = fi.size := by simpa using hlen
       have hle' : off + (a.eval x).cells.size ≤ cells.size := by rw [hlen']; simpa using hle
       have hfold := fold_cells off (a.eval x) cells hle'
       obtain ⟨cells', h1, h2⟩ := fill_rel hT hp h (fun y hy => hx y (by simp [hy])) (cells := (a.eval x).cells.zipIdx.foldl (fun (cs : Array Value) (x : Value × Nat) => cs.setIfInBounds (off + x.2) x.1) cells) (by rw [hfold, hlen']; exact hput')
       refine ⟨cells', ?_, h2⟩
       simp only [List.map_cons, Instr.fill, hp i ft off fi hf hfi, hlen']
       rw [if_neg (by simp; rw [hlen'] at hle'; omega)]
       exact h1
      ·cases h
    ·cases h
   ·cases h
  ·cases h

theorem run_mapM {α β : Type} {f : α → Sem β} {g : α → β} : ∀ (l : List α), (∀ x ∈ l, (f x).run P w = .ok (g x) w) → (l.mapM f).run P w = .ok (l.map g) w
 | [], _ => by simp
 | x :: l, h => by
  rw [List.mapM_cons]
  simp [h x (by simp), run_mapM l fun y hy => h y (by simp [hy])]

def gFillA (τ : Ty) : List τ.den → List (Nat × G) → Option (List τ.den)
 | xs, [] => some xs
 | xs, (i, .r g) :: rest => (match toDen τ g with
  | some d => if i < xs.length then gFillA τ (xs.set i d) rest else none
  | none => none)
 | _, _ => none

theorem fillA_rel {τ : Ty} {size : Nat} (hsz : τ.size = size) {own : Nat → Prop} {ev : Operand → G} :
  ∀ {parts : List (Nat × Operand)} {xs ys : List τ.den} {cells : Array Value}, gFillA τ xs (parts.map fun x => (x.1, ev x.2)) = some ys → (∀ x ∈ parts, VG μ w own (ev x.2) (a.eval x.2)) → RepAll w own τ xs cells.toList →
   ∃ cells', Instr.fill (fun i => some (i * size, size)) cells (parts.map fun x => (x.1, a.eval x.2)) = some cells' ∧ RepAll w own τ ys cells'.toList ∧ ys.length = xs.length
 | [], xs, ys, cells, h, _, hv => by simp only [List.map_nil, gFillA, Option.some.injEq] at h; subst h; exact ⟨cells, rfl, hv, rfl⟩
 | (i, x) :: rest, xs, ys, cells, h, hx, hv => by
  have hx0 := hx (i, x) (by simp)
  simp only [List.map_cons] at h
  unfold gFillA at h
  split at h
  ·rename_i heq; cases heq
  ·rename_i i' g rest' heq
   simp only [List.cons.injEq, Prod.mk.injEq] at heq
   obtain ⟨⟨rfl, hev⟩, rfl⟩ := heq
   rw [hev] at hx0
   split at h
   ·rename_i d hd
    split at h
    ·rename_i hi
     have hr := toDen_rel hd hx0
     have hlen : (a.eval x).cells.size = size := by have := hr.length; simpa [hsz] using this
     have hcl := hv.length
     have hle : i * size + size ≤ cells.size := by
      have := Nat.mul_le_mul_right size (Nat.succ_le_of_lt hi)
      rw [Nat.succ_mul] at this
      rw [hsz] at hcl; simp at hcl; omega
     have hset := hv.set i d _ hi hr
     have hfold := fold_cells (i * size) (a.eval x) cells (by rw [hlen]; exact hle)
     obtain ⟨cells', h1, h2, h3⟩ := fillA_rel hsz h (fun y hy => hx y (by simp [hy])) (cells := (a.eval x).cells.zipIdx.foldl (fun (cs : Array Value) (x : Value × Nat) => cs.setIfInBounds (i * size + x.2) x.1) cells) (by
      rw [hfold, hlen, ← hsz]
      rw [Nat.add_mul, Nat.one_mul] at hset
      exact hset)
     refine ⟨cells', ?_, h2, by simpa using h3⟩
     simp only [List.map_cons, Instr.fill, hlen]
     rw [if_neg (by simp; omega)]
     exact h1
    ·cases h
   ·cases h
  ·cases h

def gBuild (T : Tbl) (t : TypeId) (parts : List (Nat × G)) : Option G :=
 match T[t]? with
 | some ti => (match ti.d with
  | .struct fs => if fs.all (fun f => (T[f.1]?).isSome) then (match gFill T fs (ti.zero.map Sh.zero) parts with | some ss => some (.r (.agg ss)) | none => none) else none
  | .array n e => (match T[e]? with
   | some ei => (match ti.zero with
    | [.ar τ m] => if m = n ∧ τ.size = ei.size then (match gFillA τ (List.replicate n τ.dflt) parts with | some xs => some (.r (.agg [.arr τ n xs])) | none => none) else none
    | _ => none)
   | none => none)
  | _ => none)
 | none => none

theorem build_ok (hT : TOK P T) {t : TypeId} {parts : Array (Nat × Operand)} (ho : o.op = .build t parts) {ev : Operand → G} {g : G} (hg : gBuild T t (parts.toList.map fun x => (x.1, ev x.2)) = some g)
  (hx : ∀ x ∈ parts.toList, VG μ w (ownOf μ H) (ev x.2) (a.eval x.2)) (hH : HRel μ w H) : OpOK P o a μ w H { val := g } := by
 have he : execOp a.eval o = (do Pure.pure (.value (← Instr.build t (parts.map fun x => (x.1, a.eval x.2))))) := by simp [execOp, ho]
 have hpl : (parts.map fun x => (x.1, a.eval x.2)).toList = parts.toList.map fun x => (x.1, a.eval x.2) := by simp
 unfold gBuild at hg
 split at hg
 rotate_left
 ·cases hg
 rename_i ti hti
 obtain ⟨z, hz1, hz2, _⟩ := (hT t ti hti).run_zero w
 obtain ⟨D, hr, hD, hf⟩ := (hT t ti hti).run_und w
 split at hg
 ·rename_i fs hd
  rw [hd] at hf
  obtain ⟨fields, rfl, hfs⟩ := hf
  split at hg
  ·rename_i hall
   split at hg
   ·rename_i ss hss
    simp only [Option.some.injEq] at hg; subst hg
    let sz : Field → Nat := fun f => ((T[f.type]?).map (·.size)).getD 0
    have hall' : ∀ f ∈ fields.toList, (sizeOf f.type).run P w = .ok (sz f) w := by
     intro f hf
     have h1 : (T[f.type]?).isSome = true := by
      have := List.all_eq_true.1 hall (f.type, f.offset) (by rw [← hfs]; exact List.mem_map_of_mem hf)
      simpa using this
     cases hq : T[f.type]? with
     | none => rw [hq] at h1; cases h1
     | some fi => simp [sz, hq, (hT _ _ hq).run_size w]
    have hmap : (fields.mapM fun f => (do Pure.pure (f.offset, ← sizeOf f.type) : Sem (Nat × Nat))).run P w = .ok (fields.toList.map fun f => (f.offset, sz f)).toArray w := by
     rw [Array.mapM_eq_mapM_toList]
     have := run_mapM (P := P) (w := w) (f := fun f : Field => (do Pure.pure (f.offset, ← sizeOf f.type) : Sem (Nat × Nat))) (g := fun f => (f.offset, sz f)) fields.toList (fun f hf => by
      rw [Sem.run_bind, hall' f hf]; rfl)
     rw [Sem.run_map, this]; rfl
    have hp : ∀ (i ft off : Nat) (fi : TI), fs[i]? = some (ft, off) → T[ft]? = some fi → ((fields.toList.map fun f => (f.offset, sz f)).toArray)[i]? = some (off, fi.size) := by
     intro i ft off fi h1 h2
     obtain ⟨fd, hfd, rfl, rfl⟩ := fields_get hfs h1
     have : fields.toList[i]? = some fd := by simpa using hfd
     simp [this, sz, h2]
    obtain ⟨cells', h1, h2⟩ := fill_rel hT hp hss hx (zslots_rel hz2).1
    refine .val hH he (v := .agg cells') ?_ ⟨cells', rfl, h2⟩
    simp only [Instr.build, Sem.run_bind, hz1, Result.andThen_ok, hr, hmap, hpl, h1, Sem.run_pure]
   ·cases hg
  ·cases hg
 ·rename_i n e hd
  rw [hd] at hf; simp only [TD.fits] at hf; subst hf
  split at hg
  rotate_left
  ·cases hg
  rename_i ei hei
  split at hg
  ·rename_i τ m hz0
   split at hg
   ·rename_i hcond
    obtain ⟨rfl, hsz⟩ := hcond
    split at hg
    ·rename_i xs hxs
     simp only [Option.some.injEq] at hg; subst hg
     have hzr := (zslots_rel (μ := μ) (w := w) (own := ownOf μ H) hz2).1
     rw [hz0] at hzr
     obtain ⟨hok, _, c1, c2, hc, hrep, hnil⟩ := hzr
     simp only [List.map_nil, VS] at hnil
     subst hnil
     simp only [List.append_nil] at hc
     obtain ⟨cells', h1, h2, h3⟩ := fillA_rel hsz hxs hx (cells := z.cells) (by rw [hc]; exact hrep)
     refine .val hH he (v := .agg cells') ?_ ⟨cells', rfl, hok, by simpa using h3, cells'.toList, [], by simp, h2, rfl⟩
     simp only [Instr.build, Sem.run_bind, hz1, Result.andThen_ok, hr, (hT e ei hei).run_size w, hpl, h1, Sem.run_pure]
    ·cases hg
   ·cases hg
  ·cases hg
 ·cases hg

def gElems (τ : Ty) : Nat → List (Nat × G) → Option (List τ.den)
 | _, [] => some []
 | k, (i, .r g) :: rest => if i = k then (match toDen τ g with
  | some d => (match gElems τ (k + 1) rest with | some ds => some (d :: ds) | none => none)
  | none => none) else none
 | _, _ => none

theorem elems_rel {τ : Ty} {size : Nat} (hsz : τ.size = size) {own : Nat → Prop} {ev : Operand → G} :
  ∀ {parts : List (Nat × Operand)} {k : Nat} {ds : List τ.den} {cells : Array Value}, gElems τ k (parts.map fun x => (x.1, ev x.2)) = some ds → (∀ x ∈ parts, VG μ w own (ev x.2) (a.eval x.2)) → (k + parts.length) * size ≤ cells.size →
   ∃ cells' news, Instr.fill (fun i => some (i * size, size)) cells (parts.map fun x => (x.1, a.eval x.2)) = some cells' ∧ RepAll w own τ ds news ∧ ds.length = parts.length ∧ cells'.toList = cells.toList.take (k * size) ++ news ++ cells.toList.drop ((k + parts.length) * size)
 | [], k, ds, cells, h, _, hl => by
  simp only [List.map_nil, gElems, Option.some.injEq] at h; subst h
  exact ⟨cells, [], rfl, rfl, rfl, by simp⟩
 | (i, x) :: rest, k, ds, cells, h, hx, hl => by
  have hx0 := hx (i, x) (by simp)
  simp only [List.map_cons] at h
  cases hev : ev x with
  | tup gs => rw [hev] at h; simp [gElems] at h
  | r g =>
   rw [hev] at h hx0
   simp only [gElems] at h
   split at h
   ·rename_i hik
    subst hik
    split at h
    ·rename_i d hd
     split at h
     ·rename_i ds' hds
      simp only [Option.some.injEq] at h; subst h
      have hr := toDen_rel hd hx0
      have hlen : (a.eval x).cells.size = size := by have := hr.length; simpa [hsz] using this
      simp only [List.length_cons] at hl ⊢
      have e1 : (i + (rest.length + 1)) * size = i * size + size + rest.length * size := by rw [Nat.add_mul, Nat.add_mul]; omega
      have e2 : (i + 1) * size = i * size + size := by rw [Nat.add_mul]; omega
      have e3 : (i + 1 + rest.length) * size = i * size + size + rest.length * size := by rw [Nat.add_mul, e2]
      have hfold := fold_cells (i * size) (a.eval x) cells (by rw [hlen]; omega)
      have hsize : (((a.eval x).cells.zipIdx.foldl (fun (cs : Array Value) (x : Value × Nat) => cs.setIfInBounds (i * size + x.2) x.1) cells)).size = cells.size := by
       rw [← Array.length_toList, hfold]; simp [hlen]; omega
      obtain ⟨cells', news, h1, h2, h3, h4⟩ := elems_rel hsz hds (fun y hy => hx y (by simp [hy])) (cells := (a.eval x).cells.zipIdx.foldl (fun (cs : Array Value) (x : Value × Nat) => cs.setIfInBounds (i * size + x.2) x.1) cells) (by rw [hsize]; omega)
      refine ⟨cells', (a.eval x).cells.toList ++ news, ?_, ⟨_, _, rfl, hr, h2⟩, by simp [h3], ?_⟩
      ·simp only [List.map_cons, Instr.fill, hlen]
       rw [if_neg (by simp; omega)]
       exact h1
      ·rw [h4, hfold, e1, e2, e3, hlen]
       have hA : (cells.toList.take (i * size) ++ (a.eval x).cells.toList).length = i * size + size := by simp [hlen]; omega
       have t1 : (cells.toList.take (i * size) ++ (a.eval x).cells.toList ++ cells.toList.drop (i * size + size)).take (i * size + size) = cells.toList.take (i * size) ++ (a.eval x).cells.toList := by
        rw [← hA]; exact List.take_left
       have t2 : (cells.toList.take (i * size) ++ (a.eval x).cells.toList ++ cells.toList.drop (i * size + size)).drop (i * size + size + rest.length * size) = cells.toList.drop (i * size + size + rest.length * size) := by
        rw [← List.drop_drop, ← hA, List.drop_left, hA, List.drop_drop]
       rw [t1, t2]
       simp
     ·cases h
    ·cases h
   ·cases h

def gBuildSlice (T : Tbl) (t : TypeId) (len : Nat) (parts : List (Nat × G)) : Option G :=
 match T[t]? with
 | some ti => (match ti.d with
  | .slice e => (match T[e]? with
   | some ei => (match ei.ty with
    | some τ => if len * ei.size ≤ 16777216 ∧ parts.length = len ∧ 0 < τ.size then (match gElems τ 0 parts with | some ds => some (.a (.lst τ ds true)) | none => none) else none
    | none => none)
   | none => none)
  | _ => none)
 | none => none

theorem buildSlice_ok (hT : TOK P T) {t : TypeId} {len : Nat} {parts : Array (Nat × Operand)} (ho : o.op = .buildSlice t len parts) {ev : Operand → G} {g : G} (hg : gBuildSlice T t len (parts.toList.map fun x => (x.1, ev x.2)) = some g)
  (hx : ∀ x ∈ parts.toList, VG μ w (ownOf μ H) (ev x.2) (a.eval x.2)) (hH : HRel μ w H) : OpOK P o a μ w H { val := g } := by
 have he : execOp a.eval o = (do Pure.pure (.value (← Instr.buildSlice t len (parts.map fun x => (x.1, a.eval x.2))))) := by simp [execOp, ho]
 have hpl : (parts.map fun x => (x.1, a.eval x.2)).toList = parts.toList.map fun x => (x.1, a.eval x.2) := by simp
 unfold gBuildSlice at hg
 split at hg
 rotate_left
 ·cases hg
 rename_i ti hti
 split at hg
 rotate_left
 ·cases hg
 rename_i e hd
 split at hg
 rotate_left
 ·cases hg
 rename_i ei hei
 split at hg
 rotate_left
 ·cases hg
 rename_i τ hτ
 split at hg
 rotate_left
 ·cases hg
 rename_i hcond
 obtain ⟨hbig, hlen, hp⟩ := hcond
 simp only [List.length_map] at hlen
 split at hg
 rotate_left
 ·cases hg
 rename_i ds hds
 simp only [Option.some.injEq] at hg; subst hg
 obtain ⟨D, hr, hD, hf⟩ := (hT t ti hti).run_und w
 rw [hd] at hf; simp only [TD.fits] at hf; subst hf
 have hty := (hT e ei hei).tyok hτ
 obtain ⟨z, hz1, hz2, _⟩ := (hT e ei hei).run_zero w
 have hbig' : ¬ (len * ei.size > 2 ^ 24) := by omega
 have main : ∀ zz : Array Value, ∃ cells' news, Instr.fill (fun i => some (i * ei.size, ei.size)) ((Array.range (len * ei.size)).map (zz[· % zz.size]!)) (parts.toList.map fun x => (x.1, a.eval x.2)) = some cells' ∧ RepAll w (ownOf μ H) τ ds news ∧ ds.length = len ∧ cells'.toList = news := by
  intro zz
  obtain ⟨cells', news, h1, h2, h3, h4⟩ := elems_rel (μ := μ) (w := w) hty.2.1 hds hx (cells := (Array.range (len * ei.size)).map (zz[· % zz.size]!)) (by simp [hlen])
  refine ⟨cells', news, h1, h2, h3.trans hlen, ?_⟩
  rw [h4]
  simp [hlen]
 have hrun : ∃ cells', (Instr.buildSlice t len (parts.map fun x => (x.1, a.eval x.2))).run P w = .ok (.slice (some ⟨w.heap.size, 0, none⟩) len len) (w.alloc (.cells cells' e)) ∧ RepAll w (ownOf μ H) τ ds cells'.toList ∧ ds.length = len := by
  by_cases h0 : len * ei.size = 0
  ·obtain ⟨cells', news, h1, h2, h3, h4⟩ := main #[]
   refine ⟨cells', ?_, by rw [h4]; exact h2, h3⟩
   simp only [Instr.buildSlice, Sem.run_bind, hr, Result.andThen_ok, (hT e ei hei).run_size w]
   rw [if_neg hbig']
   simp only [h0, if_true, Sem.run_bind, Sem.run_pure, Result.andThen_ok, hpl]
   rw [h0] at h1
   rw [h1]
   rfl
  ·obtain ⟨cells', news, h1, h2, h3, h4⟩ := main z.cells
   refine ⟨cells', ?_, by rw [h4]; exact h2, h3⟩
   simp only [Instr.buildSlice, Sem.run_bind, hr, Result.andThen_ok, (hT e ei hei).run_size w]
   rw [if_neg hbig']
   simp only [h0, if_false, Sem.run_bind, Sem.run_pure, Result.andThen_ok, hpl, hz1]
   rw [h1]
   rfl
 obtain ⟨cells', hrun, hrep, hdl⟩ := hrun
 refine .grown hH (v := .slice (some ⟨w.heap.size, 0, none⟩) len len) (w' := w.alloc (.cells cells' e)) (by rw [he]; simp [hrun]) (by simp) rfl rfl rfl (fun k hk => heap_alloc_old w _ k hk) fun hext => ?_
 refine ⟨_, _, by rw [hdl], ⟨⟨hp, hty.1⟩, by omega, by simp, fun ad had => ?_⟩, fun _ => hdl.symm⟩
 cases had
 intro i x hx
 obtain ⟨vs, hl, hv, hc⟩ := hrep.get i x hx
 refine ⟨rfl, ?_, vs, hl, hv.ext hext hty.1, fun j u hu => ?_⟩
 ·rintro (hX | ⟨n, l, h1, h2, h3⟩)
  ·have := hH.xlt _ hX; simp at this
  cases hb : H n with
  | none => exact h1 hb
  | some b => have := (hH.blk n b hb).lt l h2; simp at h3; omega
 ·have := hc j u hu
  rw [Nat.zero_add]
  exact cell_of_blk (heap_alloc_new w (.cells cells' e)) this

def fnV (f : FuncId) : Value := .func (.func f) #[] #[]
theorem fnV_cells (f : FuncId) : (fnV f).cells = #[fnV f] := by
 apply Array.ext'
 rw [Value.cells_of_one (show (fnV f).oneCell' = true from rfl)]

def gFns : Nat → List (Nat × G) → Option (List FuncId)
 | _, [] => some []
 | k, (i, .r (.at (.fn f))) :: rest => if i = k then (match gFns (k + 1) rest with | some fs => some (f :: fs) | none => none) else none
 | _, _ => none

theorem VS.fns {μ : Map} {w : World} {own : Nat → Prop} : ∀ fs : List FuncId, VS μ w own (fs.map fun f => .cell (.fn f)) (fs.map fnV)
 | [] => rfl
 | _ :: fs => ⟨_, _, rfl, rfl, rfl, VS.fns fs⟩

theorem fns_rel {own : Nat → Prop} {ev : Operand → G} : ∀ {parts : List (Nat × Operand)} {k : Nat} {fs : List FuncId} {cells : Array Value}, gFns k (parts.map fun x => (x.1, ev x.2)) = some fs → (∀ x ∈ parts, VG μ w own (ev x.2) (a.eval x.2)) → k + parts.length ≤ cells.size →
  ∃ cells', Instr.fill (fun i => some (i * 1, 1)) cells (parts.map fun x => (x.1, a.eval x.2)) = some cells' ∧ fs.length = parts.length ∧ cells'.toList = cells.toList.take k ++ fs.map fnV ++ cells.toList.drop (k + parts.length)
 | [], k, fs, cells, h, _, hl => by
  simp only [List.map_nil, gFns, Option.some.injEq] at h; subst h
  exact ⟨cells, rfl, rfl, by simp⟩
 | (i, x) :: rest, k, fs, cells, h, hx, hl => by
  have hx0 := hx (i, x) (by simp)
  simp only [List.map_cons] at h
  unfold gFns at h
  split at h
  ·rename_i heq; cases heq
  ·rename_i k' i' f rest' heq
   simp only [List.cons.injEq, Prod.mk.injEq] at heq
   obtain ⟨⟨rfl, hev⟩, rfl⟩ := heq
   split at h
   rotate_left
   ·cases h
   rename_i hik
   subst hik
   split at h
   rotate_left
   ·cases h
   rename_i fs' hfs
   simp only [Option.some.injEq] at h; subst h
   rw [hev] at hx0
   have hv : a.eval x = fnV f := hx0
   simp only [List.length_cons] at hl ⊢
   have hc := fnV_cells f
   have hset : ((fnV f).cells.zipIdx.foldl (fun (cs : Array Value) (x : Value × Nat) => cs.setIfInBounds (i + x.2) x.1) cells) = cells.setIfInBounds i (fnV f) := by rw [hc]; simp
   obtain ⟨cells', h1, h2, h3⟩ := fns_rel hfs (fun y hy => hx y (by simp [hy])) (cells := cells.setIfInBounds i (fnV f)) (by simp; omega)
   refine ⟨cells', ?_, by simp [h2], ?_⟩
   ·simp only [List.map_cons, Instr.fill, hv, hc]
    rw [if_neg (by simp; omega)]
    rw [← hc]
    have hset' : ((fnV f).cells.zipIdx.foldl (fun (cs : Array Value) (x : Value × Nat) => cs.setIfInBounds (i * 1 + x.2) x.1) cells) = cells.setIfInBounds i (fnV f) := by rw [Nat.mul_one]; exact hset
    rw [hset']
    exact h1
   ·rw [h3, Array.toList_setIfInBounds]
    have hi : i < cells.toList.length := by simp; omega
    have e1 : (cells.toList.set i (fnV f)).take (i + 1) = cells.toList.take i ++ [fnV f] := by
     rw [List.take_add_one, List.take_set_of_le (Nat.le_refl _), List.getElem?_set_self hi]; rfl
    have e2 : (cells.toList.set i (fnV f)).drop (i + 1 + rest.length) = cells.toList.drop (i + (rest.length + 1)) := by
     rw [List.drop_set_of_lt (by omega), show i + 1 + rest.length = i + (rest.length + 1) by omega]
    rw [e1, e2]; simp
  ·cases h

def gBuildV (T : Tbl) (t : TypeId) (len n : Nat) (parts : List (Nat × G)) (es : List En) : Option (OR × List En) :=
 match T[t]? with
 | some ti => (match ti.d with
  | .slice e => (match T[e]? with
   | some ei => if ei.size = 1 ∧ len ≤ 1000 ∧ 0 < len ∧ parts.length = len then (match gFns 0 parts with
    | some fs => some ({ val := .a (.vw n 0 0 len), wr := [(n, some (.var (fs.map fun f => .cell (.fn f))))], mv := [n] }, es)
    | none => none) else none
   | none => none)
  | _ => none)
 | none => none

theorem buildV_ok (hT : TOK P T) {t : TypeId} {len n : Nat} {parts : Array (Nat × Operand)} (ho : o.op = .buildSlice t len parts) {ev : Operand → G} {es es' : List En} {R : OR} (hg : gBuildV T t len n (parts.toList.map fun x => (x.1, ev x.2)) es = some (R, es'))
  (hx : ∀ x ∈ parts.toList, VG μ w (ownOf μ H) (ev x.2) (a.eval x.2)) (hH : HRel μ w H) : OpOK P o a μ w H R := by
 have he : execOp a.eval o = (do Pure.pure (.value (← Instr.buildSlice t len (parts.map fun x => (x.1, a.eval x.2))))) := by simp [execOp, ho]
 have hpl : (parts.map fun x => (x.1, a.eval x.2)).toList = parts.toList.map fun x => (x.1, a.eval x.2) := by simp
 unfold gBuildV at hg
 split at hg
 rotate_left
 ·cases hg
 rename_i ti hti
 split at hg
 rotate_left
 ·cases hg
 rename_i e hd
 split at hg
 rotate_left
 ·cases hg
 rename_i ei hei
 split at hg
 rotate_left
 ·cases hg
 rename_i hcond
 obtain ⟨hsz, hbig, hpos, hlen⟩ := hcond
 simp only [List.length_map] at hlen
 split at hg
 rotate_left
 ·cases hg
 rename_i fs hfs
 simp only [Option.some.injEq, Prod.mk.injEq] at hg
 obtain ⟨rfl, rfl⟩ := hg
 obtain ⟨D, hr, hD, hf⟩ := (hT t ti hti).run_und w
 rw [hd] at hf; simp only [TD.fits] at hf; subst hf
 obtain ⟨z, hz1, hz2, _⟩ := (hT e ei hei).run_zero w
 have hbig' : ¬ (len * ei.size > 2 ^ 24) := by rw [hsz]; omega
 have h0 : ¬ len * ei.size = 0 := by rw [hsz]; omega
 obtain ⟨cells', h1, h2, h3⟩ := fns_rel (μ := μ) (w := w) hfs hx (cells := (Array.range (len * ei.size)).map (z.cells[· % z.cells.size]!)) (by simp [hlen, hsz])
 have h4 : cells'.toList = fs.map fnV := by rw [h3]; simp [hlen, hsz]
 have hrun : (Instr.buildSlice t len (parts.map fun x => (x.1, a.eval x.2))).run P w = .ok (.slice (some ⟨w.heap.size, 0, none⟩) len len) (w.alloc (.cells cells' e)) := by
  simp only [Instr.buildSlice, Sem.run_bind, hr, Result.andThen_ok, (hT e ei hei).run_size w]
  rw [if_neg hbig']
  simp only [h0, if_false, Sem.run_bind, Sem.run_pure, Result.andThen_ok, hpl, hz1]
  have e1 : (fun i : Nat => some (i * ei.size, ei.size)) = fun i => some (i * 1, 1) := by rw [hsz]
  rw [e1, h1]
  rfl
 obtain ⟨g1, g2⟩ := hH.new n (.cells cells' e) ⟨w.heap.size, len, 1, 0⟩ rfl (.var (fs.map fun f => .cell (.fn f))) (fun he =>
  ⟨_, _, _, upd_same .., heap_alloc_new w _, by rw [h4]; exact VS.fns fs⟩)
 exact ⟨.slice (some ⟨w.heap.size, 0, none⟩) len len, _, _, .inl (by rw [he]; simp [hrun]), fun m hm => upd_other _ _ _ (by simpa using hm), g1, g2, ⟨_, 0, len, upd_same .., rfl, Nat.le_refl _, fun _ => rfl⟩⟩

end
end Go.Gh
