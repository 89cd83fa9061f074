/- Slice expressions, lengths. -/
import Derived.Test.YtcaphjiiaclndaaGreatDoorGhG
namespace Go.Gh
set_option linter.unusedVariables false
set_option linter.unusedSimpArgs false

section
variable {P : Program} {T : Tbl} {o : Oper} {a : Act} {μ : Map} {w : World} {H : Heap}

def gBound : Option G → Option (Option Int)
 | none => some none
 | some (.r (.at (.int _ n))) => some (some n)
 | _ => none

def gSlice (T : Tbl) (H : Heap) (t : TypeId) (x : GA) (lo hi mx : Option Int) : Option OR :=
 match T[t]? with
 | some ti => (match ti.d, x, mx with
  | .slice e, .lst τ xs _, none =>
   (match T[e]? with
   | some ei => if ei.size = τ.size then some { val := .a (.lst τ ((List.take (hi.getD (List.length xs)).toNat xs).drop (lo.getD 0).toNat) false), cs := [0 ≤ lo.getD 0 ∧ lo.getD 0 ≤ hi.getD (List.length xs) ∧ hi.getD (List.length xs) ≤ (List.length xs : Int)] } else none
   | none => none)
  | .slice e, .lst τ xs _, some m =>
   (match hi, T[e]? with
   | some h, some ei => if ei.size = τ.size then some { val := .a (.lst τ ((List.take h.toNat xs).drop (lo.getD 0).toNat) true), cs := [0 ≤ lo.getD 0 ∧ lo.getD 0 ≤ h ∧ h ≤ (List.length xs : Int) ∧ m = h] } else none
   | _, _ => none)
  | .slice e, .sl n off len, none =>
   (match T[e]?, H n with
   | some ei, some (.gr τ e' xs mv) => if ei.size = τ.size then
     some { val := .a (.sl n (off + (lo.getD 0).toNat) ((hi.getD len).toNat - (lo.getD 0).toNat)), rd := [(n, .gr τ e' xs mv)], cs := [0 ≤ lo.getD 0 ∧ lo.getD 0 ≤ hi.getD len ∧ hi.getD len ≤ (len : Int) ∧ 0 < len] } else none
   | _, _ => none)
  | .slice e, .sl _ _ len, some m =>
   (match hi, T[e]? with
   | some h, some _ => some { val := .a .undef, cs := [0 ≤ lo.getD 0 ∧ lo.getD 0 ≤ h ∧ h ≤ m ∧ m ≤ (len : Int) ∧ 0 < len] }
   | _, _ => none)
  | .array k e, .ptr n base 0, none =>
   (match T[e]? with
   | some ei => if ei.size = 1 then some { val := .a (.vw n base (lo.getD 0).toNat ((hi.getD k).toNat - (lo.getD 0).toNat)), cs := [0 ≤ lo.getD 0 ∧ lo.getD 0 ≤ hi.getD k ∧ hi.getD k ≤ (k : Int)] } else none
   | none => none)
  | _, _, _ => none)
 | none => none

def BV (n : Option Int) (v : Option Value) : Prop := match n, v with
 | none, none => True
 | some n, some v => ∃ k, v = .int k n
 | _, _ => False

theorem run_sliceBound (k : IntKind) (i : Int) (y : Nat) (c : BoundsCode) (h0 : 0 ≤ i) (h1 : i ≤ y) : (Instr.sliceBound (.int k i) y c).run P w = .ok i.toNat w := by
 simp [Instr.sliceBound, asIntOf, h0, h1]

theorem run_sliceBounds (s : Bool) (len cap : Nat) {lo hi : Option Int} {vl vh : Option Value} (hl : BV lo vl) (hh : BV hi vh) (h0 : 0 ≤ lo.getD 0) (h1 : lo.getD 0 ≤ hi.getD len) (h2 : hi.getD len ≤ (cap : Int)) :
  (Instr.sliceBounds s len cap vl vh none).run P w = .ok ((lo.getD 0).toNat, (hi.getD len).toNat, cap) w := by
 cases hi <;> cases vh <;> simp only [BV] at hh
 ·simp only [Option.getD_none] at h1 h2
  cases lo <;> cases vl <;> simp only [BV] at hl
  ·simp [Instr.sliceBounds]
  ·rename_i n _
   obtain ⟨k, rfl⟩ := hl
   simp only [Option.getD_some] at h0 h1
   have e : ∀ c, (Instr.sliceBound (.int k n) len c).run P w = .ok n.toNat w := fun c => run_sliceBound k n len c h0 h1
   simp [Instr.sliceBounds, e]
 ·rename_i n _
  obtain ⟨k, rfl⟩ := hh
  simp only [Option.getD_some] at h1 h2
  have e1 : ∀ c, (Instr.sliceBound (.int k n) cap c).run P w = .ok n.toNat w := fun c => run_sliceBound k n cap c (by omega) h2
  cases lo <;> cases vl <;> simp only [BV] at hl
  ·simp [Instr.sliceBounds, e1]
  ·rename_i m _
   obtain ⟨k', rfl⟩ := hl
   simp only [Option.getD_some] at h0 h1
   have e : ∀ c, (Instr.sliceBound (.int k' m) n.toNat c).run P w = .ok m.toNat w := fun c => run_sliceBound k' m _ c h0 (by omega)
   simp [Instr.sliceBounds, e1, e]

theorem run_sliceBounds3 (s : Bool) (len cap : Nat) {lo : Option Int} {h m : Int} {vl : Option Value} {kh km : IntKind} (hl : BV lo vl) (h0 : 0 ≤ lo.getD 0) (h1 : lo.getD 0 ≤ h) (h2 : h ≤ m) (h3 : m ≤ (cap : Int)) :
  (Instr.sliceBounds s len cap vl (some (.int kh h)) (some (.int km m))).run P w = .ok ((lo.getD 0).toNat, h.toNat, m.toNat) w := by
 have e1 : ∀ c, (Instr.sliceBound (.int km m) cap c).run P w = .ok m.toNat w := fun c => run_sliceBound km m cap c (by omega) h3
 have e2 : ∀ c, (Instr.sliceBound (.int kh h) m.toNat c).run P w = .ok h.toNat w := fun c => run_sliceBound kh h _ c (by omega) (by omega)
 cases lo <;> cases vl <;> simp only [BV] at hl
 ·simp [Instr.sliceBounds, e1, e2]
 ·obtain ⟨k, rfl⟩ := hl
  simp only [Option.getD_some] at h0 h1
  have e3 : ∀ c, (Instr.sliceBound (.int k _) h.toNat c).run P w = .ok _ w := fun c => run_sliceBound k _ _ c h0 (by omega)
  simp [Instr.sliceBounds, e1, e2, e3]

theorem run_slice {t e : TypeId} {ti ei : TI} (hti : TOK1 P t ti) (hd : ti.d = .slice e) (hei : TOK1 P e ei) (b : Option Addr) (len cap : Nat) {vl vh vm : Option Value} {l h m : Nat}
  (hb : (Instr.sliceBounds true len cap vl vh vm).run P w = .ok (l, h, m) w) :
  (Instr.sliceAt t (.slice b len cap) vl vh vm).run P w = .ok (.slice (if m = l then b else b.map (·.add (l * ei.size))) (h - l) (m - l)) w := by
 obtain ⟨D, hr, hD, hf⟩ := hti.run_und w
 rw [hd] at hf; simp only [TD.fits] at hf; subst hf
 simp only [Instr.sliceAt, Sem.run_bind, hr, Result.andThen_ok, Instr.slice, hb, hei.run_size w, Sem.run_pure]

theorem LstRel.sub {own : Nat → Prop} {τ : Ty} {xs : List τ.den} {b : Option Addr} {cap : Nat} (hl : LstRel w own τ xs b cap) (l h m : Nat) (h1 : l ≤ h) (h2 : h ≤ xs.length) (hm : h ≤ m) (hmc : m ≤ cap) :
  LstRel w own τ ((xs.take h).drop l) (if m = l then b else b.map (·.add (l * τ.size))) (m - l) := by
 obtain ⟨ho, k1, k2, k3⟩ := hl
 refine ⟨ho, by simp; omega, ?_, ?_⟩
 ·intro hn
  cases b with
  | none => have := k2 rfl; omega
  | some b0 =>
   by_cases hml : m = l
   ·omega
   ·simp [hml] at hn
 ·intro ad had
  cases b with
  | none => by_cases hml : m = l <;> simp [hml] at had
  | some b0 =>
   have k4 := k3 b0 rfl
   by_cases hml : m = l
   ·simp only [hml, if_true, Option.some.injEq] at had
    subst had
    intro i x hx
    have : i + l < h := by
     rcases Nat.lt_or_ge (i + l) h with g | g
     ·exact g
     ·rw [List.getElem?_drop, List.getElem?_take, if_neg (by omega)] at hx; cases hx
    omega
   ·simp only [hml, if_false, Option.map_some, Option.some.injEq] at had
    subst had
    intro i x hx
    have hx' : xs[l + i]? = some x := by
     rw [List.getElem?_drop, List.getElem?_take] at hx
     split at hx
     ·exact hx
     ·cases hx
    obtain ⟨hs, hn, vs, hvl, hr, hc⟩ := k4 (l + i) x hx'
    rw [Addr.add_eq _ hs]
    refine ⟨rfl, hn, vs, hvl, hr, fun j v hv => ?_⟩
    have := hc j v hv
    rw [Nat.add_mul] at this
    simpa [Nat.add_assoc] using this

theorem slice_ok (hT : TOK P T) {t : TypeId} {x : Operand} {ol oh om : Option Operand} (ho : o.op = .slice t x ol oh om) {H0 : Heap} {gx : GA} {lo hi mx : Option Int} {R : OR} (hg : gSlice T H0 t gx lo hi mx = some R) (hc : AllP R.cs)
  (hrd : ∀ x ∈ R.rd, H x.1 = some x.2) (hx : VG μ w (ownOf μ H) (.a gx) (a.eval x)) (hl : BV lo (ol.map a.eval)) (hh : BV hi (oh.map a.eval)) (hm : BV mx (om.map a.eval)) (hH : HRel μ w H) : OpOK P o a μ w H R := by
 have hx' : VA μ w (ownOf μ H) gx (a.eval x) := hx
 have he : execOp a.eval o = (do Pure.pure (.value (← Instr.sliceAt t (a.eval x) (ol.map a.eval) (oh.map a.eval) (om.map a.eval)))) := by simp [execOp, ho]
 unfold gSlice at hg
 split at hg
 rotate_left
 ·cases hg
 rename_i ti hti
 split at hg
 ·rename_i e τ xs c hd
  split at hg
  ·rename_i ei hei
   split at hg
   ·rename_i hsz
    simp only [Option.some.injEq] at hg; subst hg
    obtain ⟨⟨h0, h1, h2⟩, _⟩ := hc
    obtain ⟨b, cap, hv, hlst, _⟩ := hx'
    have hmn : om.map a.eval = none := by cases hq : om.map a.eval with | none => rfl | some _ => rw [hq] at hm; exact hm.elim
    have hcap := hlst.2.1
    have hb := run_sliceBounds (P := P) (w := w) true xs.length cap hl hh h0 h1 (by omega)
    refine .val hH he (v := _) (by rw [hv, hmn]; exact run_slice (hT t ti hti) hd (hT e ei hei) b xs.length cap hb) ⟨(if cap = (lo.getD 0).toNat then b else b.map (·.add ((lo.getD 0).toNat * ei.size))), cap - (lo.getD 0).toNat, ?_, ?_, by simp⟩
    ·congr 1; simp; omega
    ·rw [hsz]; exact hlst.sub _ _ _ (by omega) (by omega) (by omega) (Nat.le_refl _)
   ·cases hg
  ·cases hg
 ·rename_i e τ xs c m hd
  split at hg
  ·rename_i h ei hei
   split at hg
   ·rename_i hsz
    simp only [Option.some.injEq] at hg; subst hg
    obtain ⟨⟨h0, h1, h2, rfl⟩, _⟩ := hc
    obtain ⟨b, cap, hv, hlst, _⟩ := hx'
    have hcap := hlst.2.1
    have hmm : ∃ km, om.map a.eval = some (.int km m) := by cases hq : om.map a.eval with | none => rw [hq] at hm; exact hm.elim | some _ => rw [hq] at hm; obtain ⟨k, rfl⟩ := hm; exact ⟨k, rfl⟩
    have hhh : ∃ kh, oh.map a.eval = some (.int kh m) := by cases hq : oh.map a.eval with | none => rw [hq] at hh; exact hh.elim | some _ => rw [hq] at hh; obtain ⟨k, rfl⟩ := hh; exact ⟨k, rfl⟩
    obtain ⟨km, hmm⟩ := hmm
    obtain ⟨kh, hhh⟩ := hhh
    have hb := run_sliceBounds3 (P := P) (w := w) true xs.length cap (kh := kh) (km := km) hl h0 h1 (Int.le_refl m) (by omega)
    refine .val hH he (v := _) (by rw [hv, hmm, hhh]; exact run_slice (hT t ti hti) hd (hT e ei hei) b xs.length cap hb) ⟨(if m.toNat = (lo.getD 0).toNat then b else b.map (·.add ((lo.getD 0).toNat * ei.size))), m.toNat - (lo.getD 0).toNat, ?_, ?_, ?_⟩
    ·congr 1; simp; omega
    ·rw [hsz]; exact hlst.sub _ _ _ (by omega) (by omega) (Nat.le_refl _) (by omega)
    ·intro _; simp; omega
   ·cases hg
  ·cases hg
 ·rename_i e n off len hd
  split at hg
  ·rename_i ei τ e' xs mv hei hHn
   split at hg
   ·rename_i hsz
    simp only [Option.some.injEq] at hg; subst hg
    obtain ⟨⟨h0, h1, h2, h3⟩, _⟩ := hc
    have hb := hH.blk n _ (hrd (n, .gr τ e' xs mv) (by simp))
    have hmn : om.map a.eval = none := by cases hq : om.map a.eval with | none => rfl | some _ => rw [hq] at hm; exact hm.elim
    rcases hx' with ⟨_, _, h4, _⟩ | ⟨l, of, hl', hcap, hv, hof⟩
    ·omega
    ·rcases hb.2 with ⟨h5, _⟩ | ⟨l', c, hl'', hls, _⟩
     ·rw [hl'] at h5; cases h5
     ·rw [hl'] at hl''; cases hl''
      have hb2 := run_sliceBounds (P := P) (w := w) true len (l.cap - off) hl hh h0 h1 (by omega)
      refine ⟨_, w, μ, .inl (by rw [he, hv, hmn]; simp [run_slice (hT t ti hti) hd (hT e ei hei) _ len _ hb2]; rfl), fun _ _ => rfl, ?_⟩
      rw [after_nil]
      refine ⟨hH, .refl, .inr ⟨l, (if l.cap - off = (lo.getD 0).toNat then of else of + (lo.getD 0).toNat * ei.size), hl', by omega, ?_, ?_⟩⟩
      ·by_cases hq : l.cap - off = (lo.getD 0).toNat
       ·simp only [hq, if_true]; congr 1; omega
       ·simp only [hq, if_false, Option.map_some]
        rw [Addr.add_eq _ rfl]
        congr 1; omega
      ·intro hlt
       rcases hlt with hlt | hlt
       ·rw [if_neg (by omega), hof (.inl (by omega)), hsz, hls, Nat.add_mul, Nat.add_assoc]
       ·have e1 : off = 0 := by omega
        have e2 : (lo.getD 0).toNat = 0 := by omega
        rw [hof (.inr e1), e1, e2]
        simp
   ·cases hg
  ·cases hg
 ·rename_i e n off len m hd
  split at hg
  ·rename_i h ei hei
   simp only [Option.some.injEq] at hg; subst hg
   obtain ⟨⟨h0, h1, h2, h3, h4⟩, _⟩ := hc
   have hmm : ∃ km, om.map a.eval = some (.int km m) := by cases hq : om.map a.eval with | none => rw [hq] at hm; exact hm.elim | some _ => rw [hq] at hm; obtain ⟨k, rfl⟩ := hm; exact ⟨k, rfl⟩
   have hhh : ∃ kh, oh.map a.eval = some (.int kh h) := by cases hq : oh.map a.eval with | none => rw [hq] at hh; exact hh.elim | some _ => rw [hq] at hh; obtain ⟨k, rfl⟩ := hh; exact ⟨k, rfl⟩
   obtain ⟨km, hmm⟩ := hmm
   obtain ⟨kh, hhh⟩ := hhh
   rcases hx' with ⟨_, _, h5, _⟩ | ⟨l, of, hl', hcap, hv, hof⟩
   ·omega
   ·have hb := run_sliceBounds3 (P := P) (w := w) true len (l.cap - off) (kh := kh) (km := km) hl h0 h1 h2 (by omega)
    exact .val hH he (v := _) (by rw [hv, hmm, hhh]; exact run_slice (hT t ti hti) hd (hT e ei hei) _ len _ hb) trivial
  ·cases hg
 ·rename_i k e n base hd
  split at hg
  ·rename_i ei hei
   split at hg
   ·rename_i hsz
    simp only [Option.some.injEq] at hg; subst hg
    obtain ⟨⟨h0, h1, h2⟩, _⟩ := hc
    have hmn : om.map a.eval = none := by cases hq : om.map a.eval with | none => rfl | some _ => rw [hq] at hm; exact hm.elim
    obtain ⟨l, hl', hv⟩ := hx'
    have hb2 := run_sliceBounds (P := P) (w := w) false k k hl hh h0 h1 h2
    obtain ⟨D, hr, hD, hf⟩ := (hT t ti hti).run_und w
    rw [hd] at hf; simp only [TD.fits] at hf; subst hf
    refine .val hH he (v := .slice (some (if k = (lo.getD 0).toNat then ⟨l.blk, base + 0, none⟩ else ⟨l.blk, base + 0 + (lo.getD 0).toNat * ei.size, none⟩)) ((hi.getD k).toNat - (lo.getD 0).toNat) (k - (lo.getD 0).toNat)) ?_ ?_
    ·rw [hv, hmn]
     simp only [Instr.sliceAt, Sem.run_bind, hr, Result.andThen_ok, Instr.sureAddr, Sem.run_pure, hb2, (hT e ei hei).run_size w]
     rw [Addr.add_eq _ rfl]
    ·refine ⟨l, (if k = (lo.getD 0).toNat then base else base + (lo.getD 0).toNat), k - (lo.getD 0).toNat, hl', ?_, by omega, ?_⟩
     ·by_cases hq : k = (lo.getD 0).toNat <;> simp [hq, hsz]
     ·intro hlt; rw [if_neg (by omega)]
   ·cases hg
  ·cases hg
 ·cases hg

def gLen (T : Tbl) (H : Heap) (t : TypeId) (x : GA) : Option OR :=
 match T[t]? with
 | some ti => (match ti.d, x with
  | .slice _, .lst _ xs _ => some { val := .a (.int .i64 (List.length xs : Int)) }
  | .slice _, .olst _ ox => some { val := .a (.int .i64 (List.length (ox.getD []) : Int)) }
  | .slice _, .nils => some { val := .a (.int .i64 0) }
  | .slice _, .sl _ _ len => some { val := .a (.int .i64 (len : Int)) }
  | .slice _, .vw _ _ _ len => some { val := .a (.int .i64 (len : Int)) }
  | .str, .str s => some { val := .a (.int .i64 (ByteArray.size s : Int)) }
  | .map _ _, .mp n => (match H n with
   | some (.mpb kt vt es) => some { val := .a (.int .i64 (List.length es : Int)), rd := [(n, .mpb kt vt es)] }
   | _ => none)
  | _, _ => none)
 | none => none

theorem EntsRel.length {own : Nat → Prop} {kt vt : Ty} : {xs : List (kt.den × vt.den)} → {es : List MapEntry} → EntsRel w own kt vt xs es → es.length = xs.length
 | [], _, h => by simp only [EntsRel] at h; subst h; rfl
 | _ :: xs, _, h => by
  obtain ⟨e, es', kv, vv, rfl, _, _, _, _, h5⟩ := h
  simp [EntsRel.length h5]

theorem len_ok (hT : TOK P T) {t : TypeId} {x : Operand} (ho : o.op = .call { callee := .builtin .len, args := #[x], argTypes := #[t] }) {H0 : Heap} {gx : GA} {R : OR} (hg : gLen T H0 t gx = some R)
  (hrd : ∀ x ∈ R.rd, H x.1 = some x.2) (hx : VG μ w (ownOf μ H) (.a gx) (a.eval x)) (hH : HRel μ w H) : OpOK P o a μ w H R := by
 have hx' : VA μ w (ownOf μ H) gx (a.eval x) := hx
 have he : execOp a.eval o = (do Pure.pure (.value (← Builtin.len_ #[t] o.type #[a.eval x]))) := by simp [execOp, ho, resolve, invoke, builtin]
 unfold gLen at hg
 split at hg
 rotate_left
 ·cases hg
 rename_i ti hti
 have slc : ∀ e, ti.d = .slice e → ∀ b n c, (Builtin.len_ #[t] o.type #[.slice b n c]).run P w = .ok (.int .i64 n) w := by
  intro e hd b n c
  obtain ⟨D, hr, hD, hf⟩ := (hT t ti hti).run_und w
  rw [hd] at hf; simp only [TD.fits] at hf; subst hf
  simp [Builtin.len_, hr, goInt]
 split at hg
 ·rename_i e τ xs c hd
  simp only [Option.some.injEq] at hg; subst hg
  obtain ⟨b, cap, hv, _⟩ := hx'
  exact .val hH he (by rw [hv]; exact slc e hd _ _ _) rfl
 ·rename_i e τ ox hd
  simp only [Option.some.injEq] at hg; subst hg
  rcases hx' with ⟨rfl, hv⟩ | ⟨xs, ad, cap, rfl, hv, _⟩
  ·exact .val hH he (by rw [hv]; exact slc e hd _ _ _) rfl
  ·exact .val hH he (by rw [hv]; exact slc e hd _ _ _) rfl
 ·rename_i e hd
  simp only [Option.some.injEq] at hg; subst hg
  simp only [VA] at hx'
  exact .val hH he (by rw [hx']; exact slc e hd _ _ _) rfl
 ·rename_i e n off len hd
  simp only [Option.some.injEq] at hg; subst hg
  rcases hx' with ⟨_, _, rfl, b, hv⟩ | ⟨_, _, _, _, hv, _⟩
  ·exact .val hH he (by rw [hv]; exact slc e hd _ _ _) rfl
  ·exact .val hH he (by rw [hv]; exact slc e hd _ _ _) rfl
 ·rename_i e n base off len hd
  simp only [Option.some.injEq] at hg; subst hg
  obtain ⟨_, _, _, _, hv, _⟩ := hx'
  exact .val hH he (by rw [hv]; exact slc e hd _ _ _) rfl
 ·rename_i s hd
  simp only [Option.some.injEq] at hg; subst hg
  have hv : a.eval x = .string s := hx'
  obtain ⟨D, hr, hD, hf⟩ := (hT t ti hti).run_und w
  rw [hd] at hf; simp only [TD.fits] at hf; subst hf
  exact .val hH he (v := .int .i64 (ByteArray.size s : Int)) (by rw [hv]; simp [Builtin.len_, hr, goInt]) rfl
 ·rename_i k v n hd
  split at hg
  ·rename_i kt vt es hHn
   simp only [Option.some.injEq] at hg; subst hg
   obtain ⟨l, hl, hv⟩ := hx'
   obtain ⟨l', ents, clock, hl', hb, _, _, hes⟩ := hH.blk n _ (hrd (n, .mpb kt vt es) (by simp))
   rw [hl] at hl'; cases hl'
   obtain ⟨D, hr, hD, hf⟩ := (hT t ti hti).run_und w
   rw [hd] at hf; simp only [TD.fits] at hf; subst hf
   refine ⟨.int .i64 (List.length es : Int), w, μ, .inl ?_, fun _ _ => rfl, ?_⟩
   ·rw [he, hv]
    have : ents.size = List.length es := by have := hes.length; simpa using this
    simp [Builtin.len_, hr, goInt, getObj, Sem.run, hb, this]
   ·rw [after_nil]; exact ⟨hH, .refl, rfl⟩
  ·cases hg
 ·cases hg

end
end Go.Gh
