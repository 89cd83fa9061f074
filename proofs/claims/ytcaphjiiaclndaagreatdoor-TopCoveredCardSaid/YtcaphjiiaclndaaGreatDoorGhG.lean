/- Addresses, slices, lengths. -/
import Derived.Test.YtcaphjiiaclndaaGreatDoorGhFa
namespace Go.Gh
set_option linter.unusedVariables false
set_option linter.unusedSimpArgs false

section
variable {P : Program} {T : Tbl} {o : Oper} {a : Act} {μ : Map} {w : World} {H : Heap}

def gNilCheck : GA → Bool
 | .ptr .. | .ptg .. | .ipt .. | .ipa .. => true
 | _ => false

theorem nilCheck_ok {x : Operand} (ho : o.op = .nilCheck x) {g : GA} (hg : gNilCheck g = true) (hx : VG μ w (ownOf μ H) (.a g) (a.eval x)) (hH : HRel μ w H) : OpOK P o a μ w H { val := .a g } := by
 have hx' : VA μ w (ownOf μ H) g (a.eval x) := hx
 refine .pure hH (v := a.eval x) ?_ hx
 have : ∃ ad, a.eval x = .pointer (some ad) := by
  cases g <;> simp only [gNilCheck, reduceCtorEq] at hg
  case ptr => obtain ⟨_, _, h⟩ := hx'; exact ⟨_, h⟩
  case ptg => obtain ⟨_, _, h⟩ := hx'; exact ⟨_, h⟩
  case ipt => obtain ⟨_, _, _, h, _⟩ := hx'; exact ⟨_, h⟩
  case ipa => obtain ⟨_, _, _, h, _⟩ := hx'; exact ⟨_, h⟩
 obtain ⟨ad, h⟩ := this
 simp [execOp, ho, h]

def iptField : (τ : Ty) → τ.den → Nat → Option GA
 | .pair a _, x, 0 => some (.ipt a x.1)
 | .pair _ b, x, f + 1 => iptField b x.2 f
 | _, _, _ => none

def iptOff : Ty → Nat → Nat
 | .pair a b, f + 1 => a.size + iptOff b f
 | _, _ => 0

def gFieldAddr (T : Tbl) (t : TypeId) (x : GA) (f : Nat) : Option GA :=
 match T[t]? with
 | some ti => (match ti.d with
  | .struct fs => (match fs[f]? with
   | some (ft, off) => (match T[ft]?, x with
    | some fi, .ptr n base idx => if fi.size = 0 then none else some (.ptr n (base + off) idx)
    | some fi, .ipt τ y => if fi.size = 0 then none else if iptOff τ f = off then iptField τ y f else none
    | _, _ => none)
   | none => none)
  | _ => none)
 | none => none

theorem iptField_rel {w : World} {own : Nat → Prop} : {τ : Ty} → {y : τ.den} → {f : Nat} → {g : GA} → {cs : List Value} → iptField τ y f = some g → τ.ok → Rep w own τ y cs →
  ∃ (σ : Ty) (z : σ.den) (c1 c2 c3 : List Value), g = .ipt σ z ∧ σ.ok ∧ cs = c1 ++ c2 ++ c3 ∧ c1.length = iptOff τ f ∧ Rep w own σ z c2
 | .pair p q, y, 0, g, cs, h, ho, hr => by
  simp only [iptField, Option.some.injEq] at h; subst h
  obtain ⟨c1, c2, rfl, h1, h2⟩ := hr
  exact ⟨p, y.1, [], c1, c2, rfl, ho.1, by simp, rfl, h1⟩
 | .pair p q, y, f + 1, g, cs, h, ho, hr => by
  simp only [iptField] at h
  obtain ⟨c1, c2, rfl, h1, h2⟩ := hr
  obtain ⟨σ, z, d1, d2, d3, rfl, ho', rfl, hl, hz⟩ := iptField_rel h ho.2 h2
  exact ⟨σ, z, c1 ++ d1, d2, d3, rfl, ho', by simp, by simp [iptOff, hl, h1.length], hz⟩
 | .int _, _, 0, _, _, h, _, _ | .bool, _, 0, _, _, h, _, _ | .str, _, 0, _, _, h, _, _ | .unit, _, 0, _, _, h, _, _ | .list _, _, 0, _, _, h, _, _ | .opt _, _, 0, _, _, h, _, _ => by simp [iptField] at h
 | .int _, _, _ + 1, _, _, h, _, _ | .bool, _, _ + 1, _, _, h, _, _ | .str, _, _ + 1, _, _, h, _, _ | .unit, _, _ + 1, _, _, h, _, _ | .list _, _, _ + 1, _, _, h, _, _ | .opt _, _, _ + 1, _, _, h, _, _ => by simp [iptField] at h

theorem Addr.add_eq (a : Addr) (hs : a.spot = none) (n : Nat) : a.add n = ⟨a.block, a.off + n, none⟩ := by
 cases a; simp at hs; subst hs; unfold Addr.add; split <;> simp_all

theorem fieldAddr_ok (hT : TOK P T) {t : TypeId} {x : Operand} {f : Nat} (ho : o.op = .fieldAddr t x f) {gx g : GA} (hg : gFieldAddr T t gx f = some g) (hx : VG μ w (ownOf μ H) (.a gx) (a.eval x)) (hH : HRel μ w H) :
  OpOK P o a μ w H { val := .a g } := by
 have hx' : VA μ w (ownOf μ H) gx (a.eval x) := hx
 have he : execOp a.eval o = (do Pure.pure (.value (← Instr.fieldAt t (a.eval x) f))) := by simp [execOp, ho]
 unfold gFieldAddr at hg
 split at hg
 ·rename_i ti hti
  split at hg
  ·rename_i fs hd
   split at hg
   ·rename_i ft off hf
    obtain ⟨D, h1, h2, h3⟩ := (hT t ti hti).run_und w
    rw [hd] at h3
    obtain ⟨fields, rfl, hfs⟩ := h3
    obtain ⟨fd, hfd, rfl, rfl⟩ := fields_get hfs hf
    split at hg
    ·rename_i fi n base idx hfi
     split at hg
     ·cases hg
     ·rename_i hsz
      simp only [Option.some.injEq] at hg; subst hg
      obtain ⟨l, hl, hv⟩ := hx'
      refine .val hH he (v := .pointer (some ⟨l.blk, base + fd.offset + idx, none⟩)) ?_ ⟨l, hl, rfl⟩
      simp only [Instr.fieldAt, Sem.run_bind, h1, Result.andThen_ok, hfd, hv, Instr.sureAddr, Sem.run_pure, fieldPlace, (hT _ _ hfi).run_size w, hsz, if_false]
      rw [Addr.add_eq _ rfl]
      simp only [Nat.add_right_comm]
    ·rename_i fi τ y hfi
     split at hg
     ·cases hg
     ·rename_i hsz
      split at hg
      ·rename_i hoff
       obtain ⟨hok, ad, vs, hv, hs, hr, hc⟩ := hx'
       obtain ⟨σ, z, c1, c2, c3, rfl, ho', rfl, hl, hz⟩ := iptField_rel hg hok hr
       refine .val hH he (v := .pointer (some ⟨ad.block, ad.off + fd.offset, none⟩)) ?_ ⟨ho', ⟨ad.block, ad.off + fd.offset, none⟩, c2, rfl, rfl, hz, fun j u hu => ?_⟩
       ·simp only [Instr.fieldAt, Sem.run_bind, h1, Result.andThen_ok, hfd, hv, Instr.sureAddr, Sem.run_pure, fieldPlace, (hT _ _ hfi).run_size w, hsz, if_false]
        rw [Addr.add_eq _ hs]
       ·have hj : j < c2.length := by
         rcases Nat.lt_or_ge j c2.length with h | h
         ·exact h
         ·simp [List.getElem?_eq_none h] at hu
        have := hc (fd.offset + j) u (by
         rw [← hoff, ← hl, List.append_assoc, List.getElem?_append_right (by omega)]
         simp only [Nat.add_sub_cancel_left]
         rw [List.getElem?_append_left hj]; exact hu)
        rwa [← Nat.add_assoc] at this
      ·cases hg
    ·cases hg
   all_goals cases hg
  all_goals cases hg
 all_goals cases hg

def gIndexAddr (T : Tbl) (H : Heap) (t : TypeId) (x : GA) (i : Int) (es : List En) : Option (OR × List En) :=
 match T[t]? with
 | some ti => (match ti.d, x with
  | .slice e, .lst τ xs _ => (match T[e]?, es with
   | some ei, .v g :: es' => if τ.size = ei.size then some ({ val := .a g, cs := [0 ≤ i ∧ ∃ y, xs[i.toNat]? = some y ∧ g = .ipt τ y] }, es') else none
   | _, _ => none)
  | .slice e, .olst τ ox => (match T[e]?, es with
   | some ei, .v g :: es' => if τ.size = ei.size then some ({ val := .a g, cs := [0 ≤ i ∧ ∃ y, (ox.getD [])[i.toNat]? = some y ∧ g = .ipt τ y] }, es') else none
   | _, _ => none)
  | .slice e, .sl n off len => (match T[e]?, H n with
   | some ei, some (.gr τ e' xs mv) => if τ.size = ei.size then some ({ val := .a (.ptg n (off + i.toNat)), rd := [(n, .gr τ e' xs mv)], cs := [0 ≤ i ∧ i < (len : Int)] }, es) else none
   | _, _ => none)
  | .slice e, .vw n base off len => (match T[e]?, es with
   | some ei, .v (.ptr n' b j) :: es' => if ei.size = 1 ∧ n' = n then some ({ val := .a (.ptr n b j), cs := [0 ≤ i ∧ i < (len : Int) ∧ base + (off + i.toNat) = b + j] }, es') else none
   | some ei, es => if ei.size = 1 then some ({ val := .a (.ptr n base (off + i.toNat)), cs := [0 ≤ i ∧ i < (len : Int)] }, es) else none
   | _, _ => none)
  | .array m e, .ptr n base idx => (match T[e]? with
   | some ei => some ({ val := .a (.ptr n base (idx + i.toNat * ei.size)), cs := [0 ≤ i ∧ i < (m : Int)] }, es)
   | _ => none)
  | .array m e, .ipa τ xs => (match T[e]?, es with
   | some ei, .v g :: es' => if τ.size = ei.size then some ({ val := .a g, cs := [0 ≤ i ∧ i < (m : Int) ∧ ∃ y, xs[i.toNat]? = some y ∧ g = .ipt τ y] }, es') else none
   | _, _ => none)
  | _, _ => none)
 | none => none

theorem lst_at {τ : Ty} {xs : List τ.den} {ad : Option Addr} {cap : Nat} {own : Nat → Prop} (h : LstRel w own τ xs ad cap) {i : Nat} {y : τ.den} (hy : xs[i]? = some y) :
  ∃ b, ad = some b ∧ b.spot = none ∧ ∀ μ : Map, VA μ w own (.ipt τ y) (.pointer (some ⟨b.block, b.off + i * τ.size, none⟩)) := by
 obtain ⟨⟨hpos, hok⟩, h1, h0, h2⟩ := h
 have hi : i < xs.length := by
  rcases Nat.lt_or_ge i xs.length with h | h
  ·exact h
  ·simp [List.getElem?_eq_none h] at hy
 cases ad with
 | none => have := h0 rfl; omega
 | some b =>
  obtain ⟨hs, hn, vs, hl, hr, hc⟩ := h2 b rfl i y hy
  exact ⟨b, rfl, hs, fun μ => ⟨hok, _, vs, rfl, rfl, hr, fun j u hu => ⟨hn, hc j u hu⟩⟩⟩

theorem run_indexAt_slice' {t e : TypeId} {ti ei : TI} (hti : TOK1 P t ti) (hd : ti.d = .slice e) (hei : TOK1 P e ei) (b : Option Addr) (len cap : Nat) (k : IntKind) (i : Int) (b0 : Addr) (hb : b = some b0) (hs : b0.spot = none) (h0 : 0 ≤ i) (h1 : i < (len : Int)) :
  (Instr.indexAt t (.slice b len cap) (.int k i)).run P w = .ok (.pointer (some ⟨b0.block, b0.off + i.toNat * ei.size, none⟩)) w := by
 obtain ⟨D, hr, hD, hf⟩ := hti.run_und w
 rw [hd] at hf; simp only [TD.fits] at hf; subst hf
 subst hb
 simp only [Instr.indexAt, asIntOf, Sem.run_bind, Sem.run_pure, Result.andThen_ok, hr]
 simp only [Sem.run_pure, Sem.run_bind, Result.andThen_ok, h0, h1, and_self, if_true, hei.run_size w, Addr.add_eq _ hs]

theorem run_indexAt_array' {t e m : TypeId} {ti ei : TI} (hti : TOK1 P t ti) (hd : ti.d = .array m e) (hei : TOK1 P e ei) (b0 : Addr) (hs : b0.spot = none) (k : IntKind) (i : Int) (h0 : 0 ≤ i) (h1 : i < (m : Int)) :
  (Instr.indexAt t (.pointer (some b0)) (.int k i)).run P w = .ok (.pointer (some ⟨b0.block, b0.off + i.toNat * ei.size, none⟩)) w := by
 obtain ⟨D, hr, hD, hf⟩ := hti.run_und w
 rw [hd] at hf; simp only [TD.fits] at hf; subst hf
 simp only [Instr.indexAt, asIntOf, Sem.run_bind, Sem.run_pure, Result.andThen_ok, hr, Instr.sureAddr]
 simp only [Sem.run_pure, Sem.run_bind, Result.andThen_ok, h0, h1, and_self, if_true, hei.run_size w, Addr.add_eq _ hs]

theorem RepAll.get_len {own : Nat → Prop} {t : Ty} {xs : List t.den} {cs : List Value} (h : RepAll w own t xs cs) {i : Nat} {x : t.den} (hx : xs[i]? = some x) :
  ∃ vs, Rep w own t x vs ∧ ∀ j v, vs[j]? = some v → cs[i * t.size + j]? = some v :=
 let ⟨vs, _, h1, h2⟩ := h.get i x hx; ⟨vs, h1, h2⟩

theorem indexAddr_ok (hT : TOK P T) {t : TypeId} {x ix : Operand} (ho : o.op = .indexAddr t x ix) {H0 : Heap} {gx : GA} {k : IntKind} {i : Int} {es es' : List En} {R : OR} (hg : gIndexAddr T H0 t gx i es = some (R, es')) (hc : AllP R.cs)
  (hrd : ∀ x ∈ R.rd, H x.1 = some x.2) (hx : VG μ w (ownOf μ H) (.a gx) (a.eval x)) (hi : VG μ w (ownOf μ H) (.a (.int k i)) (a.eval ix)) (hH : HRel μ w H) : OpOK P o a μ w H R := by
 have hx' : VA μ w (ownOf μ H) gx (a.eval x) := hx
 have hi' : a.eval ix = .int k i := hi
 have he : execOp a.eval o = (do Pure.pure (.value (← Instr.indexAt t (a.eval x) (a.eval ix)))) := by simp [execOp, ho]
 unfold gIndexAddr at hg
 split at hg
 rotate_left
 ·cases hg
 rename_i ti hti
 split at hg
 ·rename_i e τ xs c hd
  split at hg
  ·rename_i ei g es1 hei
   split at hg
   ·rename_i hsz
    simp only [Option.some.injEq, Prod.mk.injEq] at hg
    obtain ⟨rfl, rfl⟩ := hg
    obtain ⟨⟨h0, y, hy, rfl⟩, _⟩ := hc
    obtain ⟨ad, cap, hv, hl, _⟩ := hx'
    obtain ⟨b, rfl, hs, hva⟩ := lst_at hl hy
    have hlen : i.toNat < xs.length := by
     rcases Nat.lt_or_ge i.toNat xs.length with h | h
     ·exact h
     ·simp [List.getElem?_eq_none h] at hy
    refine .pure hH (v := .pointer (some ⟨b.block, b.off + i.toNat * ei.size, none⟩)) (by rw [he, hv, hi']; simp [run_indexAt_slice' (hT t ti hti) hd (hT e ei hei) (some b) xs.length cap k i b rfl hs h0 (by omega)]) ?_
    rw [← hsz]; exact hva μ
   ·cases hg
  ·cases hg
 ·rename_i e τ ox hd
  split at hg
  ·rename_i ei g es1 hei
   split at hg
   ·rename_i hsz
    simp only [Option.some.injEq, Prod.mk.injEq] at hg
    obtain ⟨rfl, rfl⟩ := hg
    obtain ⟨⟨h0, y, hy, rfl⟩, _⟩ := hc
    rcases hx' with ⟨rfl, _⟩ | ⟨xs, ad, cap, rfl, hv, hl⟩
    ·simp at hy
    ·simp only [Option.getD_some] at hy
     obtain ⟨b, hb, hs, hva⟩ := lst_at hl hy
     cases hb
     have hlen : i.toNat < xs.length := by
      rcases Nat.lt_or_ge i.toNat xs.length with h | h
      ·exact h
      ·simp [List.getElem?_eq_none h] at hy
     refine .pure hH (v := .pointer (some ⟨ad.block, ad.off + i.toNat * ei.size, none⟩)) (by rw [he, hv, hi']; simp [run_indexAt_slice' (hT t ti hti) hd (hT e ei hei) (some ad) xs.length cap k i ad rfl hs h0 (by omega)]) ?_
     rw [← hsz]; exact hva μ
   ·cases hg
  ·cases hg
 ·rename_i e n off len hd
  split at hg
  ·rename_i ei τ e' xs mv hei hHn
   split at hg
   ·rename_i hsz
    simp only [Option.some.injEq, Prod.mk.injEq] at hg
    obtain ⟨rfl, rfl⟩ := hg
    obtain ⟨⟨h0, h1⟩, _⟩ := hc
    have hb := hH.blk n _ (hrd (n, .gr τ e' xs mv) (by simp))
    rcases hx' with ⟨_, _, h3, _⟩ | ⟨l, of, hl, hcap, hv, hof⟩
    ·omega
    ·rcases hb.2 with ⟨h4, _⟩ | ⟨l', c, hl', hls, _⟩
     ·rw [hl] at h4; cases h4
     ·rw [hl] at hl'; cases hl'
      have := hof (.inl (by omega))
      subst this
      refine ⟨_, w, μ, .inl (by rw [he, hv, hi']; simp [run_indexAt_slice' (hT t ti hti) hd (hT e ei hei) _ len _ k i ⟨l.blk, l.base + off * l.size, none⟩ rfl rfl h0 h1]; rfl), fun _ _ => rfl, ?_⟩
      rw [after_nil]
      refine ⟨hH, .refl, l, hl, ?_⟩
      rw [Nat.add_mul, hls, hsz, Nat.add_assoc]
   ·cases hg
  ·cases hg
 ·rename_i e n base off len hd
  split at hg
  ·rename_i ei n' b j es1 hei
   split at hg
   ·rename_i hsz
    simp only [Option.some.injEq, Prod.mk.injEq] at hg
    obtain ⟨rfl, rfl⟩ := hg
    obtain ⟨⟨h0, h1, h2⟩, _⟩ := hc
    obtain ⟨l, of, c, hl, hv, hlc, hof⟩ := hx'
    have := hof (by omega)
    subst this
    refine .pure hH (v := .pointer (some ⟨l.blk, base + off + i.toNat * ei.size, none⟩)) (by rw [he, hv, hi']; simp [run_indexAt_slice' (hT t ti hti) hd (hT e ei hei) _ len _ k i ⟨l.blk, base + off, none⟩ rfl rfl h0 h1]) ⟨l, hl, ?_⟩
    rw [hsz.1, Nat.mul_one, Nat.add_assoc, h2]
   ·cases hg
  ·rename_i ei hei hne
   split at hg
   ·rename_i hsz
    simp only [Option.some.injEq, Prod.mk.injEq] at hg
    obtain ⟨rfl, rfl⟩ := hg
    obtain ⟨⟨h0, h1⟩, _⟩ := hc
    obtain ⟨l, of, c, hl, hv, hlc, hof⟩ := hx'
    have := hof (by omega)
    subst this
    refine .pure hH (v := .pointer (some ⟨l.blk, base + off + i.toNat * ei.size, none⟩)) (by rw [he, hv, hi']; simp [run_indexAt_slice' (hT t ti hti) hd (hT e ei hei) _ len _ k i ⟨l.blk, base + off, none⟩ rfl rfl h0 h1]) ⟨l, hl, ?_⟩
    rw [hsz, Nat.mul_one, Nat.add_assoc]
   ·cases hg
  ·cases hg
 ·rename_i m e n base idx hd
  split at hg
  ·rename_i ei hei
   simp only [Option.some.injEq, Prod.mk.injEq] at hg
   obtain ⟨rfl, rfl⟩ := hg
   obtain ⟨⟨h0, h1⟩, _⟩ := hc
   obtain ⟨l, hl, hv⟩ := hx'
   refine .pure hH (v := .pointer (some ⟨l.blk, base + idx + i.toNat * ei.size, none⟩)) (by rw [he, hv, hi']; simp [run_indexAt_array' (hT t ti hti) hd (hT e ei hei) ⟨l.blk, base + idx, none⟩ rfl k i h0 h1]) ⟨l, hl, ?_⟩
   rw [Nat.add_assoc]
  ·cases hg
 ·rename_i m e τ xs hd
  split at hg
  ·rename_i ei g es1 hei
   split at hg
   ·rename_i hsz
    simp only [Option.some.injEq, Prod.mk.injEq] at hg
    obtain ⟨rfl, rfl⟩ := hg
    obtain ⟨⟨h0, h1, y, hy, rfl⟩, _⟩ := hc
    obtain ⟨hok, ad, vs, hv, hs, hr, hcell⟩ := hx'
    obtain ⟨us, hu1, hu2⟩ := RepAll.get_len hr hy
    refine .pure hH (v := .pointer (some ⟨ad.block, ad.off + i.toNat * ei.size, none⟩)) (by rw [he, hv, hi']; simp [run_indexAt_array' (hT t ti hti) hd (hT e ei hei) ad hs k i h0 h1]) ⟨hok, _, us, rfl, rfl, hu1, fun j u hu => ?_⟩
    have := hcell (i.toNat * τ.size + j) u (hu2 j u hu)
    rw [← hsz]
    simpa [Nat.add_assoc] using this
   ·cases hg
  ·cases hg
 ·cases hg

end

end Go.Gh
