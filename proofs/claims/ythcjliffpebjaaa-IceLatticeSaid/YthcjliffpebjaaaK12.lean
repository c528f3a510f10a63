/- All operations that write. No condition. -/
import Derived.Test.YthcjliffpebjaaaK11
namespace Go.K
open Go
set_option linter.unusedVariables false
variable {P : Program} {w : World} {ρ : Ren} {H : Heap}

theorem kcells_length {n k : Nat} {y : Value} {c : List Value} (hc : kcells P n k y H = some c) : c.length = k * n := by
  unfold kcells at hc
  split at hc
  · split at hc
    · rename_i h0; cases hc; simp [h0]
    · simp at hc
  · split at hc
    · split at hc
      · rename_i hle; cases hc; simp; omega
      · simp at hc
    · simp at hc
  · simp at hc

theorem kcopy_sim {B base : Nat} {M : List Nat} {t : TypeId} {d d' x x' v : Value} {H' : Heap} {wr : List Nat} (h : kcopy P t d x H = some (v, H', wr)) (hr : Rel P B ρ H w)
    (hd : VR ρ d d') (hx : VR ρ x x') (hM : ∀ id ∈ wr, id < base → id ∈ M) (ts : List TypeId) (ty : TypeId) :
    ∃ v' w', (Builtin.copy_ ⟨t :: ts⟩ ty #[d', x']).run P w = .ok v' w' ∧ VR ρ v v' ∧ Post P B base M ρ H w ρ H' w' := by
  unfold kcopy at h
  split at h
  · rename_i el sb len cap xb m xc hut
    cases hn : ksize P el with
    | none => simp [hn] at h
    | some n =>
      simp only [hn] at h
      cases hc : kcells P n (min m len) (.slice xb m xc) H with
      | none => simp [hc] at h
      | some new =>
        simp only [hc] at h
        obtain ⟨new', hn1, hn2⟩ := kcells_sim (w := w) hc hx (rel_at hr)
        obtain ⟨x'l, x'c, hx'⟩ : ∃ a c, x' = .slice a m c := by cases hx <;> exact ⟨_, _, rfl⟩
        have hlen : ∀ w : World, (Builtin.lenOf x').run P w = .ok m w := by intro w; rw [hx']; rfl
        have start : ∀ (b' : Option Addr) (c' : Nat), (Builtin.copy_ ⟨t :: ts⟩ ty #[.slice b' len c', x']).run P w =
            ((match b' with | some a => storeCells a new'.toList | none => pure () : Sem Unit).run P w).andThen fun _ w' => .ok (goInt (min m len : Nat)) w' := by
          intro b' c'
          have hm : Nat.min m len = min m len := rfl
          simp only [Builtin.copy_, List.getElem?_toArray, List.getElem?_cons_zero, List.getElem?_cons_succ, Sem.run_bind, run_und hut, Result.andThen_ok, hlen, run_size hn, hm, hn1]
          cases b' <;> simp
        cases hd with
        | sliceE => simp at h
        | sliceNil =>
          simp only at h
          cases h
          exact ⟨_, w, start none 0, .int _ _, Post.refl hr⟩
        | @slice id off r _ _ c' hρ hl hcc hroom =>
          simp only at h
          split at h
          · rename_i z cs hid
            split at h
            · rename_i hcond
              obtain ⟨h1, h2⟩ := hcond
              cases h
              obtain ⟨e1, e2, cs', ety, fz, hb, hnz, hfz, hcs⟩ := hr.obj id r _ hρ hid
              obtain rfl : fz = (0, 0) := hfz rfl
              have hnl := kcells_length hc
              have hl1 := hn2.1
              rcases Nat.eq_zero_or_pos (min m len * n) with h0 | h0
              · have hnew0 : new = [] := List.length_eq_zero_iff.1 (by omega)
                have hnew0' : new'.toList = [] := List.length_eq_zero_iff.1 (by omega)
                refine ⟨_, w.putObj r.b (.cells cs' ety (0, 0)), ?_, .int _ _, ?_⟩
                · rw [start]; simp [hnew0', storeCells, putObj_self hb, goInt]
                · rw [hnew0]
                  exact Post.put hr hρ hid rfl (by rw [hb]; rfl) ⟨e1, e2, cs', ety, (0, 0), putObj_lt hb, hnz, fun _ => rfl, hcs⟩ (fun hlt => hM id (by simp) hlt)
              · have hle2 : off + r.s + min m len * n ≤ cs'.size := by
                  rcases rows_extract hcs h1 with h | h
                  · exact h
                  · omega
                have hrun := run_storeCells (P := P) (b := r.b) (off := off + r.s) new'.toList 0 cs' w hb (VRl.oneCell hn2 h2) (by rw [← hl1, hnl]; omega)
                refine ⟨_, w.putObj r.b (.cells ⟨setl cs'.toList (off + r.s) new'.toList⟩ ety (0, 0)), ?_, .int _ _, Post.put hr hρ hid rfl (by rw [hb]; rfl) ?_ (fun hlt => hM id (by simp) hlt)⟩
                · rw [start]
                  simp only [hrun, Result.andThen_ok]
                  simp [goInt]
                · refine ⟨e1, e2, _, ety, (0, 0), putObj_lt hb, by rw [← hnz]; simp [setl_length], fun _ => rfl, ?_⟩
                  exact rows_setl hcs hn2 (by omega) (by rw [← hl1, hnl]; omega)
            · simp at h
          · simp at h
        | @slice0 id off r o' hρ =>
          simp only at h
          split at h
          · rename_i z cs hid
            split at h
            · rename_i hcond
              cases h
              obtain ⟨e1, e2, cs', ety, fz, hb, hnz, hfz, hcs⟩ := hr.obj id r _ hρ hid
              obtain rfl : fz = (0, 0) := hfz rfl
              have hnl := kcells_length hc
              have hl1 := hn2.1
              have hnew0 : new = [] := List.length_eq_zero_iff.1 (by simp at hnl; simpa using hnl)
              have hnew0' : new'.toList = [] := List.length_eq_zero_iff.1 (by rw [← hl1, hnew0]; rfl)
              refine ⟨_, w.putObj r.b (.cells cs' ety (0, 0)), ?_, .int _ _, ?_⟩
              · rw [start]; simp [hnew0', storeCells, putObj_self hb, goInt]
              · rw [hnew0]
                exact Post.put hr hρ hid rfl (by rw [hb]; rfl) ⟨e1, e2, cs', ety, (0, 0), putObj_lt hb, hnz, fun _ => rfl, hcs⟩ (fun hlt => hM id (by simp) hlt)
            · simp at h
          · simp at h
  · simp at h

/-- What a writing operation hands on: a value, or nothing. -/
def NextIs (r : Result Next) (v' : Value) (w' : World) : Prop := r = .ok (.value v') w' ∨ (r = .ok .skip w' ∧ v' = undef)

theorem kwrite_sim {B base : Nat} {M : List Nat} {o : Oper} {e e' : Operand → Value} {v : Value} {H' : Heap} {wr : List Nat} (h : kwrite P o.op e H = some (v, H', wr)) (he : ∀ x ∈ o.op.operands, VR ρ (e x) (e' x))
    (hr : Rel P B ρ H w) (hM : ∀ id ∈ wr, id < base → id ∈ M) (hob : base ≤ H.length) :
    ∃ v' w' ρ', NextIs ((execOp e' o).run P w) v' w' ∧ VR ρ' v v' ∧ Post P B base M ρ H w ρ' H' w' := by
  obtain ⟨dst, op, ty, pos, after, guard⟩ := o
  simp only at h he ⊢
  unfold kwrite at h
  split at h
  · rename_i t a x
    obtain ⟨⟨H1, wr1⟩, hs, hh⟩ := Option.map_eq_some_iff.1 h
    cases hh
    obtain ⟨w', h1, h2⟩ := kstore_sim hs hr (he a (by simp [Op.operands])) (he x (by simp [Op.operands])) hM
    exact ⟨undef, w', ρ, .inr ⟨by simp [execOp, h1], rfl⟩, VR.undef ρ, h2⟩
  · rename_i s x t u
    split at h
    · rename_i el hu
      obtain ⟨v', w', ρ', h1, h2, h3⟩ := kappend_sim h ⟨el, hu⟩ hr (he s (by simp [Op.operands, Call.operands])) (he x (by simp [Op.operands, Call.operands])) hM hob ty
      exact ⟨v', w', ρ', .inl (by simp [execOp, resolve, invoke, builtin, h1]), h2, h3⟩
    · simp at h
  · rename_i d s t ts
    obtain ⟨v', w', h1, h2, h3⟩ := kcopy_sim h hr (he d (by simp [Op.operands, Call.operands])) (he s (by simp [Op.operands, Call.operands])) hM ts ty
    exact ⟨v', w', ρ, .inl (by simp [execOp, resolve, invoke, builtin, h1]), h2, h3⟩
  · simp at h
end Go.K
