/- All operations that leave memory alone. No condition. -/
import Derived.Test.YthcjliffpebjaaaK7
namespace Go.K
open Go
set_option linter.unusedVariables false
variable {P : Program} {w : World} {ρ : Ren} {H : Heap}

theorem run_places : ∀ (fs : List Field), fs.all (fun f => (ksize P f.type).isSome) = true → ∀ w : World,
    ∃ ps : List (Nat × Nat), (fs.mapM (fun f => do pure (f.offset, ← sizeOf f.type) : Field → Sem (Nat × Nat))).run P w = .ok ps w ∧ ps.length = fs.length ∧
      ∀ i : Nat, ps[i]? = (fs[i]?).bind fun f => (ksize P f.type).map fun n => (f.offset, n) := by
  intro fs
  induction fs with
  | nil => intro _ w; exact ⟨[], rfl, rfl, fun i => by simp⟩
  | cons f fs ih =>
    intro h w
    simp only [List.all_cons, Bool.and_eq_true] at h
    obtain ⟨n, hn⟩ := Option.isSome_iff_exists.1 h.1
    obtain ⟨ps, h1, h2, h3⟩ := ih h.2 w
    refine ⟨(f.offset, n) :: ps, ?_, by simp [h2], fun i => ?_⟩
    · rw [List.mapM_cons]
      simp only [Sem.run_bind, run_size hn, Result.andThen_ok, Sem.run_pure, h1]
    · cases i with
      | zero => simp [hn]
      | succ i => simpa using h3 i

theorem kbuild_sim {t : TypeId} {parts parts' : List (Nat × Value)} {v : Value} (h : kbuild P t parts = some v) (hlen : parts.length = parts'.length)
    (hp : ∀ (i : Nat) (x x' : Nat × Value), parts[i]? = some x → parts'[i]? = some x' → x.1 = x'.1 ∧ VR ρ x.2 x'.2) (w : World) :
    ∃ v', (Instr.build t ⟨parts'⟩).run P w = .ok v' w ∧ VR ρ v v' := by
  unfold kbuild at h
  split at h
  · rename_i z fs hz hu
    split at h
    · rename_i hall
      obtain ⟨c, hc, rfl⟩ := Option.map_eq_some_iff.1 h
      obtain ⟨hzr, hzc⟩ := run_kzero hz w
      obtain ⟨ps, hps, hpl, hpe⟩ := run_places fs.toList hall w
      have hplace : (fun i => (ps.toArray)[i]?) = kplace P fs := by
        funext i
        simp [kplace, hpe]
      obtain ⟨c', h1, h2⟩ := fill_sim (cells' := z.cells) hc (cells_closed hzc) hlen hp
      rw [← hplace] at h1
      refine ⟨.agg c', ?_, VRl.agg (by simpa using h2)⟩
      simp only [Instr.build, Sem.run_bind, hzr, run_und hu, Result.andThen_ok]
      rw [Array.mapM_eq_mapM_toList]
      simp only [Sem.run_map, hps, Result.andThen_ok]
      simp only [h1]
      rfl
    · simp at h
  · rename_i z len e hz hu
    cases hn : ksize P e with
    | none => simp [hn] at h
    | some n =>
      simp only [hn] at h
      obtain ⟨c, hc, rfl⟩ := Option.map_eq_some_iff.1 h
      obtain ⟨hzr, hzc⟩ := run_kzero hz w
      obtain ⟨c', h1, h2⟩ := fill_sim (cells' := z.cells) hc (cells_closed hzc) hlen hp
      refine ⟨.agg c', ?_, VRl.agg (by simpa using h2)⟩
      simp only [Instr.build, Sem.run_bind, hzr, run_und hu, Result.andThen_ok, run_size hn]
      simp only [h1]
      rfl
  · simp at h

theorem map_rel {e e' : Operand → Value} {l : List Operand} (h : ∀ x ∈ l, VR ρ (e x) (e' x)) : VRl ρ (l.map e) (l.map e') :=
  ⟨by simp, fun i v v' a b => by
    rw [List.getElem?_map] at a b
    obtain ⟨x, hx, rfl⟩ := Option.map_eq_some_iff.1 a
    rw [hx] at b; simp at b; subst b
    exact h x (List.mem_of_getElem? hx)⟩
theorem arr_rel {e e' : Operand → Value} {l : Array Operand} (h : ∀ x ∈ l, VR ρ (e x) (e' x)) : (l.map e).size = (l.map e').size ∧ ∀ (i : Nat) (v v' : Value), (l.map e)[i]? = some v → (l.map e')[i]? = some v' → VR ρ v v' := by
  refine ⟨by simp, fun i v v' a b => ?_⟩
  rw [Array.getElem?_map] at a b
  obtain ⟨x, hx, rfl⟩ := Option.map_eq_some_iff.1 a
  rw [hx] at b; simp at b; subst b
  exact h x (Array.mem_of_getElem? hx)

set_option maxHeartbeats 1000000 in
theorem kpure_sim {o : Oper} {e e' : Operand → Value} {v : Value} {rd : Option Nat} (h : kpure P o.op e H = some (v, rd)) (he : ∀ x ∈ o.op.operands, VR ρ (e x) (e' x))
    (ho : ∀ id, rd = some id → ObjAt ρ H w id) : ∃ v', (execOp e' o).run P w = .ok (.value v') w ∧ VR ρ v v' := by
  obtain ⟨dst, op, ty, pos, after, guard⟩ := o
  simp only at h he ⊢
  unfold kpure at h
  split at h
  · rename_i x; cases h; exact ⟨_, rfl, he x (by simp [Op.operands])⟩
  · rename_i x; cases h; exact ⟨_, rfl, he x (by simp [Op.operands])⟩
  · rename_i c a b
    have hc := he c (by simp [Op.operands])
    split at h
    · rename_i t ht
      rw [ht] at hc
      cases h
      generalize hq : e' c = q at hc
      cases hc
      refine ⟨if t then e' a else e' b, by simp [execOp, hq, asBool], ?_⟩
      cases t
      · exact he b (by simp [Op.operands])
      · exact he a (by simp [Op.operands])
    · simp at h
  · rename_i t parts
    obtain ⟨u, hu, hh⟩ := Option.map_eq_some_iff.1 h
    cases hh
    obtain ⟨v', h1, h2⟩ := kbuild_sim (ρ := ρ) (parts' := parts.toList.map fun p => (p.1, e' p.2)) hu (by simp) (fun i x x' a b => by
      rw [List.getElem?_map] at a b
      obtain ⟨p, hp, rfl⟩ := Option.map_eq_some_iff.1 a
      rw [hp] at b; simp at b; subst b
      exact ⟨rfl, he _ (by simp only [Op.operands, List.mem_toArray, List.mem_map]; exact ⟨p, List.mem_of_getElem? hp, rfl⟩)⟩) w
    refine ⟨v', ?_, h2⟩
    have : parts.map (fun x => (x.1, e' x.2)) = ⟨parts.toList.map fun p => (p.1, e' p.2)⟩ := by apply Array.toList_inj.1; simp
    simp only [execOp, Sem.run_bind, this, h1, Result.andThen_ok, Sem.run_pure]
  · rename_i t a
    obtain ⟨u, hu, hh⟩ := Option.map_eq_some_iff.1 h
    cases hh
    obtain ⟨v', h1, h2⟩ := kload_sim hu (he a (by simp [Op.operands])) (ho _ rfl)
    exact ⟨v', by simp [execOp, h1], h2⟩
  · rename_i x
    have hx := he x (by simp [Op.operands])
    split at h
    · rename_i a ha
      rw [ha] at hx
      cases h
      generalize hq : e' x = q at hx
      cases hx with | ptr hr => exact ⟨_, by simp [execOp, hq], .ptr hr⟩
    · rename_i f a b ha
      rw [ha] at hx
      cases h
      generalize hq : e' x = q at hx
      cases hx with | func h1 h2 h3 h4 => exact ⟨_, by simp [execOp, hq], .func h1 h2 h3 h4⟩
    · rename_i f a b ha
      rw [ha] at hx
      cases h
      generalize hq : e' x = q at hx
      cases hx with | yield hr => exact ⟨_, by simp [execOp, hq], .yield hr⟩
    · simp at h
  · rename_i op t x y ty2
    obtain ⟨u, hu, hh⟩ := Option.map_eq_some_iff.1 h
    cases hh
    have := kbin_sim (ox := x) (oy := y) hu (he x (by simp [Op.operands])) (he y (by simp [Op.operands])) w
    refine ⟨v, ?_, this.2⟩
    simp only [execOp, Sem.run_bind, Sem.run_pure]
    have h1 := this.1
    rw [Sem.run_bind] at h1
    rw [h1]; rfl
  · rename_i op t x
    obtain ⟨u, hu, hh⟩ := Option.map_eq_some_iff.1 h
    cases hh
    have := kun_sim hu (he x (by simp [Op.operands])) w (P := P)
    exact ⟨v, by simp [execOp, this.1], this.2⟩
  · rename_i s d x
    obtain ⟨u, hu, hh⟩ := Option.map_eq_some_iff.1 h
    cases hh
    have := kconv_sim hu (he x (by simp [Op.operands])) w
    exact ⟨v, by simp [execOp, this.1], this.2⟩
  · rename_i f first cap
    cases h
    have h1 := arr_rel (ρ := ρ) (e := e) (e' := e') (l := first) (fun x hx => he x (by simp [Op.operands, hx]))
    have h2 := arr_rel (ρ := ρ) (e := e) (e' := e') (l := cap) (fun x hx => he x (by simp [Op.operands, hx]))
    exact ⟨_, rfl, .func h1.1 h1.2 h2.1 h2.2⟩
  · rename_i t x lo hi
    have hlo : ∀ y, lo = some y → VR ρ (e y) (e' y) := fun y hy => he y (by subst hy; simp [Op.operands])
    have hhi : ∀ y, hi = some y → VR ρ (e y) (e' y) := fun y hy => he y (by subst hy; simp [Op.operands])
    obtain ⟨v', h1, h2⟩ := kslice_sim (lo' := lo.map e') (hi' := hi.map e') h (he x (by simp [Op.operands]))
      (fun y hy => by obtain ⟨z, rfl, rfl⟩ := Option.map_eq_some_iff.1 hy; exact ⟨_, rfl, hlo z rfl⟩) (fun hy => by simpa using hy)
      (fun y hy => by obtain ⟨z, rfl, rfl⟩ := Option.map_eq_some_iff.1 hy; exact ⟨_, rfl, hhi z rfl⟩) (fun hy => by simpa using hy) ho
    exact ⟨v', by simp [execOp, h1], h2⟩
  · rename_i s x f
    obtain ⟨u, hu, hh⟩ := Option.map_eq_some_iff.1 h
    cases hh
    obtain ⟨v', h1, h2⟩ := kfieldAddr_sim hu (he x (by simp [Op.operands])) w
    exact ⟨v', by simp [execOp, h1], h2⟩
  · rename_i s x f
    obtain ⟨u, hu, hh⟩ := Option.map_eq_some_iff.1 h
    cases hh
    obtain ⟨v', h1, h2⟩ := kfield_sim hu (he x (by simp [Op.operands])) w
    exact ⟨v', by simp [execOp, h1], h2⟩
  · rename_i t x i
    obtain ⟨u, hu, hh⟩ := Option.map_eq_some_iff.1 h
    cases hh
    obtain ⟨v', h1, h2⟩ := kindexAddr_sim hu (he x (by simp [Op.operands])) (he i (by simp [Op.operands])) w
    exact ⟨v', by simp [execOp, h1], h2⟩
  · rename_i t x i
    obtain ⟨u, hu, hh⟩ := Option.map_eq_some_iff.1 h
    cases hh
    obtain ⟨v', h1, h2⟩ := kindex_sim hu (he x (by simp [Op.operands])) (he i (by simp [Op.operands])) w
    exact ⟨v', by simp [execOp, h1], h2⟩
  · rename_i x i
    have hx := he x (by simp [Op.operands])
    split at h
    · rename_i vs hv
      rw [hv] at hx
      obtain ⟨u, hu, hh⟩ := Option.map_eq_some_iff.1 h
      cases hh
      generalize hq : e' x = q at hx
      cases hx with
      | @tuple _ vs' h1 h2 =>
        have hi : i < vs'.size := h1 ▸ (Array.getElem?_eq_some_iff.1 hu).1
        exact ⟨vs'[i], by simp [execOp, hq, Instr.extract, hi], h2 i v _ hu (Array.getElem?_eq_getElem hi)⟩
    · simp at h
  · rename_i x t ts
    obtain ⟨v', h1, h2⟩ := klen_sim (w := w) h (he x (by simp [Op.operands, Call.operands])) ho ts ty
    refine ⟨v', ?_, h2⟩
    simp [execOp, resolve, invoke, builtin, h1]
  · rename_i xs ts
    obtain ⟨u, hu, hh⟩ := Option.map_eq_some_iff.1 h
    cases hh
    obtain ⟨v', h1, h2⟩ := kminmax_sim (P := P) false hu (map_rel (ρ := ρ) (e' := e') (fun x hx => he x (by simp [Op.operands, Call.operands]; exact Array.mem_toList_iff.1 hx))) ts ty w
    refine ⟨v', ?_, h2⟩
    have : xs.map e' = ⟨xs.toList.map e'⟩ := by apply Array.toList_inj.1; simp
    simp only [Bool.false_eq_true, if_false] at h1
    simp [execOp, resolve, invoke, builtin, this, h1]
  · rename_i xs ts
    obtain ⟨u, hu, hh⟩ := Option.map_eq_some_iff.1 h
    cases hh
    obtain ⟨v', h1, h2⟩ := kminmax_sim (P := P) true hu (map_rel (ρ := ρ) (e' := e') (fun x hx => he x (by simp [Op.operands, Call.operands]; exact Array.mem_toList_iff.1 hx))) ts ty w
    refine ⟨v', ?_, h2⟩
    have : xs.map e' = ⟨xs.toList.map e'⟩ := by apply Array.toList_inj.1; simp
    simp only [if_true] at h1
    simp [execOp, resolve, invoke, builtin, this, h1]
  · simp at h
end Go.K
