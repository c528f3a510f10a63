/- Each operation on canonical memory is what the machine does on real memory. No condition. -/
import Derived.Test.YthcjliffpebjaaaK2
import Derived.Laws.StructEq
import Derived.RangeFuncRecord
namespace Go.K
open Go
set_option linter.unusedVariables false
variable {P : Program} {w : World} {ρ : Ren}

/-! ## Types -/
theorem run_und {t : TypeId} {d : TypeDesc} (h : P.underlying t = some d) (w : World) : (underlying t).run P w = .ok d w := run_underlying h w
theorem run_isAgg {t : TypeId} {b : Bool} (h : kagg P t = some b) (w : World) : (isAgg t).run P w = .ok b w := by
  unfold kagg at h
  cases hu : P.underlying t with
  | none => simp [hu] at h
  | some d =>
    simp [hu] at h
    subst h
    simp only [isAgg, Sem.run_bind, run_und hu, Result.andThen_ok]
    cases d <;> rfl
theorem run_size {t : TypeId} {n : Nat} (h : ksize P t = some n) (w : World) : (sizeOf t).run P w = .ok n w := by
  unfold ksize at h
  cases hi : P.info? t with
  | none => simp [hi] at h
  | some i =>
    simp [hi] at h
    simp [sizeOf, typeInfo, hi, h]
theorem run_info {t : TypeId} {n : Nat} (h : ksize P t = some n) (w : World) : ∃ i, P.info? t = some i ∧ i.size = n ∧ (typeInfo t).run P w = .ok i w := by
  unfold ksize at h
  cases hi : P.info? t with
  | none => simp [hi] at h
  | some i => simp [hi] at h; exact ⟨i, rfl, h, by simp [typeInfo, hi]⟩
theorem run_bytes {t : TypeId} {n : Nat} (h : kbytes P t = some n) (w : World) : ∃ i, i.bytes = n ∧ (typeInfo t).run P w = .ok i w := by
  unfold kbytes at h
  cases hi : P.info? t with
  | none => simp [hi] at h
  | some i => simp [hi] at h; exact ⟨i, h, by simp [typeInfo, hi]⟩
theorem closedC_VR {v : Value} (h : closedC v = true) : VR ρ v v := by
  unfold closedC at h
  split at h <;> first
    | exact .bool _ | exact .int _ _ | exact .float _ _ | exact .string _ | exact .ptrNil | exact .sliceNil | exact .mapNil | exact .nilFunc | exact .nilIface
    | (exact .func rfl (by intro i v v' a; simp at a) rfl (by intro i v v' a; simp at a))
    | simp at h
theorem closedL_VR {cs : Array Value} (h : cs.toList.all closedC = true) : ∀ (i : Nat) (v v' : Value), cs[i]? = some v → cs[i]? = some v' → VR ρ v v' := by
  intro i v v' a b
  rw [a] at b; cases b
  rw [List.all_eq_true] at h
  exact closedC_VR (h v (by rw [Array.mem_toList_iff]; exact Array.mem_of_getElem? a))
theorem closedV_VR {v : Value} (h : closedV v = true) : VR ρ v v := by
  unfold closedV at h
  split at h
  · exact .agg rfl (closedL_VR h)
  · exact .tuple rfl (closedL_VR h)
  · exact closedC_VR h
theorem run_kzero {t : TypeId} {z : Value} (h : kzero P t = some z) (w : World) : (zeroValue t).run P w = .ok z w ∧ closedV z = true := by
  unfold kzero at h
  cases hi : P.info? t with
  | none => simp [hi] at h
  | some i =>
    cases hz : i.zero with
    | none => simp [hi, hz] at h
    | some v =>
      simp [hi, hz] at h
      obtain ⟨hc, rfl⟩ := h
      exact ⟨by simp [zeroValue, typeInfo, hi, hz], hc⟩

/-! ## Cells of values -/
theorem VR.cells {v v' : Value} (h : VR ρ v v') (hn : nt v = true) : VRl ρ v.cells.toList v'.cells.toList := by
  have one : ∀ {v v' : Value}, VR ρ v v' → VRl ρ [v] [v'] := fun h => .cons h (.nil ρ)
  cases h with
  | junk => cases hn
  | agg h1 h2 => exact ⟨by simpa [Value.cells] using h1, fun i a b x y => h2 i a b (by simpa [Value.cells] using x) (by simpa [Value.cells] using y)⟩
  | bool b => exact one (.bool b)
  | int k n => exact one (.int k n)
  | float k n => exact one (.float k n)
  | string s => exact one (.string s)
  | ptrNil => exact one .ptrNil
  | ptr h => exact one (.ptr h)
  | sliceNil => exact one .sliceNil
  | slice h hl hc ho => exact one (.slice h hl hc ho)
  | slice0 h => exact one (.slice0 h)
  | sliceE => exact one .sliceE
  | mapNil => exact one .mapNil
  | map h => exact one (.map h)
  | nilFunc => exact one .nilFunc
  | nilIface => exact one .nilIface
  | func h1 h2 h3 h4 => exact one (.func h1 h2 h3 h4)
  | yield h => exact one (.yield h)
  | tuple h1 h2 => exact one (.tuple h1 h2)
theorem cells_closed {z : Value} (h : closedV z = true) : VRl ρ z.cells.toList z.cells.toList := by
  by_cases hn : nt z = true
  · exact VR.cells (closedV_VR h) hn
  · cases z <;> first | exact absurd rfl hn | exact .cons (closedV_VR h) (.nil ρ) | (simp [closedV, closedC] at h)
theorem nt_of_one {v : Value} (h : v.cells.toList.all (fun v => one1 v) = true) : nt v = true := by
  cases v <;> first | rfl | (simp [Value.cells, one1] at h)
theorem VRl.agg {cs cs' : Array Value} (h : VRl ρ cs.toList cs'.toList) : VR ρ (.agg cs) (.agg cs') :=
  .agg (by simpa using h.1) (fun i a b x y => h.2 i a b (by simpa using x) (by simpa using y))
theorem VR.agg_inv {cs cs' : Array Value} (h : VR ρ (.agg cs) (.agg cs')) : VRl ρ cs.toList cs'.toList := by
  cases h with | agg h1 h2 => exact ⟨by simpa using h1, fun i a b x y => h2 i a b (by simpa using x) (by simpa using y)⟩
theorem VR.oneCell {v v' : Value} (h : VR ρ v v') (ho : one1 v = true) : v'.oneCell' = true := by cases h <;> first | rfl | cases ho
theorem VRl.oneCell {l l' : List Value} (h : VRl ρ l l') (ho : l.all (fun v => one1 v) = true) : l'.all (fun v => v.oneCell') = true := by
  rw [List.all_eq_true] at *
  intro v' hv'
  obtain ⟨i, hi, rfl⟩ := List.mem_iff_getElem.1 hv'
  have hi' : i < l.length := h.1 ▸ hi
  exact (h.2 i _ _ (List.getElem?_eq_getElem hi') (List.getElem?_eq_getElem hi)).oneCell (ho _ (List.getElem_mem hi'))
theorem VRl.setl {vs vs' : List Value} (h : VRl ρ vs vs') : ∀ {l l' : List Value} (k : Nat), VRl ρ l l' → VRl ρ (setl l k vs) (setl l' k vs') := by
  induction vs generalizing vs' with
  | nil => intro l l' k hl; obtain rfl : vs' = [] := by have := h.1; simpa using this.symm
           exact hl
  | cons v vs ih =>
    intro l l' k hl
    cases vs' with
    | nil => have := h.1; simp at this
    | cons v' vs' =>
      have hv : VR ρ v v' := h.2 0 v v' rfl rfl
      have ht : VRl ρ vs vs' := ⟨by have := h.1; simpa using this, fun i a b x y => h.2 (i + 1) a b (by simpa using x) (by simpa using y)⟩
      exact ih ht (k + 1) (hl.set hv k)

theorem run_part {t : TypeId} {cs : List Value} {cs' : Array Value} {off : Nat} {v : Value} (h : kpart P t cs off = some v) (hl : VRl ρ cs cs'.toList) (w : World) :
    ∃ v', (part t cs' off).run P w = .ok v' w ∧ VR ρ v v' := by
  unfold kpart at h
  cases ha : kagg P t with
  | none => simp [ha] at h
  | some b =>
    cases b with
    | true =>
      cases hn : ksize P t with
      | none => simp [ha, hn] at h
      | some n =>
        simp only [ha, hn] at h
        split at h
        · rename_i hle
          cases h
          refine ⟨.agg (cs'.extract off (off + n)), by simp [part, run_isAgg ha, run_size hn], VRl.agg ?_⟩
          have := hl.extract off n
          simpa [Array.toList_extract, List.extract_eq_take_drop] using this
        · simp at h
    | false =>
      simp only [ha] at h
      obtain ⟨v', h1, h2⟩ := hl.get h
      exact ⟨v', by simp at h1; simp [part, run_isAgg ha, h1], h2⟩
end Go.K
