/- Operations that make one block. No condition. -/
import Derived.Test.YthcjliffpebjaaaK8
namespace Go.K
open Go
set_option linter.unusedVariables false
variable {P : Program} {w : World} {ρ : Ren} {H : Heap}

def Ren.set (ρ : Ren) (id : Nat) (r : RI) : Ren := fun i => if i = id then some r else ρ i
theorem Ren.set_same (ρ : Ren) (id : Nat) (r : RI) : ρ.set id r id = some r := by simp [Ren.set]
theorem Ren.set_other {ρ : Ren} {id i : Nat} {r : RI} (h : i ≠ id) : ρ.set id r i = ρ i := by simp [Ren.set, h]
theorem Ren.le_set {ρ : Ren} {id : Nat} {r : RI} (h : ρ id = none) : Ren.le ρ (ρ.set id r) := fun i x hx => by
  have : i ≠ id := fun e => by rw [e, h] at hx; cases hx
  rw [Ren.set_other this]; exact hx

theorem krep_length (z : List Value) : ∀ n, (krep z n).length = n * z.length := by
  intro n
  induction n with
  | zero => simp [krep]
  | succ n ih => simp [krep, ih, Nat.add_mul, Nat.add_comm]
theorem krep_get (z : List Value) : ∀ (n i : Nat), i < n * z.length → (krep z n)[i]? = z[i % z.length]? := by
  intro n
  induction n with
  | zero => intro i h; simp at h
  | succ n ih =>
    intro i h
    simp only [krep]
    rcases Nat.lt_or_ge i z.length with hi | hi
    · rw [List.getElem?_append_left hi, Nat.mod_eq_of_lt hi]
    · rw [List.getElem?_append_right hi, ih _ (by rw [Nat.add_mul] at h; omega), ← Nat.mod_eq_sub_mod hi]
theorem krep_fill (z : Array Value) (n : Nat) : ((Array.range (n * z.size)).map (fun i => z[i % z.size]!)).toList = krep z.toList n := by
  apply List.ext_getElem?
  intro i
  rcases Nat.lt_or_ge i (n * z.size) with hi | hi
  · have hz : 0 < z.size := by rcases Nat.eq_zero_or_pos z.size with h | h; · rw [h] at hi; simp at hi
                               · exact h
    have hm : i % z.size < z.size := Nat.mod_lt _ hz
    rw [krep_get _ _ _ (by simpa using hi)]
    simp [hi, hm]
  · have h1 : (krep z.toList n).length ≤ i := by rw [krep_length]; simpa using hi
    rw [List.getElem?_eq_none h1]
    simp [hi]
theorem krep_VR {z : List Value} (h : ∀ x ∈ z, closedC x = true) (n : Nat) : VRl ρ (krep z n) (krep z n) := by
  refine ⟨rfl, fun i v v' a b => ?_⟩
  rw [a] at b; cases b
  have hi := (List.getElem?_eq_some_iff.1 a).1
  rw [krep_length] at hi
  rw [krep_get _ _ _ hi] at a
  exact closedC_VR (h v (List.mem_of_getElem? a))
theorem closed_cells {z : Value} (h : closedV z = true) : ∀ x ∈ z.cells.toList, closedC x = true ∨ z.cells = #[z] := by
  intro x hx
  unfold closedV at h
  split at h
  · left; rw [List.all_eq_true] at h; exact h x (by simpa [Value.cells] using hx)
  · right; rfl
  · rename_i hna _
    right
    cases z <;> first | rfl | exact absurd rfl (hna _)
theorem krep_VR' {z : Value} (h : closedV z = true) (n : Nat) : VRl ρ (krep z.cells.toList n) (krep z.cells.toList n) := by
  refine ⟨rfl, fun i v v' a b => ?_⟩
  rw [a] at b; cases b
  have hi := (List.getElem?_eq_some_iff.1 a).1
  rw [krep_length] at hi
  rw [krep_get _ _ _ hi] at a
  exact (cells_closed (ρ := ρ) h).2 _ _ _ a a

theorem wrap_i64 {x : Int} (h0 : 0 ≤ x) (h1 : x < 2 ^ 63) : IntKind.i64.wrap x = x := by
  have h2 : x % (2 : Int) ^ 64 = x := Int.emod_eq_of_lt h0 (by omega)
  simp only [IntKind.wrap, IntKind.bits, IntKind.signed, h2]
  rw [if_neg]
  simp only [Bool.true_and, decide_eq_true_eq]
  omega

/-- A new block. -/
theorem Post.alloc {B base : Nat} {M : List Nat} (hr : Rel P B ρ H w) {ob : KObj} {obj : Obj} {ri : RI} (hb : ri.b = w.heap.size) (hob : base ≤ H.length)
    (ho : ObjRel (ρ.set H.length ri) ri ob (w.alloc obj)) : Post P B base M ρ H w (ρ.set H.length ri) (H ++ [ob]) (w.alloc obj) := by
  have hnone : ρ H.length = none := by
    cases h : ρ H.length with
    | none => rfl
    | some r => exact absurd (hr.dom _ _ h) (Nat.lt_irrefl _)
  have hold : ∀ k, k < w.heap.size → (w.alloc obj).heap[k]? = w.heap[k]? := fun k hk => RowKit.Below.heap_alloc w obj k hk
  have hget : ∀ id, id ≠ H.length → id < H.length + 1 → (H ++ [ob])[id]? = H[id]? := fun id h1 h2 => List.getElem?_append_left (by omega)
  have hnew : (H ++ [ob])[H.length]? = some ob := by simp
  have hdom : ∀ id r, ρ.set H.length ri id = some r → id < H.length + 1 := fun id r h => by
    by_cases e : id = H.length
    · omega
    · rw [Ren.set_other e] at h; have := hr.dom _ _ h; omega
  refine ⟨⟨by simp; have := hr.bsize; omega, fun g hg => ?_, fun id r h => by simpa using hdom id r h, fun id r h => ?_, fun id r o h1 h2 => ?_, fun id r o h1 h2 h3 => ?_, ?_⟩, Ren.le_set hnone, fun id r h1 h2 => ?_, by simp, fun id h1 _ => ?_, by simp, fun b h1 _ => hold b h1, fun b h1 h2 => ?_, rfl, rfl, rfl⟩
  · obtain ⟨r, h1, h2, h3⟩ := hr.glob g hg
    exact ⟨r, Ren.le_set hnone _ _ h1, h2, h3⟩
  · by_cases e : id = H.length
    · subst e; rw [Ren.set_same] at h; cases h; rw [hb]; simp
    · rw [Ren.set_other e] at h; have := hr.lt _ _ h; simp; omega
  · by_cases e : id = H.length
    · subst e; rw [Ren.set_same] at h1; cases h1; rw [hnew] at h2; cases h2; exact ho
    · rw [Ren.set_other e] at h1
      rw [hget id e (by have := hr.dom _ _ h1; omega)] at h2
      exact (hr.obj id r o h1 h2).mono (Ren.le_set hnone) (hold _ (hr.lt _ _ h1))
  · by_cases e : id = H.length
    · subst e; rw [Ren.set_same] at h1; cases h1; rw [hb]; exact hr.bsize
    · rw [Ren.set_other e] at h1
      rw [hget id e (by have := hr.dom _ _ h1; omega)] at h2
      exact hr.base id r o h1 h2 h3
  · intro id id' r r' o o' h1 h1' h2 h2' h3 h3' hne
    by_cases e : id = H.length
    · subst e
      rw [Ren.set_same] at h1; cases h1
      rw [Ren.set_other (Ne.symm hne)] at h1'
      have := hr.lt _ _ h1'
      omega
    · rw [Ren.set_other e] at h1
      by_cases e' : id' = H.length
      · subst e'
        rw [Ren.set_same] at h1'; cases h1'
        have := hr.lt _ _ h1
        omega
      · rw [Ren.set_other e'] at h1'
        rw [hget id e (by have := hr.dom _ _ h1; omega)] at h2
        rw [hget id' e' (by have := hr.dom _ _ h1'; omega)] at h2'
        exact hr.sep id id' r r' o o' h1 h1' h2 h2' h3 h3' hne
  · by_cases e : id = H.length
    · omega
    · rw [Ren.set_other e, h2] at h1; cases h1
  · exact List.getElem?_append_left (by omega)
  · obtain ⟨id, r, o, h3, h4, h5, h6⟩ := h2
    by_cases e : id = H.length
    · subst e; rw [Ren.set_same] at h3; cases h3; omega
    · rw [Ren.set_other e] at h3
      rw [hget id e (by have := hr.dom _ _ h3; omega)] at h4
      exact ⟨id, r, o, h3, h4, h5, h6⟩

/-- What a new row of cells is. -/
theorem ObjRel.newCells {id z : Nat} {cs : List Value} {cs' : Array Value} {ty : TypeId} (hn : ρ id = none) (h : VRl ρ cs cs'.toList) :
    ObjRel (ρ.set id ⟨w.heap.size, 0, cs'.size, z, true⟩) ⟨w.heap.size, 0, cs'.size, z, true⟩ (.cells true z cs) (w.alloc (.cells cs' ty)) := by
  refine ⟨rfl, rfl, cs', ty, (0, 0), World.alloc_heap_new w _, rfl, fun _ => rfl, fun i v hv => ?_⟩
  obtain ⟨v', h1, h2⟩ := h.get hv
  exact ⟨v', by simpa using h1, h2.mono (Ren.le_set hn)⟩

theorem ObjRel.newCells' {id z : Nat} {cs : List Value} {cs' : Array Value} {ty : TypeId} (hn : ρ id = none) (h : ∀ (i : Nat) (v : Value), cs[i]? = some v → ∃ v' : Value, cs'[i]? = some v' ∧ VR ρ v v') :
    ObjRel (ρ.set id ⟨w.heap.size, 0, cs'.size, z, true⟩) ⟨w.heap.size, 0, cs'.size, z, true⟩ (.cells true z cs) (w.alloc (.cells cs' ty)) := by
  refine ⟨rfl, rfl, cs', ty, (0, 0), World.alloc_heap_new w _, rfl, fun _ => rfl, fun i v hv => ?_⟩
  obtain ⟨v', h1, h2⟩ := h i v hv
  exact ⟨v', by simpa using h1, h2.mono (Ren.le_set hn)⟩

theorem kalloc_sim {o : Oper} {e e' : Operand → Value} {v : Value} {id : Nat} {ob : KObj} (h : kalloc P o.op e id = some (v, ob)) (he : ∀ x ∈ o.op.operands, VR ρ (e x) (e' x)) (hn : ρ id = none) (w : World) :
    ∃ v' obj ri, (execOp e' o).run P w = .ok (.value v') (w.alloc obj) ∧ ri.b = w.heap.size ∧ VR (ρ.set id ri) v v' ∧ ObjRel (ρ.set id ri) ri ob (w.alloc obj) := by
  obtain ⟨dst, op, ty, pos, after, guard⟩ := o
  simp only at h he ⊢
  unfold kalloc at h
  split at h
  · rename_i t
    obtain ⟨z, hz, hh⟩ := Option.map_eq_some_iff.1 h
    cases hh
    obtain ⟨hzr, hzc⟩ := run_kzero hz w
    refine ⟨_, .cells z.cells t, ⟨w.heap.size, 0, z.cells.size, 0, true⟩, ?_, rfl, .ptr (Ren.set_same _ _ _), ObjRel.newCells hn (cells_closed hzc)⟩
    simp [execOp, Instr.alloc, hzr, newVar, newRow]
  · rename_i t x
    have hnt : nt (e x) = true := by
      cases hb : nt (e x) with
      | true => rfl
      | false => rw [if_neg (by rw [hb]; simp)] at h; cases h
    rw [if_pos hnt] at h
    cases h
    have hx := (he x (by simp [Op.operands])).cells hnt
    refine ⟨_, .cells (e' x).cells t, ⟨w.heap.size, 0, (e' x).cells.size, 0, true⟩, ?_, rfl, .ptr (Ren.set_same _ _ _), ObjRel.newCells hn hx⟩
    simp [execOp, Instr.box, newVar, newRow]
  · rename_i t len parts
    split at h
    · rename_i el hu
      split at h
      · rename_i n z hs hz
        split at h
        · rename_i hc
          obtain ⟨c, hf, hh⟩ := Option.map_eq_some_iff.1 h
          cases hh
          obtain ⟨hzr, hzc⟩ := run_kzero hz w
          have hzs : z.cells.size = n := by simpa using hc.1
          have hfill : ((Array.range (len * n)).map (fun i => (if len * n = 0 then #[] else z.cells)[i % (if len * n = 0 then (#[] : Array Value) else z.cells).size]!)).toList = krep z.cells.toList len := by
            by_cases h0 : len * n = 0
            · rw [h0]; have : (krep z.cells.toList len).length = 0 := by rw [krep_length]; simp [hzs]; simpa using h0
              rw [List.length_eq_zero_iff.1 this]; simp
            · rw [if_neg h0]; rw [← hzs]; exact krep_fill z.cells len
          obtain ⟨c', h1, h2⟩ := fill_sim (ρ := ρ) (parts' := parts.toList.map fun p => (p.1, e' p.2)) (cells' := (Array.range (len * n)).map (fun i => (if len * n = 0 then #[] else z.cells)[i % (if len * n = 0 then (#[] : Array Value) else z.cells).size]!)) hf
            (by rw [hfill]; exact krep_VR' hzc len) (by simp) (fun i x x' a b => by
              rw [List.getElem?_map] at a b
              obtain ⟨p, hp, rfl⟩ := Option.map_eq_some_iff.1 a
              rw [hp] at b; simp at b; subst b
              exact ⟨rfl, he _ (by simp only [Op.operands, List.mem_toArray, List.mem_map]; exact ⟨p, List.mem_of_getElem? hp, rfl⟩)⟩)
          have hcl : c'.size = len * n := by
            have e1 := h2.1
            have e2 : c.length = (krep z.cells.toList len).length := by
              have : ∀ (parts : List (Nat × Value)) (cells c : List Value), kfill (fun i => some (i * n, n)) cells parts = some c → c.length = cells.length := by
                intro parts
                induction parts with
                | nil => intro cells c h; simp [kfill] at h; subst h; rfl
                | cons p ps ih =>
                  intro cells c h
                  simp only [kfill] at h
                  split at h
                  · rw [ih _ _ h, setl_length]
                  · simp at h
              exact this _ _ _ hf
            rw [krep_length] at e2
            simp at e1 e2
            rw [hzs] at e2
            omega
          refine ⟨.slice (some ⟨w.heap.size, 0, none⟩) len len, .cells c' el, ⟨w.heap.size, 0, c'.size, n, true⟩, ?_, rfl, ?_, ObjRel.newCells hn h2⟩
          · have hp : parts.map (fun x => (x.1, e' x.2)) = ⟨parts.toList.map fun p => (p.1, e' p.2)⟩ := by apply Array.toList_inj.1; simp
            simp only [execOp, Instr.buildSlice, Sem.run_bind, run_und hu, Result.andThen_ok, run_size hs, hp]
            rw [Sem.run_ite, if_neg (by omega)]
            simp only [Sem.run_bind, Sem.run_pure, Result.andThen_ok]
            by_cases h0 : len * n = 0
            · simp only [h0, if_true, Sem.run_pure, Result.andThen_ok] at h1 ⊢
              simp only [pure_bind, h1]
              simp [newRow]
            · simp only [h0, if_false, Sem.run_pure, Sem.run_bind, hzr, Result.andThen_ok] at h1 ⊢
              simp only [h1]
              simp [newRow]
          · have := VR.slice (ρ := ρ.set id ⟨w.heap.size, 0, c'.size, n, true⟩) (id := id) (o := 0) (len := len) (cap := len) (cap' := len) (Ren.set_same _ _ _) (Nat.le_refl _) (Nat.le_refl _) (fun _ _ => by simp [hcl])
            simpa using this
        · simp at h
      · simp at h
    · simp at h
  · rename_i t l c
    split at h
    · rename_i el l' c' hu hl hc
      have hl2 := he l (by simp [Op.operands])
      have hc2 := he c (by simp [Op.operands])
      rw [hl] at hl2
      rw [hc] at hc2
      generalize hql : e' l = ql at hl2
      generalize hqc : e' c = qc at hc2
      cases hl2; cases hc2
      split at h
      · rename_i n by_ z hs hby hz
        split at h
        · rename_i hcond
          obtain ⟨hzl, h0, hlc, hcm, hbc⟩ := hcond
          cases h
          obtain ⟨hzr, hzc⟩ := run_kzero hz w
          obtain ⟨i, hib, hir⟩ := run_bytes hby w
          have hzs : z.cells.size = n := by simpa using hzl
          have w1 : IntKind.i64.wrap l' = l' := wrap_i64 h0 (by omega)
          have w2 : IntKind.i64.wrap c' = c' := wrap_i64 (by omega) (by omega)
          refine ⟨.slice (some ⟨w.heap.size, 0, none⟩) l'.toNat c'.toNat, .cells ((Array.range (c'.toNat * n)).map (fun i => (if c'.toNat * n = 0 then #[] else z.cells)[i % (if c'.toNat * n = 0 then (#[] : Array Value) else z.cells).size]!)) el,
            ⟨w.heap.size, 0, c'.toNat * n, n, true⟩, ?_, rfl, ?_, ?_⟩
          · simp only [execOp, hql, hqc, Instr.makeSlice, Sem.run_bind, run_und hu, Result.andThen_ok, asInt, asIntOf, Sem.run_pure, hir, w1, w2]
            have ht : (decide (c' < 0) || decide ((i.bytes : Int) * c' > 2 ^ 48)) = false := by
              rw [hib]; simp only [Bool.or_eq_false_iff, decide_eq_false_iff_not]; omega
            have hcnd : ¬ ((decide (c' < 0) || decide ((i.bytes : Int) * c' > 2 ^ 48) || decide (l' < 0) || decide (l' > c')) = true) := by
              rw [ht]; simp; omega
            rw [Sem.run_ite, if_neg hcnd]
            simp only [Sem.run_bind, run_askRoom, Result.andThen_ok, run_size hs, Sem.run_pure]
            by_cases hz0 : c'.toNat * n = 0
            · simp [hz0, newRow]
            · simp only [hz0, if_false, Sem.run_bind, hzr, Result.andThen_ok, Sem.run_pure, newRow, run_newObj]
              simp
          · have := VR.slice (ρ := ρ.set id ⟨w.heap.size, 0, c'.toNat * n, n, true⟩) (id := id) (o := 0) (len := l'.toNat) (cap := c'.toNat) (cap' := c'.toNat) (Ren.set_same _ _ _) (by omega) (Nat.le_refl _) (fun _ _ => by simp)
            simpa using this
          · have hrow : VRl ρ (krep z.cells.toList c'.toNat) ((Array.range (c'.toNat * n)).map (fun i => (if c'.toNat * n = 0 then #[] else z.cells)[i % (if c'.toNat * n = 0 then (#[] : Array Value) else z.cells).size]!)).toList := by
              by_cases h0' : c'.toNat * n = 0
              · rw [h0']; have : (krep z.cells.toList c'.toNat).length = 0 := by rw [krep_length]; simp [hzs]; simpa using h0'
                rw [List.length_eq_zero_iff.1 this]; simpa using VRl.nil ρ
              · rw [if_neg h0', ← hzs, krep_fill z.cells]; exact krep_VR' hzc _
            have := ObjRel.newCells (w := w) (z := n) (ty := el) hn hrow
            simpa using this
        · simp at h
      · simp at h
    · simp at h
  · rename_i t
    cases h
    refine ⟨.map (some w.heap.size), .map #[] 0, ⟨w.heap.size, 0, 0, 0, true⟩, by simp [execOp, Instr.makeMap], rfl, .map (Ren.set_same _ _ _), rfl, #[], 0, World.alloc_heap_new w _, rfl, fun i k v hv => by simp at hv⟩
  · simp at h
end Go.K
