/- Operations that write. No condition. -/
import Derived.Test.YthcjliffpebjaaaK9
namespace Go.K
open Go
set_option linter.unusedVariables false
variable {P : Program} {w : World} {ρ : Ren} {H : Heap}

theorem setCell_put {b k : Nat} {cs : Array Value} {ty : TypeId} {fz : Nat × Nat} (hb : w.heap[b]? = some (.cells cs ty fz)) (v : Value) :
    w.setCell ⟨b, k, none⟩ v = w.putObj b (.cells (cs.setIfInBounds k v) ty fz) := by
  have hlt : b < w.heap.size := (Array.getElem?_eq_some_iff.1 hb).1
  have : w.heap.modify b (fun
      | .cells c elem frozen => .cells (if (none : Option Nat).isSome then c else c.setIfInBounds k v) elem frozen
      | o => o) = w.heap.setIfInBounds b (.cells (cs.setIfInBounds k v) ty fz) := by
    apply Array.ext_getElem?
    intro i
    rw [Array.getElem?_modify]
    by_cases h : b = i
    · subst h; rw [if_pos rfl, hb]; simp [hlt]
    · rw [if_neg h, Array.getElem?_setIfInBounds_ne h]
  simp only [World.setCell, World.putObj]
  rw [← this]
  rfl
theorem putObj_putObj (b : Nat) (o o' : Obj) : (w.putObj b o).putObj b o' = w.putObj b o' := by
  simp [World.putObj]
theorem putObj_self {b : Nat} {o : Obj} (h : w.heap[b]? = some o) : w.putObj b o = w := by
  obtain ⟨hlt, he⟩ := Array.getElem?_eq_some_iff.1 h
  have : w.heap.setIfInBounds b o = w.heap := by
    apply Array.ext_getElem?
    intro i
    by_cases hi : b = i
    · subst hi; simp [hlt, he]
    · rw [Array.getElem?_setIfInBounds_ne hi]
  simp only [World.putObj, this]
theorem putObj_size (b : Nat) (o : Obj) : (w.putObj b o).heap.size = w.heap.size := by simp [World.putObj]
theorem putObj_lt {b : Nat} {o o' : Obj} (h : w.heap[b]? = some o) : (w.putObj b o').heap[b]? = some o' := World.putObj_heap_same (Array.getElem?_eq_some_iff.1 h).1

theorem run_storeCells {b off : Nat} {ty : TypeId} : ∀ (vs : List Value) (i : Nat) (cs : Array Value) (w : World), w.heap[b]? = some (.cells cs ty (0, 0)) → vs.all (fun v => v.oneCell') = true → off + i + vs.length ≤ cs.size →
    (storeCells ⟨b, off, none⟩ vs i).run P w = .ok () (w.putObj b (.cells ⟨setl cs.toList (off + i) vs⟩ ty (0, 0))) := by
  intro vs
  induction vs with
  | nil => intro i cs w hb _ _; simp [storeCells, setl, putObj_self hb]
  | cons v vs ih =>
    intro i cs w hb ho hle
    simp only [List.all_cons, Bool.and_eq_true] at ho
    have hi : off + i < cs.size := by simp at hle; omega
    simp only [storeCells, Sem.run_bind, addr_add]
    have hfz : w.frozen? ⟨b, off + i, none⟩ = false := by simp [World.frozen?, hb]
    rw [run_store P w _ _ _ ho.1, cell_of hb, Array.getElem?_eq_getElem hi]
    simp only [hfz, Bool.false_eq_true, if_false, Result.andThen_ok]
    rw [setCell_put hb]
    rw [ih (i + 1) (cs.setIfInBounds (off + i) v) _ (putObj_lt hb) ho.2 (by simp at hle; simp; omega)]
    rw [putObj_putObj]
    simp [setl, Nat.add_assoc]

theorem kcells_sim {n len : Nat} {x x' : Value} {cs : List Value} (h : kcells P n len x H = some cs) (hx : VR ρ x x') (ho : ∀ id, ObjAt ρ H w id) :
    ∃ cs', (Builtin.firstCells n len x').run P w = .ok cs' w ∧ VRl ρ cs cs'.toList := by
  unfold kcells at h
  split at h
  · split at h
    · rename_i h0; cases h; cases hx; exact ⟨#[], rfl, .nil ρ⟩
    · simp at h
  · rename_i id off l c
    split at h
    · rename_i own z cs0 hid
      split at h
      · rename_i hlle
        obtain ⟨hll, hle⟩ := hlle
        cases h
        cases hx with
        | @slice _ _ r _ _ _ hr _ _ _ =>
          obtain ⟨_, _, cs', ty, fz, hb, hn, _, hcs⟩ := ho id r _ hr hid
          have hv := rows_part hcs hle
          rcases rows_extract hcs hle with hsz | h0
          · exact ⟨_, run_loadCells hb (by omega), hv⟩
          · rw [h0]
            exact ⟨#[], by simp [Builtin.firstCells, h0, loadCells, loadCellsFrom], by simpa using VRl.nil ρ⟩
        | @slice0 _ _ r o' hr =>
          obtain rfl : len = 0 := by omega
          exact ⟨#[], by simp [Builtin.firstCells, loadCells, loadCellsFrom], by simpa using VRl.nil ρ⟩
      · simp at h
    · simp at h
  · simp at h

/-! ## What writing does to the relation -/
theorem Post.drew {B base : Nat} {M : List Nat} (hr : Rel P B ρ H w) : Post P B base M ρ H w ρ H w.drew :=
  ⟨hr.drew, Ren.le_refl _, fun id r a b => (by rw [b] at a; cases a), Nat.le_refl _, fun _ _ _ => rfl, Nat.le_refl _, fun _ _ _ => rfl, fun _ _ h => h, rfl, rfl, rfl⟩

/-- A block of the canonical heap's own is written, or given up. -/
theorem Post.put {B base : Nat} {M : List Nat} (hr : Rel P B ρ H w) {id : Nat} {r : RI} {ob ob' : KObj} {o' : Obj} (hid : ρ id = some r) (ho : H[id]? = some ob) (hown : ob.owned = true)
    (hw : w.heap[r.b]?.isSome) (h' : ObjRel ρ r ob' (w.putObj r.b o')) (hM : id < base → id ∈ M) : Post P B base M ρ H w ρ (H.set id ob') (w.putObj r.b o') := by
  have hlt := hr.lt id r hid
  have hidl := hr.dom id r hid
  have hoth : ∀ b, b ≠ r.b → (w.putObj r.b o').heap[b]? = w.heap[b]? := fun b hb => World.putObj_heap_other hb
  have hown' : ∀ o, (H.set id ob')[id]? = some o → o = ob' := fun o h => by rw [List.getElem?_set_self hidl] at h; exact (Option.some.inj h).symm
  have hsep : ∀ id' r' o, id' ≠ id → ρ id' = some r' → H[id']? = some o → o.alive = true → r'.b ≠ r.b := fun id' r' o hne h1 h2 h3 => (hr.sep id id' r r' ob o hid h1 ho h2 hown h3 (Ne.symm hne)).symm
  refine ⟨⟨by rw [putObj_size]; exact hr.bsize, hr.glob, fun i x h => by simpa using hr.dom i x h, fun i x h => by rw [putObj_size]; exact hr.lt i x h, fun i x o h1 h2 => ?_, fun i x o h1 h2 h3 => ?_, ?_⟩,
    Ren.le_refl _, fun i x a b => (by rw [b] at a; cases a), by simp, fun i h1 h2 => ?_, by rw [putObj_size]; exact Nat.le_refl _, fun b h1 h2 => hoth b (fun e => h2 ⟨id, r, ob, hid, ho, hown, e.symm⟩), fun b h1 h2 => ?_, rfl, rfl, rfl⟩
  · by_cases e : i = id
    · subst e; rw [hid] at h1; cases h1; rw [hown' _ h2]; exact h'
    · rw [List.getElem?_set_ne (Ne.symm e)] at h2
      cases ha : o.alive with
      | true => exact (hr.obj i x o h1 h2).mono (Ren.le_refl _) (hoth _ (hsep i x o e h1 h2 ha))
      | false => cases o <;> first | trivial | simp [KObj.alive] at ha
  · by_cases e : i = id
    · subst e; rw [hid] at h1; cases h1; exact hr.base i r ob hid ho hown
    · rw [List.getElem?_set_ne (Ne.symm e)] at h2; exact hr.base i x o h1 h2 h3
  · intro i i' x x' o o2 h1 h1' h2 h2' h3 h3' hne
    by_cases e : i = id
    · subst e
      rw [hid] at h1; cases h1
      rw [List.getElem?_set_ne hne] at h2'
      exact (hsep i' x' o2 (Ne.symm hne) h1' h2' h3').symm
    · rw [List.getElem?_set_ne (Ne.symm e)] at h2
      by_cases e' : i' = id
      · subst e'
        rw [hid] at h1'; cases h1'
        refine hsep i x o e h1 h2 ?_
        cases o <;> first | rfl | simp [KObj.owned] at h3
      · rw [List.getElem?_set_ne (Ne.symm e')] at h2'
        exact hr.sep i i' x x' o o2 h1 h1' h2 h2' h3 h3' hne
  · exact List.getElem?_set_ne (fun (e : id = i) => h2 (by subst e; exact hM h1))
  · obtain ⟨i, x, o, h3, h4, h5, h6⟩ := h2
    by_cases e : i = id
    · subst e; rw [hid] at h3; cases h3; exact ⟨i, r, ob, hid, ho, hown, h6⟩
    · rw [List.getElem?_set_ne (Ne.symm e)] at h4; exact ⟨i, x, o, h3, h4, h5, h6⟩

/-- A block of the canonical heap's own is given up; nothing real turns. -/
theorem Post.kill {B base : Nat} {M : List Nat} (hr : Rel P B ρ H w) {id : Nat} {r : RI} {ob : KObj} (hid : ρ id = some r) (ho : H[id]? = some ob) (hown : ob.owned = true)
    (hM : id < base → id ∈ M) : Post P B base M ρ H w ρ (H.set id .dead) w := by
  have hlt := hr.lt id r hid
  have hs : w.heap[r.b]? = some w.heap[r.b] := Array.getElem?_eq_getElem hlt
  have := Post.put (base := base) (M := M) hr (ob' := .dead) (o' := w.heap[r.b]) hid ho hown (by rw [hs]; rfl) trivial hM
  rwa [putObj_self hs] at this

/-- A row of the canonical heap's own goes on under a new number, in the same real block. -/
theorem Post.move {B base : Nat} {M : List Nat} (hr : Rel P B ρ H w) {id : Nat} {r r' : RI} {ob ob' : KObj} {o' : Obj} (hid : ρ id = some r) (ho : H[id]? = some ob) (hown : ob.owned = true)
    (hb : r'.b = r.b) (hob : base ≤ H.length) (h' : ObjRel (ρ.set H.length r') r' ob' (w.putObj r.b o')) (hM : id < base → id ∈ M) :
    Post P B base M ρ H w (ρ.set H.length r') (H.set id .dead ++ [ob']) (w.putObj r.b o') := by
  have hlt := hr.lt id r hid
  have hidl := hr.dom id r hid
  have hnone : ρ H.length = none := by
    cases h : ρ H.length with
    | none => rfl
    | some r => exact absurd (hr.dom _ _ h) (Nat.lt_irrefl _)
  have hoth : ∀ b, b ≠ r.b → (w.putObj r.b o').heap[b]? = w.heap[b]? := fun b hb => World.putObj_heap_other hb
  have hsep : ∀ id' r' o, id' ≠ id → ρ id' = some r' → H[id']? = some o → o.alive = true → r'.b ≠ r.b := fun id' r' o hne h1 h2 h3 => (hr.sep id id' r r' ob o hid h1 ho h2 hown h3 (Ne.symm hne)).symm
  have hnew : (H.set id KObj.dead ++ [ob'])[H.length]? = some ob' := by simp
  have hget : ∀ i, i ≠ H.length → i < H.length + 1 → (H.set id KObj.dead ++ [ob'])[i]? = (H.set id KObj.dead)[i]? := fun i h1 h2 => List.getElem?_append_left (by simp; omega)
  have hdead : (H.set id KObj.dead)[id]? = some .dead := List.getElem?_set_self hidl
  have hle := Ren.le_set (r := r') hnone
  refine ⟨⟨by rw [putObj_size]; exact hr.bsize, fun g hg => ?_, fun i x h => ?_, fun i x h => ?_, fun i x o h1 h2 => ?_, fun i x o h1 h2 h3 => ?_, ?_⟩, hle, fun i x h1 h2 => ?_, by simp, fun i h1 h2 => ?_, by rw [putObj_size]; exact Nat.le_refl _,
    fun b h1 h2 => hoth b (fun e => h2 ⟨id, r, ob, hid, ho, hown, e.symm⟩), fun b h1 h2 => ?_, rfl, rfl, rfl⟩
  · obtain ⟨x, h1, h2, h3⟩ := hr.glob g hg
    exact ⟨x, hle _ _ h1, h2, h3⟩
  · by_cases e : i = H.length
    · subst e; simp
    · rw [Ren.set_other e] at h; have := hr.dom _ _ h; simp; omega
  · rw [putObj_size]
    by_cases e : i = H.length
    · subst e; rw [Ren.set_same] at h; cases h; rw [hb]; exact hlt
    · rw [Ren.set_other e] at h; exact hr.lt _ _ h
  · by_cases e : i = H.length
    · subst e; rw [Ren.set_same] at h1; cases h1; rw [hnew] at h2; cases h2; exact h'
    · rw [Ren.set_other e] at h1
      rw [hget i e (by have := hr.dom _ _ h1; omega)] at h2
      by_cases e2 : i = id
      · subst e2; rw [hdead] at h2; cases h2; trivial
      · rw [List.getElem?_set_ne (Ne.symm e2)] at h2
        cases ha : o.alive with
        | true => exact (hr.obj i x o h1 h2).mono hle (hoth _ (hsep i x o e2 h1 h2 ha))
        | false => cases o <;> first | trivial | simp [KObj.alive] at ha
  · by_cases e : i = H.length
    · subst e; rw [Ren.set_same] at h1; cases h1; rw [hb]; exact hr.base id r ob hid ho hown
    · rw [Ren.set_other e] at h1
      rw [hget i e (by have := hr.dom _ _ h1; omega)] at h2
      by_cases e2 : i = id
      · subst e2; rw [hdead] at h2; cases h2; simp [KObj.owned] at h3
      · rw [List.getElem?_set_ne (Ne.symm e2)] at h2; exact hr.base i x o h1 h2 h3
  · intro i i' x x' o o2 h1 h1' h2 h2' h3 h3' hne
    have other : ∀ j y p, j ≠ H.length → ρ.set H.length r' j = some y → (H.set id KObj.dead ++ [ob'])[j]? = some p → p.alive = true → j ≠ id ∧ ρ j = some y ∧ H[j]? = some p := by
      intro j y p hj g1 g2 g3
      rw [Ren.set_other hj] at g1
      rw [hget j hj (by have := hr.dom _ _ g1; omega)] at g2
      by_cases e2 : j = id
      · subst e2; rw [hdead] at g2; cases g2; simp [KObj.alive] at g3
      · rw [List.getElem?_set_ne (Ne.symm e2)] at g2; exact ⟨e2, g1, g2⟩
    have halive : o.alive = true := by cases o <;> first | rfl | simp [KObj.owned] at h3
    by_cases e : i = H.length
    · subst e
      rw [Ren.set_same] at h1; cases h1
      obtain ⟨g1, g2, g3⟩ := other i' x' o2 (Ne.symm hne) h1' h2' h3'
      rw [hb]
      exact (hsep i' x' o2 g1 g2 g3 h3').symm
    · obtain ⟨g1, g2, g3⟩ := other i x o e h1 h2 halive
      by_cases e' : i' = H.length
      · subst e'
        rw [Ren.set_same] at h1'; cases h1'
        rw [hb]
        exact hsep i x o g1 g2 g3 halive
      · obtain ⟨g4, g5, g6⟩ := other i' x' o2 e' h1' h2' h3'
        exact hr.sep i i' x x' o o2 g2 g5 g3 g6 h3 h3' hne
  · by_cases e : i = H.length
    · omega
    · rw [Ren.set_other e, h2] at h1; cases h1
  · rw [List.getElem?_append_left (by simp; omega)]
    exact List.getElem?_set_ne (fun (e : id = i) => h2 (by subst e; exact hM h1))
  · obtain ⟨i, x, o, h3, h4, h5, h6⟩ := h2
    by_cases e : i = H.length
    · subst e; rw [Ren.set_same] at h3; cases h3; exact ⟨id, r, ob, hid, ho, hown, by rw [← hb]; exact h6⟩
    · rw [Ren.set_other e] at h3
      rw [hget i e (by have := hr.dom _ _ h3; omega)] at h4
      by_cases e2 : i = id
      · subst e2; rw [hdead] at h4; cases h4; simp [KObj.owned] at h5
      · rw [List.getElem?_set_ne (Ne.symm e2)] at h4; exact ⟨i, x, o, h3, h4, h5, h6⟩
end Go.K
