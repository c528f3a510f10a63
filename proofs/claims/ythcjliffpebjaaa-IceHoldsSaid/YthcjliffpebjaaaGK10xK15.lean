/- Operations that write. No condition. -/
import Derived.Test.YthcjliffpebjaaaGK1xK9
import Derived.Deep.AppendSrc
import Derived.LoopNIn
import Derived.RangeFuncLeaves
namespace Go.K
set_option linter.unusedSimpArgs false
open Go
set_option linter.unusedVariables false
variable {P : Program} {w : World} {ρ : Ren} {H : Heap}

theorem setCell_put {b k : Nat} {cs : Array Value} {ty : TypeId} {fz : Nat × Nat} (hb : w.heap[b]? = some (.cells cs ty fz)) (v : Value) :
    w.setCell ⟨b, k, none⟩ v = w.putObj b (.cells (cs.setIfInBounds k v) ty fz) := by
  have hlt : b < w.heap.size := (Array.getElem?_eq_some_iff.1 hb).1
  have : w.heap.modify b (fun
      | .cells c elem frozen => .cells (if (none : Option Nat).isSome then c else c.setIfInBounds k v) elem frozen
      | o => o) = w.heap.setIfInBounds b (.cells (cs.setIfInBounds k v) ty fz) := by
    apply Array.ext_getElem?
    intro i
    rw [Array.getElem?_modify]
    by_cases h : b = i
    · subst h; rw [if_pos rfl, hb]; simp [hlt]
    · rw [if_neg h, Array.getElem?_setIfInBounds_ne h]
  simp only [World.setCell, World.putObj]
  rw [← this]
  rfl
theorem putObj_putObj (b : Nat) (o o' : Obj) : (w.putObj b o).putObj b o' = w.putObj b o' := by
  simp [World.putObj]
theorem putObj_self {b : Nat} {o : Obj} (h : w.heap[b]? = some o) : w.putObj b o = w := by
  obtain ⟨hlt, he⟩ := Array.getElem?_eq_some_iff.1 h
  have : w.heap.setIfInBounds b o = w.heap := by
    apply Array.ext_getElem?
    intro i
    by_cases hi : b = i
    · subst hi; simp [hlt, he]
    · rw [Array.getElem?_setIfInBounds_ne hi]
  simp only [World.putObj, this]
theorem putObj_size (b : Nat) (o : Obj) : (w.putObj b o).heap.size = w.heap.size := by simp [World.putObj]
theorem putObj_lt {b : Nat} {o o' : Obj} (h : w.heap[b]? = some o) : (w.putObj b o').heap[b]? = some o' := World.putObj_heap_same (Array.getElem?_eq_some_iff.1 h).1

theorem run_storeCells {b off : Nat} {ty : TypeId} : ∀ (vs : List Value) (i : Nat) (cs : Array Value) (w : World), w.heap[b]? = some (.cells cs ty (0, 0)) → vs.all (fun v => v.oneCell') = true → off + i + vs.length ≤ cs.size →
    (storeCells ⟨b, off, none⟩ vs i).run P w = .ok () (w.putObj b (.cells ⟨setl cs.toList (off + i) vs⟩ ty (0, 0))) := by
  intro vs
  induction vs with
  | nil => intro i cs w hb _ _; simp [storeCells, setl, putObj_self hb]
  | cons v vs ih =>
    intro i cs w hb ho hle
    simp only [List.all_cons, Bool.and_eq_true] at ho
    have hi : off + i < cs.size := by simp at hle; omega
    simp only [storeCells, Sem.run_bind, addr_add]
    have hfz : w.frozen? ⟨b, off + i, none⟩ = false := by simp [World.frozen?, hb]
    rw [run_store P w _ _ _ ho.1, cell_of hb, Array.getElem?_eq_getElem hi]
    simp only [hfz, Bool.false_eq_true, if_false, Result.andThen_ok]
    rw [setCell_put hb]
    rw [ih (i + 1) (cs.setIfInBounds (off + i) v) _ (putObj_lt hb) ho.2 (by simp at hle; simp; omega)]
    rw [putObj_putObj]
    simp [setl, Nat.add_assoc]

theorem kcells_sim0 {n len : Nat} {x x' : Value} {cs : List Value} (hq : deq x = x) (h : kcells P n len x H = some cs) (hx : VR ρ x x') (ho : ∀ id, ObjAt ρ H w id) :
    ∃ cs', (Builtin.firstCells n len x').run P w = .ok cs' w ∧ VRl ρ cs cs'.toList := by
  unfold kcells at h
  rw [hq] at h
  split at h
  · split at h
    · rename_i h0; cases h; cases hx; exact ⟨#[], rfl, .nil ρ⟩
    · simp at h
  · rename_i id off l c
    split at h
    · rename_i own z cs0 hid
      split at h
      · rename_i hlle
        obtain ⟨hll, hle⟩ := hlle
        cases h
        cases hx with
        | @slice _ _ r _ _ _ hr _ _ _ =>
          obtain ⟨_, _, cs', ty, fz, hb, hn, _, hcs⟩ := ho id r _ hr hid
          have hv := rows_part hcs hle
          rcases rows_extract hcs hle with hsz | h0
          · exact ⟨_, run_loadCells hb (by omega), hv⟩
          · rw [h0]
            exact ⟨#[], by simp [Builtin.firstCells, h0, loadCells, loadCellsFrom], by simpa using VRl.nil ρ⟩
        | @slice0 _ _ r o' hr =>
          obtain rfl : len = 0 := by omega
          exact ⟨#[], by simp [Builtin.firstCells, loadCells, loadCellsFrom], by simpa using VRl.nil ρ⟩
      · simp at h
    · simp at h
  · simp at h

theorem kcells_sim {n len : Nat} {x x' : Value} {cs : List Value} (h : kcells P n len x H = some cs) (hx : VR ρ x x') (ho : ∀ id, ObjAt ρ H w id) :
    ∃ cs', (Builtin.firstCells n len x').run P w = .ok cs' w ∧ VRl ρ cs cs'.toList := by
  rcases deq_cases x with hq | ⟨id, off, k, l, cap, rfl⟩
  · exact kcells_sim0 hq h hx ho
  · rcases Nat.eq_zero_or_pos l with h0 | h0
    · subst h0
      unfold kcells deq at h
      simp only at h
      split at h
      · split at h
        · rename_i hc
          obtain rfl : len = 0 := by omega
          cases h
          obtain ⟨a, c, rfl⟩ : ∃ a c, x' = .slice a 0 c := by cases hx <;> exact ⟨_, _, rfl⟩
          exact ⟨#[], by cases a <;> simp [Builtin.firstCells, loadCells, loadCellsFrom], by simpa using VRl.nil ρ⟩
        · cases h
      · cases h
    · exact kcells_sim0 (x := .slice (some ⟨id, off, none⟩) l cap) rfl h (hx.deq h0) ho

/-! ## What writing does to the relation -/
theorem Post.drew {B base : Nat} {M : List Nat} (hr : Rel P B ρ H w) : Post P B base M ρ H w ρ H w.drew :=
  ⟨hr.drew, Ren.le_refl _, fun id r a b => (by rw [b] at a; cases a), Nat.le_refl _, fun _ _ _ => rfl, Nat.le_refl _, fun _ _ _ => rfl, fun _ _ h => h, rfl, rfl, rfl⟩

/-- A block of the canonical heap's own is written, or given up. -/
theorem Post.put {B base : Nat} {M : List Nat} (hr : Rel P B ρ H w) {id : Nat} {r : RI} {ob ob' : KObj} {o' : Obj} (hid : ρ id = some r) (ho : H[id]? = some ob) (hown : ob.owned = true)
    (hw : w.heap[r.b]?.isSome) (h' : ObjRel ρ r ob' (w.putObj r.b o')) (hM : id < base → id ∈ M) : Post P B base M ρ H w ρ (H.set id ob') (w.putObj r.b o') := by
  have hlt := hr.lt id r hid
  have hidl := hr.dom id r hid
  have hoth : ∀ b, b ≠ r.b → (w.putObj r.b o').heap[b]? = w.heap[b]? := fun b hb => World.putObj_heap_other hb
  have hown' : ∀ o, (H.set id ob')[id]? = some o → o = ob' := fun o h => by rw [List.getElem?_set_self hidl] at h; exact (Option.some.inj h).symm
  have hsep : ∀ id' r' o, id' ≠ id → ρ id' = some r' → H[id']? = some o → o.alive = true → r'.b ≠ r.b := fun id' r' o hne h1 h2 h3 => (hr.sep id id' r r' ob o hid h1 ho h2 hown h3 (Ne.symm hne)).symm
  refine ⟨⟨by rw [putObj_size]; exact hr.bsize, hr.glob, fun i x h => by simpa using hr.dom i x h, fun i x h => by rw [putObj_size]; exact hr.lt i x h, fun i x o h1 h2 => ?_, fun i x o h1 h2 h3 => ?_, ?_⟩,
    Ren.le_refl _, fun i x a b => (by rw [b] at a; cases a), by simp, fun i h1 h2 => ?_, by rw [putObj_size]; exact Nat.le_refl _, fun b h1 h2 => hoth b (fun e => h2 ⟨id, r, ob, hid, ho, hown, e.symm⟩), fun b h1 h2 => ?_, rfl, rfl, rfl⟩
  · by_cases e : i = id
    · subst e; rw [hid] at h1; cases h1; rw [hown' _ h2]; exact h'
    · rw [List.getElem?_set_ne (Ne.symm e)] at h2
      cases ha : o.alive with
      | true => exact (hr.obj i x o h1 h2).mono (Ren.le_refl _) (hoth _ (hsep i x o e h1 h2 ha))
      | false => cases o <;> first | trivial | simp [KObj.alive] at ha
  · by_cases e : i = id
    · subst e; rw [hid] at h1; cases h1; exact hr.base i r ob hid ho hown
    · rw [List.getElem?_set_ne (Ne.symm e)] at h2; exact hr.base i x o h1 h2 h3
  · intro i i' x x' o o2 h1 h1' h2 h2' h3 h3' hne
    by_cases e : i = id
    · subst e
      rw [hid] at h1; cases h1
      rw [List.getElem?_set_ne hne] at h2'
      exact (hsep i' x' o2 (Ne.symm hne) h1' h2' h3').symm
    · rw [List.getElem?_set_ne (Ne.symm e)] at h2
      by_cases e' : i' = id
      · subst e'
        rw [hid] at h1'; cases h1'
        refine hsep i x o e h1 h2 ?_
        cases o <;> first | rfl | simp [KObj.owned] at h3
      · rw [List.getElem?_set_ne (Ne.symm e')] at h2'
        exact hr.sep i i' x x' o o2 h1 h1' h2 h2' h3 h3' hne
  · exact List.getElem?_set_ne (fun (e : id = i) => h2 (by subst e; exact hM h1))
  · obtain ⟨i, x, o, h3, h4, h5, h6⟩ := h2
    by_cases e : i = id
    · subst e; rw [hid] at h3; cases h3; exact ⟨i, r, ob, hid, ho, hown, h6⟩
    · rw [List.getElem?_set_ne (Ne.symm e)] at h4; exact ⟨i, x, o, h3, h4, h5, h6⟩

/-- A block of the canonical heap's own is given up; nothing real turns. -/
theorem Post.kill {B base : Nat} {M : List Nat} (hr : Rel P B ρ H w) {id : Nat} {r : RI} {ob : KObj} (hid : ρ id = some r) (ho : H[id]? = some ob) (hown : ob.owned = true)
    (hM : id < base → id ∈ M) : Post P B base M ρ H w ρ (H.set id .dead) w := by
  have hlt := hr.lt id r hid
  have hs : w.heap[r.b]? = some w.heap[r.b] := Array.getElem?_eq_getElem hlt
  have := Post.put (base := base) (M := M) hr (ob' := .dead) (o' := w.heap[r.b]) hid ho hown (by rw [hs]; rfl) trivial hM
  rwa [putObj_self hs] at this

/-- A block is given up, whether it lies anywhere or not. -/
theorem Post.kill' {B base : Nat} {M : List Nat} (hr : Rel P B ρ H w) {id : Nat} {ob : KObj} (ho : H[id]? = some ob) (hown : ob.owned = true)
    (hM : id < base → id ∈ M) : Post P B base M ρ H w ρ (H.set id .dead) w := by
  cases hid : ρ id with
  | some r => exact Post.kill hr hid ho hown hM
  | none =>
    have hget : ∀ i r, ρ i = some r → (H.set id .dead)[i]? = H[i]? := fun i r hi => List.getElem?_set_ne (fun e => by rw [← e, hid] at hi; cases hi)
    refine ⟨⟨hr.bsize, hr.glob, fun i x h => by simpa using hr.dom i x h, hr.lt, fun i x o h1 h2 => hr.obj i x o h1 (by rw [← hget i x h1]; exact h2), fun i x o h1 h2 h3 => hr.base i x o h1 (by rw [← hget i x h1]; exact h2) h3,
      fun i j x y o o' h1 h2 h3 h4 => hr.sep i j x y o o' h1 h2 (by rw [← hget i x h1]; exact h3) (by rw [← hget j y h2]; exact h4)⟩,
      Ren.le_refl _, fun i x a b => (by rw [b] at a; cases a), by simp, fun i h1 h2 => ?_, Nat.le_refl _, fun _ _ _ => rfl, fun b h1 h2 => ?_, rfl, rfl, rfl⟩
    · exact List.getElem?_set_ne (fun e => by subst e; exact h2 (hM h1))
    · obtain ⟨i, x, o, k1, k2, k3, k4⟩ := h2
      exact ⟨i, x, o, k1, by rw [← hget i x k1]; exact k2, k3, k4⟩

/-- A row of the canonical heap's own goes on under a new number, in the same real block. -/
theorem Post.move {B base : Nat} {M : List Nat} (hr : Rel P B ρ H w) {id : Nat} {r r' : RI} {ob ob' : KObj} {o' : Obj} (hid : ρ id = some r) (ho : H[id]? = some ob) (hown : ob.owned = true)
    (hb : r'.b = r.b) (hob : base ≤ H.length) (h' : ObjRel (ρ.set H.length r') r' ob' (w.putObj r.b o')) (hM : id < base → id ∈ M) :
    Post P B base M ρ H w (ρ.set H.length r') (H.set id .dead ++ [ob']) (w.putObj r.b o') := by
  have hlt := hr.lt id r hid
  have hidl := hr.dom id r hid
  have hnone : ρ H.length = none := by
    cases h : ρ H.length with
    | none => rfl
    | some r => exact absurd (hr.dom _ _ h) (Nat.lt_irrefl _)
  have hoth : ∀ b, b ≠ r.b → (w.putObj r.b o').heap[b]? = w.heap[b]? := fun b hb => World.putObj_heap_other hb
  have hsep : ∀ id' r' o, id' ≠ id → ρ id' = some r' → H[id']? = some o → o.alive = true → r'.b ≠ r.b := fun id' r' o hne h1 h2 h3 => (hr.sep id id' r r' ob o hid h1 ho h2 hown h3 (Ne.symm hne)).symm
  have hnew : (H.set id KObj.dead ++ [ob'])[H.length]? = some ob' := by simp
  have hget : ∀ i, i ≠ H.length → i < H.length + 1 → (H.set id KObj.dead ++ [ob'])[i]? = (H.set id KObj.dead)[i]? := fun i h1 h2 => List.getElem?_append_left (by simp; omega)
  have hdead : (H.set id KObj.dead)[id]? = some .dead := List.getElem?_set_self hidl
  have hle := Ren.le_set (r := r') hnone
  refine ⟨⟨by rw [putObj_size]; exact hr.bsize, fun g hg => ?_, fun i x h => ?_, fun i x h => ?_, fun i x o h1 h2 => ?_, fun i x o h1 h2 h3 => ?_, ?_⟩, hle, fun i x h1 h2 => ?_, by simp, fun i h1 h2 => ?_, by rw [putObj_size]; exact Nat.le_refl _,
    fun b h1 h2 => hoth b (fun e => h2 ⟨id, r, ob, hid, ho, hown, e.symm⟩), fun b h1 h2 => ?_, rfl, rfl, rfl⟩
  · obtain ⟨x, h1, h2, h3⟩ := hr.glob g hg
    exact ⟨x, hle _ _ h1, h2, h3⟩
  · by_cases e : i = H.length
    · subst e; simp
    · rw [Ren.set_other e] at h; have := hr.dom _ _ h; simp; omega
  · rw [putObj_size]
    by_cases e : i = H.length
    · subst e; rw [Ren.set_same] at h; cases h; rw [hb]; exact hlt
    · rw [Ren.set_other e] at h; exact hr.lt _ _ h
  · by_cases e : i = H.length
    · subst e; rw [Ren.set_same] at h1; cases h1; rw [hnew] at h2; cases h2; exact h'
    · rw [Ren.set_other e] at h1
      rw [hget i e (by have := hr.dom _ _ h1; omega)] at h2
      by_cases e2 : i = id
      · subst e2; rw [hdead] at h2; cases h2; trivial
      · rw [List.getElem?_set_ne (Ne.symm e2)] at h2
        cases ha : o.alive with
        | true => exact (hr.obj i x o h1 h2).mono hle (hoth _ (hsep i x o e2 h1 h2 ha))
        | false => cases o <;> first | trivial | simp [KObj.alive] at ha
  · by_cases e : i = H.length
    · subst e; rw [Ren.set_same] at h1; cases h1; rw [hb]; exact hr.base id r ob hid ho hown
    · rw [Ren.set_other e] at h1
      rw [hget i e (by have := hr.dom _ _ h1; omega)] at h2
      by_cases e2 : i = id
      · subst e2; rw [hdead] at h2; cases h2; simp [KObj.owned] at h3
      · rw [List.getElem?_set_ne (Ne.symm e2)] at h2; exact hr.base i x o h1 h2 h3
  · intro i i' x x' o o2 h1 h1' h2 h2' h3 h3' hne
    have other : ∀ j y p, j ≠ H.length → ρ.set H.length r' j = some y → (H.set id KObj.dead ++ [ob'])[j]? = some p → p.alive = true → j ≠ id ∧ ρ j = some y ∧ H[j]? = some p := by
      intro j y p hj g1 g2 g3
      rw [Ren.set_other hj] at g1
      rw [hget j hj (by have := hr.dom _ _ g1; omega)] at g2
      by_cases e2 : j = id
      · subst e2; rw [hdead] at g2; cases g2; simp [KObj.alive] at g3
      · rw [List.getElem?_set_ne (Ne.symm e2)] at g2; exact ⟨e2, g1, g2⟩
    have halive : o.alive = true := by cases o <;> first | rfl | simp [KObj.owned] at h3
    by_cases e : i = H.length
    · subst e
      rw [Ren.set_same] at h1; cases h1
      obtain ⟨g1, g2, g3⟩ := other i' x' o2 (Ne.symm hne) h1' h2' h3'
      rw [hb]
      exact (hsep i' x' o2 g1 g2 g3 h3').symm
    · obtain ⟨g1, g2, g3⟩ := other i x o e h1 h2 halive
      by_cases e' : i' = H.length
      · subst e'
        rw [Ren.set_same] at h1'; cases h1'
        rw [hb]
        exact hsep i x o g1 g2 g3 halive
      · obtain ⟨g4, g5, g6⟩ := other i' x' o2 e' h1' h2' h3'
        exact hr.sep i i' x x' o o2 g2 g5 g3 g6 h3 h3' hne
  · by_cases e : i = H.length
    · omega
    · rw [Ren.set_other e, h2] at h1; cases h1
  · rw [List.getElem?_append_left (by simp; omega)]
    exact List.getElem?_set_ne (fun (e : id = i) => h2 (by subst e; exact hM h1))
  · obtain ⟨i, x, o, h3, h4, h5, h6⟩ := h2
    by_cases e : i = H.length
    · subst e; rw [Ren.set_same] at h3; cases h3; exact ⟨id, r, ob, hid, ho, hown, by rw [← hb]; exact h6⟩
    · rw [Ren.set_other e] at h3
      rw [hget i e (by have := hr.dom _ _ h3; omega)] at h4
      by_cases e2 : i = id
      · subst e2; rw [hdead] at h4; cases h4; simp [KObj.owned] at h5
      · rw [List.getElem?_set_ne (Ne.symm e2)] at h4; exact ⟨i, x, o, h3, h4, h5, h6⟩
end Go.K
/- Store, append, copy. No condition. -/
namespace Go.K
set_option linter.unusedSimpArgs false
open Go
set_option linter.unusedVariables false
variable {P : Program} {w : World} {ρ : Ren} {H : Heap}

theorem setl_get (vs : List Value) : ∀ (l : List Value) (k i : Nat), k + vs.length ≤ l.length → (setl l k vs)[i]? = if k ≤ i ∧ i < k + vs.length then vs[i - k]? else l[i]? := by
  induction vs with
  | nil => intro l k i h; simp [setl]; intro h1 h2; omega
  | cons v vs ih =>
    intro l k i h
    simp only [setl]
    rw [ih _ _ _ (by simp at h ⊢; omega)]
    simp at h
    by_cases h1 : i = k
    · subst h1
      rw [if_neg (by omega), if_pos (by simp)]
      rw [List.getElem?_set_self (by omega)]
      simp
    · rw [List.getElem?_set_ne (Ne.symm h1)]
      by_cases h2 : k + 1 ≤ i ∧ i < k + 1 + vs.length
      · rw [if_pos h2, if_pos (by simp; omega)]
        rw [show i - k = (i - (k + 1)) + 1 by omega]
        simp
      · rw [if_neg h2, if_neg (by simp; omega)]

/-- Rows of cells, one a shifted part of the other; the same cells written in both. -/
theorem rows_setl {cs vs vs' : List Value} {cs' : Array Value} {s off : Nat} (h : ∀ (i : Nat) (v : Value), cs[i]? = some v → ∃ v' : Value, cs'[i + s]? = some v' ∧ VR ρ v v')
    (hv : VRl ρ vs vs') (hle : off + vs.length ≤ cs.length) (hle' : off + s + vs'.length ≤ cs'.size) :
    ∀ (i : Nat) (v : Value), (setl cs off vs)[i]? = some v → ∃ v' : Value, (⟨setl cs'.toList (off + s) vs'⟩ : Array Value)[i + s]? = some v' ∧ VR ρ v v' := by
  intro i v hi
  rw [setl_get _ _ _ _ hle] at hi
  have e : (⟨setl cs'.toList (off + s) vs'⟩ : Array Value)[i + s]? = (setl cs'.toList (off + s) vs')[i + s]? := by simp
  rw [e, setl_get _ _ _ _ (by simpa using hle')]
  have hl := hv.1
  split at hi
  · rename_i hc
    rw [if_pos (by omega)]
    obtain ⟨v', h1, h2⟩ := hv.get hi
    exact ⟨v', by rw [show i + s - (off + s) = i - off by omega]; exact h1, h2⟩
  · rename_i hc
    rw [if_neg (by omega)]
    obtain ⟨v', h1, h2⟩ := h i v hi
    exact ⟨v', by simpa using h1, h2⟩

theorem kstore_sim {B base : Nat} {M : List Nat} {t : TypeId} {a a' x x' : Value} {H' : Heap} {wr : List Nat} (h : kstore P t a x H = some (H', wr)) (hr : Rel P B ρ H w) (ha : VR ρ a a') (hx : VR ρ x x')
    (hM : ∀ id ∈ wr, id < base → id ∈ M) : ∃ w', (Instr.storeAt t a' x').run P w = .ok () w' ∧ Post P B base M ρ H w ρ H' w' := by
  unfold kstore at h
  split at h
  · rename_i id off
    split at h
    · rename_i z cs hid
      cases hn : ksize P t with
      | none => simp [hn] at h
      | some n =>
        simp only [hn] at h
        split at h
        · rename_i hc
          obtain ⟨c1, c2, c3⟩ := hc
          cases h
          cases ha with
          | @ptr _ _ r hρ =>
            obtain ⟨e1, e2, cs', ty, fz, hb, hnz, hfz, hcs⟩ := hr.obj id r _ hρ hid
            obtain rfl : fz = (0, 0) := hfz rfl
            have hxc := hx.cells (nt_of_one c3)
            have hxl : x'.cells.toList.length = n := by rw [← hxc.1]; exact c1
            have hle' : off + r.s + n ≤ cs'.size ∨ n = 0 := rows_extract hcs c2
            rcases Nat.eq_zero_or_pos n with h0 | h0
            · subst h0
              have hx0 : x'.cells.toList = [] := List.length_eq_zero_iff.1 hxl
              have hx0' : x.cells.toList = [] := List.length_eq_zero_iff.1 c1
              refine ⟨w.putObj r.b (.cells cs' ty (0, 0)), ?_, ?_⟩
              · simp only [Instr.storeAt, Instr.sureAddr, storeVar, Sem.run_bind, Sem.run_pure, Result.andThen_ok, run_size hn]
                rw [Sem.run_ite, if_neg (by simpa using hxl)]
                simp [hx0, storeCells, putObj_self hb]
              · rw [hx0']
                refine Post.put hr hρ hid rfl (by rw [hb]; rfl) ?_ (fun hlt => hM id (by simp) hlt)
                exact ⟨e1, e2, cs', ty, (0, 0), putObj_lt hb, hnz, fun _ => rfl, hcs⟩
            · have hle2 : off + r.s + n ≤ cs'.size := by rcases hle' with h | h; exact h; omega
              refine ⟨w.putObj r.b (.cells ⟨setl cs'.toList (off + r.s) x'.cells.toList⟩ ty (0, 0)), ?_, Post.put hr hρ hid rfl (by rw [hb]; rfl) ?_ (fun hlt => hM id (by simp) hlt)⟩
              · simp only [Instr.storeAt, Instr.sureAddr, storeVar, Sem.run_bind, Sem.run_pure, Result.andThen_ok, run_size hn]
                rw [Sem.run_ite, if_neg (by have : x'.cells.size = n := by simpa using hxl
                                            simp [this])]
                have hrun := run_storeCells (P := P) (b := r.b) (off := off + r.s) x'.cells.toList 0 cs' w hb (VRl.oneCell hxc c3) (by rw [hxl]; omega)
                simpa using hrun
              · refine ⟨e1, e2, _, ty, (0, 0), putObj_lt hb, by rw [← hnz]; simp [setl_length], fun _ => rfl, ?_⟩
                exact rows_setl hcs hxc (by omega) (by omega)
        · simp at h
    · simp at h
  · simp at h


theorem run_append_room' (t tx ty e : TypeId) (i : TypeInfo) (ht : P.underlying t = some (.slice e)) (hi : P.info? e = some i) (b off sLen sCap : Nat) (x : Value) (n : Nat) (news : List Value) (hs : Src P i.size tx x n news w)
    (hroom : sLen + n ≤ sCap) {cs : Array Value} {ety : TypeId} (hb : w.heap[b]? = some (.cells cs ety (0, 0))) (hle : off + sLen * i.size + news.length ≤ cs.size) :
    (Builtin.append_ #[t, tx] ty #[.slice (some ⟨b, off, none⟩) sLen sCap, x]).run P w = .ok (.slice (some ⟨b, off, none⟩) (sLen + n) sCap) (w.putObj b (.cells ⟨setl cs.toList (off + sLen * i.size) news⟩ ety (0, 0))) := by
  have hst := run_storeCells (P := P) (off := off + sLen * i.size) news 0 cs w hb (by rw [List.all_eq_true]; exact hs.one) (by simpa using hle)
  simp only [Nat.add_zero] at hst
  rcases hs.kind with ⟨e', hk⟩ | hk <;> simp [Builtin.append_, run_underlying ht, run_underlying hk, sizeOf, typeInfo, hi, hs.len, hroom, hs.cells, addr_add, hst]

theorem rel_at {B : Nat} (hr : Rel P B ρ H w) (id : Nat) : ObjAt ρ H w id := fun r o h1 h2 => hr.obj id r o h1 h2

theorem kappend_sim {B base : Nat} {M : List Nat} {t u : TypeId} {s s' x x' v : Value} {H' : Heap} {wr : List Nat} (h : kappend P t s x H = some (v, H', wr)) (hu : ∃ e, P.underlying u = some (.slice e)) (hr : Rel P B ρ H w)
    (hs : VR ρ s s') (hx : VR ρ x x') (hM : ∀ id ∈ wr, id < base → id ∈ M) (hob : base ≤ H.length) (ty : TypeId) :
    ∃ v' w' ρ', (Builtin.append_ #[t, u] ty #[s', x']).run P w = .ok v' w' ∧ VR ρ' v v' ∧ Post P B base M ρ H w ρ' H' w' := by
  obtain ⟨e0, hu⟩ := hu
  unfold kappend at h
  split at h
  · rename_i el sb len cap xb m xc hut
    split at h
    · rename_i n by_ hsz hby
      have hsz' : ksize P el = some (n + 1) := hsz
      obtain ⟨i, hi, hisz, hir⟩ := run_info hsz' w
      have hib : i.bytes = by_ := by
        unfold kbytes at hby; rw [hi] at hby; simpa using hby
      split at h
      · rename_i hbd
        obtain ⟨hb1, hb2, hb3⟩ := hbd
        have hneed : len + m ≤ 2 ^ 44 := Nat.le_trans (Nat.le_mul_of_pos_right _ hb2) hb1
        -- the appended slice
        obtain ⟨x'l, x'c, hx'⟩ : ∃ a c, x' = .slice a m c := by cases hx <;> exact ⟨_, _, rfl⟩
        obtain ⟨s'l, s'c, hs', hsc⟩ : ∃ a c, s' = .slice a len c ∧ cap ≤ c := by
          cases hs with
          | sliceNil => exact ⟨_, _, rfl, Nat.le_refl _⟩
          | slice _ _ hc _ => exact ⟨_, _, rfl, hc⟩
          | slice0 => exact ⟨_, _, rfl, Nat.le_refl _⟩
          | sliceE => exact ⟨_, _, rfl, Nat.le_refl _⟩
          | sliceQn => exact ⟨_, _, rfl, Nat.le_refl _⟩
          | sliceQe => exact ⟨_, _, rfl, Nat.le_refl _⟩
          | sliceQ _ _ _ hc _ => exact ⟨_, _, rfl, hc⟩
          | sliceRe => exact ⟨_, _, rfl, Nat.zero_le _⟩
          | sliceR _ _ _ hc _ => exact ⟨_, _, rfl, hc⟩
        split at h
        · rename_i hm0
          subst hm0
          cases h
          have hlc : len ≤ s'c := by
            cases hs with
            | sliceNil => omega
            | slice _ hl hc _ => cases hs'; omega
            | slice0 => omega
            | sliceE => omega
            | sliceQn => omega
            | sliceQe => omega
            | sliceQ _ _ hl hc _ => cases hs'; omega
            | sliceRe => omega
            | sliceR _ _ hl hc _ => cases hs'; omega
          have hx0 : ∀ w : World, (Builtin.firstCells (n + 1) 0 x').run P w = .ok #[] w := by
            intro w; rw [hx']; cases x'l <;> simp [Builtin.firstCells, loadCells, loadCellsFrom]
          refine ⟨s', w, ρ, ?_, hs, Post.refl hr⟩
          rw [hs', hx']
          rw [hx'] at hx0
          cases s'l <;> simp [Builtin.append_, run_und hut, run_und hu, run_size hsz', Builtin.lenOf, hlc, hx0, storeCells]
        · rename_i hm0
          cases hold : kcells P (n + 1) len (.slice sb len cap) H with
          | none => simp [hold] at h
          | some old =>
            cases hnew : kcells P (n + 1) m (.slice xb m xc) H with
            | none => simp [hold, hnew] at h
            | some new =>
              cases hz : kzero P el with
              | none => simp [hold, hnew, hz] at h
              | some z =>
                simp only [hold, hnew, hz] at h
                split at h
                · rename_i hzl
                  obtain ⟨hzl, hone⟩ := hzl
                  obtain ⟨hzr, hzc⟩ := run_kzero hz w
                  have hiz : i.zero = some z := by
                    simp [zeroValue, typeInfo, hi] at hzr
                    cases hq : i.zero with
                    | none => simp [hq] at hzr
                    | some z' => simp [hq] at hzr; rw [hzr]
                  obtain ⟨new', hn1, hn2⟩ := kcells_sim (w := w) hnew hx (rel_at hr)
                  obtain ⟨new2, hn3, hn4⟩ := kcells_sim (w := w.drew) hnew hx (rel_at hr.drew)
                  obtain ⟨old', ho1, ho2⟩ := kcells_sim (w := w.drew) hold hs (rel_at hr.drew)
                  have hnl : ∀ {k : Nat} {y : Value} {c : List Value}, kcells P (n + 1) k y H = some c → c.length = k * (n + 1) := by
                    intro k y c hc
                    unfold kcells at hc
                    split at hc
                    · split at hc
                      · rename_i h0; cases hc; simp [h0]
                      · simp at hc
                    · split at hc
                      · split at hc
                        · rename_i hle; cases hc; simp; omega
                        · simp at hc
                      · simp at hc
                    · simp at hc
                  have hsame : new2 = new' := by
                    have : ∀ (k : Nat) (y : Value) (w : World) (c : Array Value), (Builtin.firstCells (n + 1) k y).run P w = .ok c w → (Builtin.firstCells (n + 1) k y).run P w.drew = .ok c w.drew := by
                      intro k y w c hc
                      unfold Builtin.firstCells at hc ⊢
                      split at hc
                      · rename_i a _ _
                        revert hc
                        unfold loadCells
                        have gen : ∀ (k i : Nat) (acc : Array Value), (loadCellsFrom a i k acc).run P w = .ok c w → (loadCellsFrom a i k acc).run P w.drew = .ok c w.drew := by
                          intro k
                          induction k with
                          | zero => intro i acc hq; simp [loadCellsFrom] at hq ⊢; exact hq
                          | succ k ih =>
                            intro i acc hq
                            simp only [loadCellsFrom, Sem.run_bind, run_load] at hq ⊢
                            have hcd : w.drew.cell? (a.add i) = w.cell? (a.add i) := rfl
                            rw [hcd]
                            cases hce : w.cell? (a.add i) with
                            | some v => rw [hce] at hq; simp only [Result.andThen_ok] at hq ⊢; exact ih _ _ hq
                            | none =>
                              rw [hce] at hq
                              cases hf : w.farLoad P (a.add i) (Mode.plain == Mode.atomic) with
                              | error e => simp [hf] at hq
                              | ok p =>
                                have hfd : w.drew.farLoad P (a.add i) (Mode.plain == Mode.atomic) = w.farLoad P (a.add i) (Mode.plain == Mode.atomic) := rfl
                                rw [hfd, hf]
                                rw [hf] at hq
                                simp only [Result.andThen_ok] at hq ⊢; exact ih _ _ hq
                        exact gen _ _ _
                      · simp at hc ⊢; exact hc
                      · simp at hc ⊢; exact hc
                      · simp at hc
                    have h1 := this _ _ _ _ hn1
                    rw [hn3] at h1
                    simpa using h1
                  subst hsame
                  have hnewl := hnl hnew
                  have holdl := hnl hold
                  have hl1 := hn2.1
                  have hl2 := ho2.1
                  have hsrc : Src P i.size u x' m new2.toList w := by
                    refine ⟨.inl ⟨e0, hu⟩, fun w' => by rw [hx']; rfl, by rw [hisz]; simpa using hn1, by rw [hisz]; simpa using hn3, by rw [hisz]; omega, ?_⟩
                    have := VRl.oneCell hn2 hone
                    rw [List.all_eq_true] at this
                    exact this
                  -- the new row that growth makes
                  have grow : ∀ (bs : Option Addr) (c' : Nat), s' = .slice bs len c' → c' < len + m → ∀ (H1 : Heap), H1.length = H.length → Post P B base M ρ H w ρ H1 w →
                      ∃ v' w' ρ', (Builtin.append_ #[t, u] ty #[s', x']).run P w = .ok v' w' ∧ VR ρ' (.slice (some ⟨H.length, 0, none⟩) (len + m) (len + m)) v' ∧ Post P B base M ρ H w ρ' (H1 ++ [.cells true (n + 1) (old ++ new)]) w' := by
                    intro bs c' hbs hlt H1 hH1 hp
                    have hnc := nextslicecap_le (old := c') (need := len + m) hlt
                    have hg := run_append_grow_src w t u ty el i z hut hi hiz bs len c' old'.toList (by rw [hisz, ← hbs]; simpa using ho1) x' m new2.toList hsrc hlt (by omega) (by
                      rw [hib]
                      have h1 : Builtin.nextslicecap (len + m) c' * by_ ≤ (2 * (len + m)) * by_ := Nat.mul_le_mul_right _ hnc
                      rw [Nat.mul_assoc] at h1
                      omega)
                    have hge := grownCap_ge w (len + m) c' el
                    have hrow : VRl ρ (old ++ new) (old'.toList ++ new2.toList) := VRl.append ho2 hn2
                    have hzs : z.cells.size = n + 1 := by simpa using hzl
                    have hd := hp.trans (Post.drew (base := base) (M := M) hp.rel)
                    have hcs : ((old'.toList ++ new2.toList).toArray ++ Builtin.zeroCells z.cells (grownCap w (len + m) c' el - (len + m))).size = grownCap w (len + m) c' el * (n + 1) := by
                      simp only [Array.size_append, List.size_toArray, List.length_append, size_zeroCells, hzs]
                      rw [← hl2, ← hl1, holdl, hnewl, ← Nat.add_mul, ← Nat.add_mul]
                      congr 1; omega
                    refine ⟨_, _, ρ.set H.length ⟨w.heap.size, 0, grownCap w (len + m) c' el * (n + 1), n + 1, true⟩, by rw [hbs]; exact hg, ?_, ?_⟩
                    · have := VR.slice (ρ := ρ.set H.length ⟨w.heap.size, 0, grownCap w (len + m) c' el * (n + 1), n + 1, true⟩) (id := H.length) (o := 0) (len := len + m) (cap := len + m) (cap' := grownCap w (len + m) c' el) (Ren.set_same _ _ _) (Nat.le_refl _) hge (fun _ _ => by simp)
                      simpa using this
                    · refine hd.trans ?_
                      have hno : ρ H.length = none := by
                        cases hq : ρ H.length with
                        | none => rfl
                        | some r => exact absurd (hr.dom _ _ hq) (Nat.lt_irrefl _)
                      have hnew := ObjRel.newCells' (ρ := ρ) (w := w.drew) (id := H.length) (z := n + 1) (cs := old ++ new) (cs' := (old'.toList ++ new2.toList).toArray ++ Builtin.zeroCells z.cells (grownCap w (len + m) c' el - (len + m))) (ty := el) hno (by
                        intro k v hv
                        obtain ⟨v', g1, g2⟩ := hrow.get hv
                        refine ⟨v', ?_, g2⟩
                        have hk := (List.getElem?_eq_some_iff.1 g1).1
                        rw [Array.getElem?_append_left (by simpa using hk)]
                        simpa using g1)
                      rw [hcs] at hnew
                      have := Post.alloc (base := base) (M := M) hd.rel (ri := ⟨w.heap.size, 0, grownCap w (len + m) c' el * (n + 1), n + 1, true⟩) rfl (by rw [hH1]; exact hob) (by rw [hH1]; exact hnew)
                      rw [hH1] at this
                      exact this
                  have hq0 : ∀ {id off : Nat}, len = 0 → sb = some ⟨id, off, some 1⟩ → ∀ (bs : Option Addr), s' = .slice bs 0 0 → ∃ v' w' ρ', (Builtin.append_ #[t, u] ty #[s', x']).run P w = .ok v' w' ∧ VR ρ' v v' ∧ Post P B base M ρ H w ρ' H' w' := by
                    intro id off h0 hsb bs hbs
                    rw [hsb] at h
                    simp only at h
                    split at h
                    · rename_i zz cs hid
                      split at h
                      · cases h
                        exact grow bs 0 (by rw [hbs, h0]) (by omega) (H.set id .dead) (by simp) (Post.kill' hr hid rfl (fun hlt => hM id (by simp) hlt))
                      · simp at h
                    · simp at h
                  cases hs with
                  | sliceE => simp at h
                  | sliceQn => exact hq0 rfl rfl none rfl
                  | sliceQe => exact hq0 rfl rfl _ rfl
                  | sliceRe => simp at h
                  | sliceR => simp at h
                  | sliceNil =>
                    cases h
                    exact grow none 0 rfl (by omega) H rfl (Post.refl hr)
                  | @slice id off r _ _ c' hρ hl hc hroom =>
                    simp only at h
                    split at h
                    · rename_i zz cs hid
                      split at h
                      · rename_i hzz
                        subst hzz
                        cases h
                        have hMid : id < base → id ∈ M := fun hlt => hM id (by simp) hlt
                        rcases Nat.lt_or_ge c' (len + m) with hlt | hge
                        · exact grow _ c' rfl hlt (H.set id .dead) (by simp) (Post.kill hr hρ hid rfl hMid)
                        · obtain ⟨e1, e2, cs', ety, fz, hb, hnz, hfz, hcs⟩ := hr.obj id r _ hρ hid
                          obtain rfl : fz = (0, 0) := hfz rfl
                          have hrm := hroom e1.symm (by rw [← e2]; omega)
                          rw [← e2] at hrm
                          have hmul : (len + m) * (n + 1) ≤ c' * (n + 1) := Nat.mul_le_mul_right _ hge
                          rw [Nat.add_mul] at hmul
                          have hn2l : new2.toList.length = m * (n + 1) := by rw [← hl1]; exact hnewl
                          have hrun := run_append_room' (w := w) t u ty el i hut hi r.b (off + r.s) len c' x' m new2.toList hsrc hge hb (by rw [hisz]; omega)
                          rw [hisz] at hrun
                          refine ⟨_, _, ρ.set H.length ⟨r.b, off + r.s, r.n, r.z, true⟩, hrun, ?_, Post.move hr hρ hid rfl rfl hob ?_ hMid⟩
                          · have := VR.slice (ρ := ρ.set H.length ⟨r.b, off + r.s, r.n, r.z, true⟩) (id := H.length) (o := 0) (len := len + m) (cap := len + m) (cap' := c') (Ren.set_same _ _ _) (Nat.le_refl _) hge (fun _ _ => by
                              simp only
                              rw [← e2]
                              omega)
                            simpa using this
                          · have hno : ρ H.length = none := by
                              cases hq : ρ H.length with
                              | none => rfl
                              | some r => exact absurd (hr.dom _ _ hq) (Nat.lt_irrefl _)
                            refine ⟨rfl, e2, _, ety, (0, 0), putObj_lt hb, by simp [setl_length]; exact hnz, fun _ => rfl, ?_⟩
                            intro k v hv
                            have hk := (List.getElem?_eq_some_iff.1 hv).1
                            simp only [List.length_append, holdl, hnewl] at hk
                            have e : (⟨setl cs'.toList (off + r.s + len * (n + 1)) new2.toList⟩ : Array Value)[k + (off + r.s)]? = (setl cs'.toList (off + r.s + len * (n + 1)) new2.toList)[k + (off + r.s)]? := by simp
                            rw [e, setl_get _ _ _ _ (by rw [hn2l]; simp only [Array.length_toList]; omega)]
                            rcases Nat.lt_or_ge k (len * (n + 1)) with hk1 | hk1
                            · rw [if_neg (by omega)]
                              rw [List.getElem?_append_left (by rw [holdl]; exact hk1)] at hv
                              have hold2 := hold
                              unfold kcells at hold2
                              simp only [deq, hid] at hold2
                              split at hold2
                              · cases hold2
                                rw [List.getElem?_take, if_pos hk1, List.getElem?_drop] at hv
                                obtain ⟨v', g1, g2⟩ := hcs _ _ hv
                                exact ⟨v', by rw [show k + (off + r.s) = off + k + r.s by omega]; simpa using g1, g2.mono (Ren.le_set hno)⟩
                              · simp at hold2
                            · rw [if_pos ⟨by omega, by rw [hn2l]; omega⟩]
                              rw [List.getElem?_append_right (by rw [holdl]; exact hk1), holdl] at hv
                              obtain ⟨v', g1, g2⟩ := hn2.get hv
                              exact ⟨v', by rw [show k + (off + r.s) - (off + r.s + len * (n + 1)) = k - len * (n + 1) by omega]; exact g1, g2.mono (Ren.le_set hno)⟩
                      · simp at h
                    · simp at h
                  | @sliceQ id off r _ _ c' hρ hpos hl hc hroom =>
                    simp only at h
                    split at h
                    · rename_i zz cs hid
                      split at h
                      · rename_i hzz
                        subst hzz
                        cases h
                        have hMid : id < base → id ∈ M := fun hlt => hM id (by simp) hlt
                        rcases Nat.lt_or_ge c' (len + m) with hlt | hge
                        · exact grow _ c' rfl hlt (H.set id .dead) (by simp) (Post.kill hr hρ hid rfl hMid)
                        · obtain ⟨e1, e2, cs', ety, fz, hb, hnz, hfz, hcs⟩ := hr.obj id r _ hρ hid
                          obtain rfl : fz = (0, 0) := hfz rfl
                          have hrm := hroom e1.symm (by rw [← e2]; omega)
                          rw [← e2] at hrm
                          have hmul : (len + m) * (n + 1) ≤ c' * (n + 1) := Nat.mul_le_mul_right _ hge
                          rw [Nat.add_mul] at hmul
                          have hn2l : new2.toList.length = m * (n + 1) := by rw [← hl1]; exact hnewl
                          have hrun := run_append_room' (w := w) t u ty el i hut hi r.b (off + r.s) len c' x' m new2.toList hsrc hge hb (by rw [hisz]; omega)
                          rw [hisz] at hrun
                          refine ⟨_, _, ρ.set H.length ⟨r.b, off + r.s, r.n, r.z, true⟩, hrun, ?_, Post.move hr hρ hid rfl rfl hob ?_ hMid⟩
                          · have := VR.slice (ρ := ρ.set H.length ⟨r.b, off + r.s, r.n, r.z, true⟩) (id := H.length) (o := 0) (len := len + m) (cap := len + m) (cap' := c') (Ren.set_same _ _ _) (Nat.le_refl _) hge (fun _ _ => by
                              simp only
                              rw [← e2]
                              omega)
                            simpa using this
                          · have hno : ρ H.length = none := by
                              cases hq : ρ H.length with
                              | none => rfl
                              | some r => exact absurd (hr.dom _ _ hq) (Nat.lt_irrefl _)
                            refine ⟨rfl, e2, _, ety, (0, 0), putObj_lt hb, by simp [setl_length]; exact hnz, fun _ => rfl, ?_⟩
                            intro k v hv
                            have hk := (List.getElem?_eq_some_iff.1 hv).1
                            simp only [List.length_append, holdl, hnewl] at hk
                            have e : (⟨setl cs'.toList (off + r.s + len * (n + 1)) new2.toList⟩ : Array Value)[k + (off + r.s)]? = (setl cs'.toList (off + r.s + len * (n + 1)) new2.toList)[k + (off + r.s)]? := by simp
                            rw [e, setl_get _ _ _ _ (by rw [hn2l]; simp only [Array.length_toList]; omega)]
                            rcases Nat.lt_or_ge k (len * (n + 1)) with hk1 | hk1
                            · rw [if_neg (by omega)]
                              rw [List.getElem?_append_left (by rw [holdl]; exact hk1)] at hv
                              have hold2 := hold
                              unfold kcells at hold2
                              simp only [deq, hid] at hold2
                              split at hold2
                              · cases hold2
                                rw [List.getElem?_take, if_pos hk1, List.getElem?_drop] at hv
                                obtain ⟨v', g1, g2⟩ := hcs _ _ hv
                                exact ⟨v', by rw [show k + (off + r.s) = off + k + r.s by omega]; simpa using g1, g2.mono (Ren.le_set hno)⟩
                              · simp at hold2
                            · rw [if_pos ⟨by omega, by rw [hn2l]; omega⟩]
                              rw [List.getElem?_append_right (by rw [holdl]; exact hk1), holdl] at hv
                              obtain ⟨v', g1, g2⟩ := hn2.get hv
                              exact ⟨v', by rw [show k + (off + r.s) - (off + r.s + len * (n + 1)) = k - len * (n + 1) by omega]; exact g1, g2.mono (Ren.le_set hno)⟩
                      · simp at h
                    · simp at h
                  | @slice0 id off r o' hρ =>
                    simp only at h
                    split at h
                    · rename_i zz cs hid
                      split at h
                      · cases h
                        exact grow _ 0 rfl (by omega) (H.set id .dead) (by simp) (Post.kill hr hρ hid rfl (fun hlt => hM id (by simp) hlt))
                      · simp at h
                    · simp at h
                · simp at h
      · simp at h
    · simp at h
  · simp at h
end Go.K
/- All operations that write. No condition. -/
namespace Go.K
set_option linter.unusedSimpArgs false
open Go
set_option linter.unusedVariables false
variable {P : Program} {w : World} {ρ : Ren} {H : Heap}

theorem kcells_length {n k : Nat} {y : Value} {c : List Value} (hc : kcells P n k y H = some c) : c.length = k * n := by
  unfold kcells at hc
  split at hc
  · split at hc
    · rename_i h0; cases hc; simp [h0]
    · simp at hc
  · split at hc
    · split at hc
      · rename_i hle; cases hc; simp; omega
      · simp at hc
    · simp at hc
  · simp at hc

theorem kcopy_sim {B base : Nat} {M : List Nat} {t : TypeId} {d d' x x' v : Value} {H' : Heap} {wr : List Nat} (h : kcopy P t d x H = some (v, H', wr)) (hr : Rel P B ρ H w)
    (hd : VR ρ d d') (hx : VR ρ x x') (hM : ∀ id ∈ wr, id < base → id ∈ M) (ts : List TypeId) (ty : TypeId) :
    ∃ v' w', (Builtin.copy_ ⟨t :: ts⟩ ty #[d', x']).run P w = .ok v' w' ∧ VR ρ v v' ∧ Post P B base M ρ H w ρ H' w' := by
  unfold kcopy at h
  split at h
  · rename_i el sb len cap xb m xc hut
    cases hn : ksize P el with
    | none => simp [hn] at h
    | some n =>
      simp only [hn] at h
      cases hc : kcells P n (min m len) (.slice xb m xc) H with
      | none => simp [hc] at h
      | some new =>
        simp only [hc] at h
        obtain ⟨new', hn1, hn2⟩ := kcells_sim (w := w) hc hx (rel_at hr)
        obtain ⟨x'l, x'c, hx'⟩ : ∃ a c, x' = .slice a m c := by cases hx <;> exact ⟨_, _, rfl⟩
        have hlen : ∀ w : World, (Builtin.lenOf x').run P w = .ok m w := by intro w; rw [hx']; rfl
        have start : ∀ (b' : Option Addr) (c' : Nat), (Builtin.copy_ ⟨t :: ts⟩ ty #[.slice b' len c', x']).run P w =
            ((match b' with | some a => storeCells a new'.toList | none => pure () : Sem Unit).run P w).andThen fun _ w' => .ok (goInt (min m len : Nat)) w' := by
          intro b' c'
          have hm : Nat.min m len = min m len := rfl
          simp only [Builtin.copy_, List.getElem?_toArray, List.getElem?_cons_zero, List.getElem?_cons_succ, Sem.run_bind, run_und hut, Result.andThen_ok, hlen, run_size hn, hm, hn1]
          cases b' <;> simp
        cases hd with
        | sliceE => simp at h
        | sliceQn => simp at h
        | sliceQe => simp at h
        | sliceQ => simp at h
        | sliceRe => simp at h
        | sliceR => simp at h
        | sliceNil =>
          simp only at h
          cases h
          exact ⟨_, w, start none 0, .int _ _, Post.refl hr⟩
        | @slice id off r _ _ c' hρ hl hcc hroom =>
          simp only at h
          split at h
          · rename_i z cs hid
            split at h
            · rename_i hcond
              obtain ⟨h1, h2⟩ := hcond
              cases h
              obtain ⟨e1, e2, cs', ety, fz, hb, hnz, hfz, hcs⟩ := hr.obj id r _ hρ hid
              obtain rfl : fz = (0, 0) := hfz rfl
              have hnl := kcells_length hc
              have hl1 := hn2.1
              rcases Nat.eq_zero_or_pos (min m len * n) with h0 | h0
              · have hnew0 : new = [] := List.length_eq_zero_iff.1 (by omega)
                have hnew0' : new'.toList = [] := List.length_eq_zero_iff.1 (by omega)
                refine ⟨_, w.putObj r.b (.cells cs' ety (0, 0)), ?_, .int _ _, ?_⟩
                · rw [start]; simp [hnew0', storeCells, putObj_self hb, goInt]
                · rw [hnew0]
                  exact Post.put hr hρ hid rfl (by rw [hb]; rfl) ⟨e1, e2, cs', ety, (0, 0), putObj_lt hb, hnz, fun _ => rfl, hcs⟩ (fun hlt => hM id (by simp) hlt)
              · have hle2 : off + r.s + min m len * n ≤ cs'.size := by
                  rcases rows_extract hcs h1 with h | h
                  · exact h
                  · omega
                have hrun := run_storeCells (P := P) (b := r.b) (off := off + r.s) new'.toList 0 cs' w hb (VRl.oneCell hn2 h2) (by rw [← hl1, hnl]; omega)
                refine ⟨_, w.putObj r.b (.cells ⟨setl cs'.toList (off + r.s) new'.toList⟩ ety (0, 0)), ?_, .int _ _, Post.put hr hρ hid rfl (by rw [hb]; rfl) ?_ (fun hlt => hM id (by simp) hlt)⟩
                · rw [start]
                  simp only [hrun, Result.andThen_ok]
                  simp [goInt]
                · refine ⟨e1, e2, _, ety, (0, 0), putObj_lt hb, by rw [← hnz]; simp [setl_length], fun _ => rfl, ?_⟩
                  exact rows_setl hcs hn2 (by omega) (by rw [← hl1, hnl]; omega)
            · simp at h
          · simp at h
        | @slice0 id off r o' hρ =>
          simp only at h
          split at h
          · rename_i z cs hid
            split at h
            · rename_i hcond
              cases h
              obtain ⟨e1, e2, cs', ety, fz, hb, hnz, hfz, hcs⟩ := hr.obj id r _ hρ hid
              obtain rfl : fz = (0, 0) := hfz rfl
              have hnl := kcells_length hc
              have hl1 := hn2.1
              have hnew0 : new = [] := List.length_eq_zero_iff.1 (by simp at hnl; simpa using hnl)
              have hnew0' : new'.toList = [] := List.length_eq_zero_iff.1 (by rw [← hl1, hnew0]; rfl)
              refine ⟨_, w.putObj r.b (.cells cs' ety (0, 0)), ?_, .int _ _, ?_⟩
              · rw [start]; simp [hnew0', storeCells, putObj_self hb, goInt]
              · rw [hnew0]
                exact Post.put hr hρ hid rfl (by rw [hb]; rfl) ⟨e1, e2, cs', ety, (0, 0), putObj_lt hb, hnz, fun _ => rfl, hcs⟩ (fun hlt => hM id (by simp) hlt)
            · simp at h
          · simp at h
  · simp at h

/-- What a writing operation hands on: a value, or nothing. -/
def NextIs (r : Result Next) (v' : Value) (w' : World) : Prop := r = .ok (.value v') w' ∨ (r = .ok .skip w' ∧ v' = undef)

theorem kwrite_sim {B base : Nat} {M : List Nat} {o : Oper} {e e' : Operand → Value} {v : Value} {H' : Heap} {wr : List Nat} (h : kwrite P o.op e H = some (v, H', wr)) (he : ∀ x ∈ o.op.operands, VR ρ (e x) (e' x))
    (hr : Rel P B ρ H w) (hM : ∀ id ∈ wr, id < base → id ∈ M) (hob : base ≤ H.length) :
    ∃ v' w' ρ', NextIs ((execOp e' o).run P w) v' w' ∧ VR ρ' v v' ∧ Post P B base M ρ H w ρ' H' w' := by
  obtain ⟨dst, op, ty, pos, after, guard⟩ := o
  simp only at h he ⊢
  unfold kwrite at h
  split at h
  · rename_i t a x
    obtain ⟨⟨H1, wr1⟩, hs, hh⟩ := Option.map_eq_some_iff.1 h
    cases hh
    obtain ⟨w', h1, h2⟩ := kstore_sim hs hr (he a (by simp [Op.operands])) (he x (by simp [Op.operands])) hM
    exact ⟨undef, w', ρ, .inr ⟨by simp [execOp, h1], rfl⟩, VR.undef ρ, h2⟩
  · rename_i s x t u
    split at h
    · rename_i el hu
      obtain ⟨v', w', ρ', h1, h2, h3⟩ := kappend_sim h ⟨el, hu⟩ hr (he s (by simp [Op.operands, Call.operands])) (he x (by simp [Op.operands, Call.operands])) hM hob ty
      exact ⟨v', w', ρ', .inl (by simp [execOp, resolve, invoke, builtin, h1]), h2, h3⟩
    · simp at h
  · rename_i d s t ts
    obtain ⟨v', w', h1, h2, h3⟩ := kcopy_sim h hr (he d (by simp [Op.operands, Call.operands])) (he s (by simp [Op.operands, Call.operands])) hM ts ty
    exact ⟨v', w', ρ, .inl (by simp [execOp, resolve, invoke, builtin, h1]), h2, h3⟩
  · simp at h
end Go.K
/- The program logic: calls, code, and their rules. No condition. -/
namespace Go.K
set_option linter.unusedSimpArgs false
open Go
set_option linter.unusedVariables false
variable {P : Program}

/-! ## Frames -/
def TR (ρ : Ren) (N : Nat) (T : Tm) (tmps : Array Value) : Prop := tmps.size = N ∧ ∀ t, t < N → VR ρ (T t) (tmps.getD t undef)
theorem TR.mono {ρ ρ' : Ren} (hle : Ren.le ρ ρ') {N : Nat} {T : Tm} {tmps : Array Value} (h : TR ρ N T tmps) : TR ρ' N T tmps := ⟨h.1, fun t ht => (h.2 t ht).mono hle⟩
theorem TR.put {ρ : Ren} {N : Nat} {T : Tm} {a : Act} (h : TR ρ N T a.tmps) {dst : Option Nat} {v v' : Value} (hd : ∀ d, dst = some d → d < N) (hv : VR ρ v v') : TR ρ N (put T dst v) (a.put dst v').tmps := by
  cases dst with
  | none => exact h
  | some d =>
    refine ⟨by simp [Act.put, h.1], fun t ht => ?_⟩
    by_cases e : t = d
    · subst e
      have : t < a.tmps.size := by rw [h.1]; exact ht
      simpa [K.put, upd, Act.put, this] using hv
    · have e' : d ≠ t := Ne.symm e
      have := h.2 t ht
      simpa [K.put, upd, e, Act.put, Array.getElem?_setIfInBounds_ne e'] using this

/-- The marks of ranges over functions, still to be taken up at the frame's end. -/
def DOK (n0 : Nat) (ds : List Deferred) (w : World) : Prop :=
  ∃ Ds : List Nat, ds = Ds.map (fun D => ({ target := .collected D, args := #[] } : Deferred)) ∧ Ds.Pairwise (· ≠ ·) ∧ ∀ D ∈ Ds, n0 ≤ D ∧ w.heap[D]? = some (.deferred (some []))
theorem DOK.nil (n0 : Nat) (w : World) : DOK n0 [] w := ⟨[], rfl, .nil, fun _ h => by cases h⟩
theorem not_OB_of_deferred {B : Nat} {ρ : Ren} {H : Heap} {w : World} (hr : Rel P B ρ H w) {D : Nat} {x : Option (List Deferred)} (h : w.heap[D]? = some (.deferred x)) : ¬ OB ρ H D := by
  rintro ⟨id, r, o, h1, h2, h3, rfl⟩
  have := hr.obj id r o h1 h2
  cases o with
  | cells own z cs => obtain ⟨_, _, cs', ty, fz, hb, _⟩ := this; rw [h] at hb; cases hb
  | map es => obtain ⟨_, es', c, hb, _⟩ := this; rw [h] at hb; cases hb
  | loop _ _ _ _ _ _ _ => obtain ⟨_, l, hb, _⟩ := this; rw [h] at hb; cases hb
  | dead => simp [KObj.owned] at h3
theorem DOK.post {B base : Nat} {M : List Nat} {ρ ρ' : Ren} {H H' : Heap} {w w' : World} {n0 : Nat} {ds : List Deferred} (hr : Rel P B ρ H w) (h : DOK n0 ds w) (p : Post P B base M ρ H w ρ' H' w') : DOK n0 ds w' := by
  obtain ⟨Ds, h1, h2, h3⟩ := h
  refine ⟨Ds, h1, h2, fun D hD => ⟨(h3 D hD).1, ?_⟩⟩
  have hd := (h3 D hD).2
  rw [p.keep D (Array.getElem?_eq_some_iff.1 hd).1 (not_OB_of_deferred hr hd)]
  exact hd

/-! ## Calls -/
/-- A call of function f enters it (it has a Go body). -/
def Enters (P : Program) (f : FuncId) : Prop := ∀ (args : Array Value) (w : World), (callFunc f args).run P w = .ok (.enter f args) w
theorem enters_of {f : FuncId} {fn : Func} {c : Code} (hf : P.funcs[f]? = some fn) (hname : (fn.name == "runtime.NumGoroutine") = false) (hb : fn.body = some c) : Enters P f := by
  intro args w
  have h1 : fn.name ≠ "runtime.NumGoroutine" := by simpa using hname
  simp [callFunc, hf, h1, hb]

def CQ (P : Program) (B : Nat) (base : Nat) (M : List Nat) (ρ : Ren) (H : Heap) (w : World) (Q : Value → Heap → Prop) (e : Ending) (w' : World) : Prop :=
  ∃ v v' ρ' H', e = .returned v' ∧ VR ρ' v v' ∧ Post P B base M ρ H w ρ' H' w' ∧ Q v H'
def KCall (P : Program) (f : FuncId) (args : List Value) (H : Heap) (M : List Nat) (Q : Value → Heap → Prop) : Prop :=
  Enters P f ∧ ∀ (B : Nat) (ρ : Ren) (w : World) (args' : Array Value), Rel P B ρ H w → VRl ρ args args'.toList → CallsIn Fence.wide 0 P f args' w (CQ P B H.length M ρ H w Q)
theorem KCall.mono {f : FuncId} {args : List Value} {H : Heap} {M M' : List Nat} {Q Q' : Value → Heap → Prop} (h : KCall P f args H M Q) (hM : ∀ id ∈ M, id < H.length → id ∈ M') (hQ : ∀ v H', Q v H' → Q' v H') : KCall P f args H M' Q' :=
  ⟨h.1, fun B ρ w args' hr ha => (h.2 B ρ w args' hr ha).mono fun e w' ⟨v, v', ρ', H', h1, h2, h3, h4⟩ => ⟨v, v', ρ', H', h1, h2, h3.weaken (Nat.le_refl _) hM, hQ _ _ h4⟩⟩
theorem KCall.post {f : FuncId} {args : List Value} {H : Heap} {M : List Nat} {Q Q' : Value → Heap → Prop} (h : KCall P f args H M Q) (hQ : ∀ v H', Q v H' → Q' v H') : KCall P f args H M Q' := h.mono (fun _ h _ => h) hQ

def Hands (P : Program) (r : Result Next) (R : Ending → World → Prop) : Prop :=
  match r with
  | .ok (.enter f args) w' => CallsIn Fence.wide 0 P f args w' R
  | .ok (.round l f tmps assign body) w' => RoundIn Fence.wide 0 P l f tmps assign body w' R
  | _ => False
def KApp (P : Program) (fv : Value) (args : List Value) (H : Heap) (M : List Nat) (Q : Value → Heap → Prop) : Prop :=
  ∀ (B : Nat) (ρ : Ren) (w : World) (fv' : Value) (args' : Array Value), Rel P B ρ H w → VR ρ fv fv' → VRl ρ args args'.toList →
    Hands P ((do let d ← Deferred.ofValue fv' args'; invoke d.target d.args : Sem Next).run P w) (CQ P B H.length M ρ H w Q)
theorem KApp.func {f : FuncId} {first cap : Array Value} {args : List Value} {H : Heap} {M : List Nat} {Q : Value → Heap → Prop} (h : KCall P f (first.toList ++ args ++ cap.toList) H M Q) :
    KApp P (.func (.func f) first cap) args H M Q := by
  intro B ρ w fv' args' hr hf ha
  cases hf with
  | @func _ _ first' _ cap' g1 g2 g3 g4 =>
    have hrun : ((do let d ← Deferred.ofValue (.func (.func f) first' cap') args'; invoke d.target d.args : Sem Next)).run P w = .ok (.enter f (first' ++ args' ++ cap')) w := by
      simp only [Deferred.ofValue, invoke]
      exact h.1 _ w
    rw [hrun]
    refine h.2 B ρ w _ hr ?_
    rw [Array.toList_append, Array.toList_append]
    have l1 : VRl ρ first.toList first'.toList := ⟨by simpa using g1, fun i a b x y => g2 i a b (by simpa using x) (by simpa using y)⟩
    have l2 : VRl ρ cap.toList cap'.toList := ⟨by simpa using g3, fun i a b x y => g4 i a b (by simpa using x) (by simpa using y)⟩
    exact VRl.append (VRl.append l1 ha) l2
theorem KApp.mono {fv : Value} {args : List Value} {H : Heap} {M M' : List Nat} {Q Q' : Value → Heap → Prop} (h : KApp P fv args H M Q) (hM : ∀ id ∈ M, id < H.length → id ∈ M') (hQ : ∀ v H', Q v H' → Q' v H') : KApp P fv args H M' Q' := by
  intro B ρ w fv' args' hr hf ha
  have := h B ρ w fv' args' hr hf ha
  unfold Hands at *
  have key : ∀ e w', CQ P B H.length M ρ H w Q e w' → CQ P B H.length M' ρ H w Q' e w' := fun e w' ⟨v, v', ρ', H', h1, h2, h3, h4⟩ => ⟨v, v', ρ', H', h1, h2, h3.weaken (Nat.le_refl _) hM, hQ _ _ h4⟩
  split at this
  · exact CallsIn.mono this key
  · exact RoundIn.mono this key
  · exact this.elim

/-! ## Operations in their order -/
def kwanted (o : Oper) (ops : Array Oper) (T : Tm) : Bool :=
  match o.guard with
  | none => true
  | some (g, want) =>
    match (ops[g]?).bind (·.dst) with
    | some d => (match T d with | .bool b => b == want | _ => false)
    | none => false
/-- Is it known whether an operation is carried out? -/
def kknown (o : Oper) (ops : Array Oper) (T : Tm) : Bool :=
  match o.guard with
  | none => true
  | some (g, _) =>
    match (ops[g]?).bind (·.dst) with
    | some d => (match T d with | .chan _ => false | _ => true)
    | none => true
def KStep (P : Program) (base : Nat) (M : List Nat) (o : Oper) (e : Operand → Value) (H : Heap) (K : Value → Heap → Prop) : Prop :=
  match oclass o.op with
  | .pure => ∃ v rd, kpure P o.op e H = some (v, rd) ∧ K v H
  | .alloc => ∃ v ob, kalloc P o.op e H.length = some (v, ob) ∧ K v (H ++ [ob])
  | .write => ∃ v H' wr, kwrite P o.op e H = some (v, H', wr) ∧ (∀ id ∈ wr, id < base → id ∈ M) ∧ K v H'
  | .call => match o.op with
    | .call ⟨.value f, args, _⟩ => ∃ Mc, KApp P (e f) (args.toList.map e) H Mc K ∧ (∀ id ∈ Mc, id < base → id ∈ M)
    | _ => False
  | .bad => False
def KOps (P : Program) (base : Nat) (M : List Nat) (ops : Array Oper) : List Oper → Tm → Heap → (Tm → Heap → Prop) → Prop
  | [], T, H, Q => Q T H
  | o :: os, T, H, Q =>
    kknown o ops T = true ∧ if kwanted o ops T then KStep P base M o (ev T) H (fun v H' => KOps P base M ops os (put T o.dst v) H' Q)
    else KOps P base M ops os (put T o.dst undef) H Q
/-- What is asked of an operation's text: its slots lie in the frame, its constants hold no address. -/
def opOk (N G : Nat) (o : Oper) : Bool :=
  (match o.dst with | some d => decide (d < N) | none => true) &&
  o.op.operands.toList.all (fun x => match x with | .tmp t => decide (t < N) | .const v => closedV v | .global g => decide (g < G) | .func _ => true) &&
  (match o.op with | .defer _ => false | _ => true) && (match o.guard with | none => true | some _ => true)

theorem ev_sim {B N : Nat} {ρ : Ren} {H : Heap} {w : World} {T : Tm} {a : Act} (hr : Rel P B ρ H w) (hT : TR ρ N T a.tmps) {o : Oper} (ho : opOk N P.globals.size o = true) :
    ∀ x ∈ o.op.operands, VR ρ (ev T x) (a.eval x) := by
  intro x hx
  simp only [opOk, Bool.and_eq_true, List.all_eq_true] at ho
  have := ho.1.1.2 x (by simpa using hx)
  cases x with
  | tmp t => exact hT.2 t (by simpa using this)
  | const v => exact (closedV_VR (by simpa using this) : VR ρ v v)
  | global g =>
    obtain ⟨r, h1, h2, h3⟩ := hr.glob g (by simpa using this)
    have := VR.ptr (o := 0) h1
    rw [h2, h3] at this
    exact this
  | func f => exact .func rfl (by intro i v v' h; simp at h) rfl (by intro i v v' h; simp at h)
theorem wanted_sim {N : Nat} {ρ : Ren} {T : Tm} {a : Act} (hT : TR ρ N T a.tmps) {ops : Array Oper} (hops : ∀ o ∈ ops, ∀ d, o.dst = some d → d < N) (o : Oper) (hkn : kknown o ops T = true) : Region.wanted o (yielded ops a.tmps) = kwanted o ops T := by
  unfold kknown at hkn
  unfold Region.wanted kwanted yielded
  cases hg : o.guard with
  | none => rfl
  | some gw =>
    obtain ⟨g, want⟩ := gw
    simp only
    cases hd : (ops[g]?).bind (·.dst) with
    | none => rfl
    | some d =>
      obtain ⟨og, h1, h2⟩ := Option.bind_eq_some_iff.1 hd
      have hlt : d < N := hops og (Array.mem_of_getElem? h1) d h2
      have hlt' : d < a.tmps.size := by rw [hT.1]; exact hlt
      have hv := hT.2 d hlt
      have hge : a.tmps.getD d undef = a.tmps[d] := by simp [Array.getD, hlt']
      rw [hge] at hv
      simp only [Option.bind_some, Array.getElem?_eq_getElem hlt']
      generalize a.tmps[d] = q at hv
      simp only [hg, hd] at hkn
      generalize T d = p at hv hkn
      cases hv <;> first
        | rfl
        | (rename_i b; cases b <;> cases want <;> rfl)
        | (cases hkn)

def Fw (ro : Option Nat) : Fence := { Fence.wide with round := ro }
theorem semAt_exec {ro : Option Nat} {e : Operand → Value} {o : Oper} {N G : Nat} (ho : opOk N G o = true) : o.semAt ro e = execOp e o := by
  refine Oper.semAt_eq ro e o (fun c hc => ?_)
  simp only [opOk, Bool.and_eq_true] at ho
  rw [hc] at ho
  simp at ho
theorem opOk_dst {N G : Nat} {o : Oper} (ho : opOk N G o = true) : ∀ d, o.dst = some d → d < N := by
  intro d hd
  simp only [opOk, Bool.and_eq_true] at ho
  have := ho.1.1.1
  rw [hd] at this
  simpa using this

/-- One operation. -/
theorem kstep_sound {B base N : Nat} {M : List Nat} {ro : Option Nat} {o : Oper} {T : Tm} {H : Heap} {K : Value → Heap → Prop} (hk : KStep P base M o (ev T) H K) {ρ : Ren} {w : World} {a : Act} (hr : Rel P B ρ H w) (hb : base ≤ H.length)
    (hT : TR ρ N T a.tmps) (ho : opOk N P.globals.size o = true) {next : Act → World → Prop} {Q : Exit → Act → World → Prop}
    (hnext : ∀ v v' ρ' H' w', VR ρ' v v' → Post P B base M ρ H w ρ' H' w' → K v H' → next (a.put o.dst v') w') : o.wpIn (Fw ro) 0 P a w next Q := by
  have he := ev_sim hr hT ho
  refine ⟨fun _ _ => trivial, ?_⟩
  show o.uponIn (Fw ro) 0 P a next Q ((o.semAt ro a.eval).run P w)
  rw [semAt_exec ho]
  unfold KStep at hk
  split at hk
  · obtain ⟨v, rd, h1, h2⟩ := hk
    obtain ⟨v', h3, h4⟩ := kpure_sim (w := w) h1 he (fun id _ => rel_at hr id)
    rw [h3]
    exact hnext v v' ρ H w h4 (Post.refl hr) h2
  · obtain ⟨v, ob, h1, h2⟩ := hk
    have hno : ρ H.length = none := by
      cases hq : ρ H.length with
      | none => rfl
      | some r => exact absurd (hr.dom _ _ hq) (Nat.lt_irrefl _)
    obtain ⟨v', obj, ri, h3, h4, h5, h6⟩ := kalloc_sim h1 he hno w
    rw [h3]
    exact hnext v v' _ _ _ h5 (Post.alloc hr h4 hb h6) h2
  · obtain ⟨v, H', wr, h1, h2, h3⟩ := hk
    obtain ⟨v', w', ρ', h4, h5, h6⟩ := kwrite_sim h1 he hr h2 hb
    rcases h4 with h4 | ⟨h4, h7⟩
    · rw [h4]; exact hnext v v' ρ' H' w' h5 h6 h3
    · rw [h4]; rw [h7] at h5; exact hnext v undef ρ' H' w' h5 h6 h3
  · split at hk
    · rename_i f args tys hop
      obtain ⟨Mc, h1, h2⟩ := hk
      have hrun : execOp a.eval o = (do let d ← Deferred.ofValue (a.eval f) (args.map a.eval); invoke d.target d.args : Sem Next) := by
        obtain ⟨dst, op, ty, pos, after, guard⟩ := o
        simp only at hop
        subst hop
        rfl
      have hop2 : ∀ x, x ∈ (#[f] ++ args) → x ∈ o.op.operands := by
        intro x hx
        obtain ⟨dst, op, ty, pos, after, guard⟩ := o
        simp only at hop
        subst hop
        simpa [Op.operands, Call.operands] using hx
      have := h1 B ρ w (a.eval f) (args.map a.eval) hr (he f (hop2 f (by simp))) (by
        rw [Array.toList_map]
        exact map_rel (fun x hx => he x (hop2 x (by simp [Array.mem_toList_iff.1 hx]))))
      rw [hrun]
      generalize ((do let d ← Deferred.ofValue (a.eval f) (args.map a.eval); invoke d.target d.args : Sem Next)).run P w = r at this
      unfold Hands at this
      split at this
      · rename_i g xs w1
        refine ⟨fun h => by simp [Fw, Fence.wide] at h, ?_⟩
        show CallsIn (Fw ro) 0 P g xs w1 _
        refine CallsIn.mono (F := Fw ro) this ?_
        rintro e w' ⟨v, v', ρ', H', rfl, g2, g3, g4⟩
        exact hnext v v' ρ' H' w' g2 (g3.weaken hb (fun id hid hlt => h2 id hid hlt)) g4
      · rename_i l g tm asg bd w1
        refine ⟨fun h => by simp [Fw, Fence.wide] at h, ?_⟩
        show RoundIn (Fw ro) 0 P l g tm asg bd w1 _
        refine RoundIn.mono (F := Fw ro) this ?_
        rintro e w' ⟨v, v', ρ', H', rfl, g2, g3, g4⟩
        exact hnext v v' ρ' H' w' g2 (g3.weaken hb (fun id hid hlt => h2 id hid hlt)) g4
      · exact this.elim
    · exact hk.elim
  · exact hk.elim

theorem kops_sound {B base N : Nat} {M : List Nat} {ro : Option Nat} {ops : Array Oper} (hops : ∀ o ∈ ops, opOk N P.globals.size o = true) {Q : Tm → Heap → Prop} {Qr : Exit → Act → World → Prop} {ρ0 : Ren} {H0 : Heap} {w0 : World} {ds : List Deferred}
    (hQ : ∀ ρ' T' H' w' a', Post P B base M ρ0 H0 w0 ρ' H' w' → TR ρ' N T' a'.tmps → a'.defers = ds → Q T' H' → Qr .normal a' w') :
    ∀ (rest : List Oper) (T : Tm) (H : Heap) (ρ : Ren) (w : World) (a : Act), (∀ o ∈ rest, o ∈ ops) → Post P B base M ρ0 H0 w0 ρ H w → base ≤ H.length → TR ρ N T a.tmps → a.defers = ds → KOps P base M ops rest T H Q →
      wpListIn (Fw ro) 0 P ops Qr rest a w := by
  intro rest
  induction rest with
  | nil => intro T H ρ w a _ hp hb hT hd hk; exact hQ ρ T H w a hp hT hd hk
  | cons o os ih =>
    intro T H ρ w a hin hp hb hT hd hk
    have ho := hops o (hin o (List.mem_cons_self ..))
    simp only [KOps] at hk
    obtain ⟨hkn, hk⟩ := hk
    have hw := wanted_sim hT (fun o h d hd => opOk_dst (hops o h) d hd) o hkn
    unfold wpListIn
    rw [hw]
    split at hk
    · rename_i hwt
      rw [if_pos hwt]
      refine kstep_sound hk hp.rel hb hT ho ?_
      intro v v' ρ' H' w' hv hpost hK
      refine ih _ H' ρ' w' _ (fun o h => hin o (List.mem_cons_of_mem _ h)) (hp.trans hpost) (Nat.le_trans hb hpost.len) (TR.put (hT.mono hpost.ext) (opOk_dst ho) hv) ?_ hK
      cases o.dst <;> exact hd
    · rename_i hwt
      rw [if_neg hwt]
      refine ⟨fun _ _ => trivial, ih _ H ρ w _ (fun o h => hin o (List.mem_cons_of_mem _ h)) hp hb (TR.put hT (opOk_dst ho) (VR.undef ρ)) ?_ hk⟩
      cases o.dst <;> exact hd

/-! ## Code -/
def KW (P : Program) (ro : Option Nat) (N base : Nat) (M : List Nat) (c : Code) (T : Tm) (H : Heap) (Q : Exit → Tm → Heap → Prop) : Prop :=
  ∀ (B : Nat) (ρ : Ren) (w : World) (a : Act) (n0 : Nat), Rel P B ρ H w → base ≤ H.length → TR ρ N T a.tmps → n0 ≤ w.heap.size → DOK n0 a.defers w →
    c.wpIn (Fw ro) 0 P (fun e a' w' => ∃ ρ' T' H', Post P B base M ρ H w ρ' H' w' ∧ TR ρ' N T' a'.tmps ∧ DOK n0 a'.defers w' ∧ Q e T' H') a w

def thenK (K : Tm → Heap → Prop) (Q : Exit → Tm → Heap → Prop) : Exit → Tm → Heap → Prop
  | .normal, T, H => K T H
  | e, T, H => Q e T H
def inBlockK (id : Nat) (Q : Exit → Tm → Heap → Prop) : Exit → Tm → Heap → Prop
  | .exit id', T, H => if id' = id then Q .normal T H else Q (.exit id') T H
  | e, T, H => Q e T H

section rules
variable {ro : Option Nat} {N base : Nat} {M : List Nat} {T : Tm} {H : Heap} {Q : Exit → Tm → Heap → Prop}

theorem KW.mono {c : Code} {Q' : Exit → Tm → Heap → Prop} (h : KW P ro N base M c T H Q) (hq : ∀ e T' H', Q e T' H' → Q' e T' H') : KW P ro N base M c T H Q' :=
  fun B ρ w a n0 h1 h2 h3 h4 h5 => wpIn_mono (h B ρ w a n0 h1 h2 h3 h4 h5) fun e a' w' ⟨ρ', T', H', g1, g2, g3, g4⟩ => ⟨ρ', T', H', g1, g2, g3, hq _ _ _ g4⟩
theorem KW.skip (h : Q .normal T H) : KW P ro N base M .skip T H Q := fun B ρ w a n0 h1 h2 h3 h4 h5 => wpIn_skip ⟨ρ, T, H, Post.refl h1, h3, h5, h⟩
theorem KW.label {l : Nat} (h : Q .normal T H) : KW P ro N base M (.label l) T H Q := fun B ρ w a n0 h1 h2 h3 h4 h5 => wpIn_label ⟨ρ, T, H, Post.refl h1, h3, h5, h⟩
theorem KW.ret (h : Q .ret T H) : KW P ro N base M .ret T H Q := fun B ρ w a n0 h1 h2 h3 h4 h5 => wpIn_ret ⟨ρ, T, H, Post.refl h1, h3, h5, h⟩
theorem KW.exit {id : Nat} (h : Q (.exit id) T H) : KW P ro N base M (.exit id) T H Q := fun B ρ w a n0 h1 h2 h3 h4 h5 => wpIn_exit ⟨ρ, T, H, Post.refl h1, h3, h5, h⟩
theorem KW.seq {x y : Code} (h : KW P ro N base M x T H (thenK (fun T' H' => KW P ro N base M y T' H' Q) Q)) : KW P ro N base M (.seq x y) T H Q := by
  intro B ρ w a n0 h1 h2 h3 h4 h5
  refine wpIn_seq (wpIn_mono (h B ρ w a n0 h1 h2 h3 h4 h5) ?_)
  rintro e a' w' ⟨ρ', T', H', g1, g2, g3, g4⟩
  cases e with
  | normal =>
    refine wpIn_mono (g4 B ρ' w' a' n0 g1.rel (Nat.le_trans h2 g1.len) g2 (Nat.le_trans h4 g1.size) g3) ?_
    rintro e a2 w2 ⟨ρ2, T2, H2, k1, k2, k3, k4⟩
    exact ⟨ρ2, T2, H2, g1.trans k1, k2, k3, k4⟩
  | _ => exact ⟨ρ', T', H', g1, g2, g3, g4⟩
theorem KW.block {id : Nat} {c : Code} (h : KW P ro N base M c T H (inBlockK id Q)) : KW P ro N base M (.block id c) T H Q := by
  intro B ρ w a n0 h1 h2 h3 h4 h5
  refine wpIn_block (wpIn_mono (h B ρ w a n0 h1 h2 h3 h4 h5) ?_)
  rintro e a' w' ⟨ρ', T', H', g1, g2, g3, g4⟩
  cases e with
  | exit id' =>
    simp only [inBlockK] at g4
    simp only [Exit.inBlock]
    split at g4
    · rename_i hid; rw [if_pos hid]; exact ⟨ρ', T', H', g1, g2, g3, g4⟩
    · rename_i hid; rw [if_neg hid]; exact ⟨ρ', T', H', g1, g2, g3, g4⟩
  | _ => exact ⟨ρ', T', H', g1, g2, g3, g4⟩
theorem KW.cond {t : Nat} {x y : Code} {b : Bool} (ht : t < N) (hc : T t = .bool b) (h : KW P ro N base M (if b then x else y) T H Q) : KW P ro N base M (.cond (.tmp t) x y) T H Q := by
  intro B ρ w a n0 h1 h2 h3 h4 h5
  refine wpIn_cond (t := b) ?_ (h B ρ w a n0 h1 h2 h3 h4 h5)
  have := h3.2 t ht
  rw [hc] at this
  show a.tmps.getD t undef = _
  generalize a.tmps.getD t undef = q at this
  cases this; rfl
theorem KW.cond_split {t : Nat} {x y : Code} {b : Bool} (ht : t < N) (hc : T t = .bool b) (h1 : b = true → KW P ro N base M x T H Q) (h2 : b = false → KW P ro N base M y T H Q) : KW P ro N base M (.cond (.tmp t) x y) T H Q := by
  refine KW.cond ht hc ?_
  cases b
  · exact h2 rfl
  · exact h1 rfl
theorem KW.loop {c : Code} (I : Nat → Tm → Heap → Prop) (n : Nat) (h0 : I n T H)
    (round : ∀ n T' H', H.length ≤ H'.length → I n T' H' → KW P ro N base M c T' H' (thenK (fun T2 H2 => ∃ k, k < n ∧ I k T2 H2) Q)) : KW P ro N base M (.loop c) T H Q := by
  intro B ρ w a n0 h1 h2 h3 h4 h5
  have key : ∀ (m : Nat) (n : Nat) (ρ' : Ren) (T' : Tm) (H' : Heap) (w' : World) (a' : Act), n < m → Post P B base M ρ H w ρ' H' w' → TR ρ' N T' a'.tmps → DOK n0 a'.defers w' → I n T' H' →
      Code.roundsIn (Fw ro) 0 P c (fun e a' w' => ∃ ρ' T' H', Post P B base M ρ H w ρ' H' w' ∧ TR ρ' N T' a'.tmps ∧ DOK n0 a'.defers w' ∧ Q e T' H') m a' w' := by
    intro m
    induction m with
    | zero => intro n _ _ _ _ _ hlt; omega
    | succ m ih =>
      intro n ρ' T' H' w' a' hlt hp hT hD hI
      rw [roundsIn_succ]
      refine wpIn_mono (round n T' H' hp.len hI B ρ' w' a' n0 hp.rel (Nat.le_trans h2 hp.len) hT (Nat.le_trans h4 hp.size) hD) ?_
      rintro e a2 w2 ⟨ρ2, T2, H2, k1, k2, k3, k4⟩
      cases e with
      | normal =>
        obtain ⟨k, hk, hI2⟩ := k4
        exact ih k ρ2 T2 H2 w2 a2 (by omega) (hp.trans k1) k2 k3 hI2
      | _ => exact ⟨ρ2, T2, H2, hp.trans k1, k2, k3, k4⟩
  exact wpIn_loop_rounds (n + 1) (key (n + 1) n ρ T H w a (by omega) (Post.refl h1) h3 h5 h0)
theorem KW.region {id : Nat} {l : List Oper} (hok : l.all (opOk N P.globals.size) = true) (h : KOps P base M l.toArray l T H (fun T' H' => Q .normal T' H')) : KW P ro N base M (.region id l.toArray false) T H Q := by
  intro B ρ w a n0 h1 h2 h3 h4 h5
  refine wpIn_region_lit ?_
  rw [List.all_eq_true] at hok
  refine kops_sound (ds := a.defers) (fun o ho => hok o (by simpa using ho)) ?_ l T H ρ w a (fun o ho => by simpa using ho) (Post.refl h1) h2 h3 rfl h
  intro ρ' T' H' w' a' hp hT hd hq
  exact ⟨ρ', T', H', hp, hT, by rw [hd]; exact DOK.post h1 h5 hp, hq⟩
end rules
end Go.K
/- A function's contract from its body; what a call leaves behind it is forgotten. No condition. -/
namespace Go.K
set_option linter.unusedSimpArgs false
open Go
set_option linter.unusedVariables false
variable {P : Program}

def initT (args : List Value) : Tm := fun t => (args[t]?).getD undef
def kresv (P : Program) (T : Tm) (H : Heap) : ResultVar → Option Value
  | .tmp t => some (T t)
  | .cell a ty => (kload P ty (T a) H).map (·.1)
def kres (P : Program) (rs : List ResultVar) (T : Tm) (H : Heap) : Option Value :=
  match rs with
  | [r] => kresv P T H r
  | rs => (rs.mapM (kresv P T H)).map fun vs => .tuple ⟨vs⟩
def resOk (N : Nat) (rs : List ResultVar) : Bool := rs.all fun r => match r with | .tmp t => decide (t < N) | .cell a _ => decide (a < N)

def rv (tmps : Array Value) (r : ResultVar) : Sem Value :=
  match r with
  | .tmp t => pure (tmps.getD t undef)
  | .cell a t => do loadVar t (← asAddr (tmps.getD a undef))
theorem results_rv (fn : Func) (tmps : Array Value) : results fn tmps = (do let vs ← List.toArray <$> fn.results.toList.mapM (rv tmps); pure (if h : vs.size = 1 then vs[0] else .tuple vs)) := by
  rw [← Array.mapM_eq_mapM_toList]
  rfl
theorem kresv_sim {B N : Nat} {ρ : Ren} {H : Heap} {w : World} {T : Tm} {tmps : Array Value} (hr : Rel P B ρ H w) (hT : TR ρ N T tmps) {r : ResultVar} (hk : (match r with | .tmp t => decide (t < N) | .cell a _ => decide (a < N)) = true) {v : Value} (h : kresv P T H r = some v) :
    ∃ v', (rv tmps r).run P w = .ok v' w ∧ VR ρ v v' := by
  cases r with
  | tmp t => simp only [kresv] at h; cases h; exact ⟨_, rfl, hT.2 t (by simpa using hk)⟩
  | cell a ty =>
    simp only [kresv] at h
    obtain ⟨⟨x, id⟩, hl, hh⟩ := Option.map_eq_some_iff.1 h
    cases hh
    have ha := hT.2 a (by simpa using hk)
    obtain ⟨v', h1, h2⟩ := kload_sim hl ha (fun r o g1 g2 => hr.obj _ r o g1 g2)
    refine ⟨v', ?_, h2⟩
    generalize T a = p at ha hl
    show ((do loadVar ty (← asAddr (tmps.getD a undef))) : Sem Value).run P w = _
    generalize tmps.getD a undef = q at ha h1 ⊢
    unfold kload at hl
    split at hl
    · cases ha
      simpa [Instr.loadAt, Instr.sureAddr, asAddr] using h1
    · simp at hl
theorem kres_sim {B N : Nat} {ρ : Ren} {H : Heap} {w : World} {T : Tm} {tmps : Array Value} (hr : Rel P B ρ H w) (hT : TR ρ N T tmps) {fn : Func} (hk : resOk N fn.results.toList = true) {v : Value} (h : kres P fn.results.toList T H = some v) :
    ∃ v', (results fn tmps).run P w = .ok v' w ∧ VR ρ v v' := by
  have many : ∀ (rs : List ResultVar) (vs : List Value), resOk N rs = true → rs.mapM (kresv P T H) = some vs →
      ∃ vs', (rs.mapM (rv tmps)).run P w = .ok vs' w ∧ VRl ρ vs vs' := by
    intro rs
    induction rs with
    | nil => intro vs _ h; simp at h; subst h; exact ⟨[], rfl, .nil ρ⟩
    | cons r rs ih =>
      intro vs hk h
      simp only [resOk, List.all_cons, Bool.and_eq_true] at hk
      rw [List.mapM_cons] at h
      simp only [Option.bind_eq_bind, Option.bind_eq_some_iff, Option.pure_def, Option.some.injEq] at h
      obtain ⟨v, h1, vs0, h2, rfl⟩ := h
      obtain ⟨v', h3, h4⟩ := kresv_sim hr hT hk.1 h1
      obtain ⟨vs', h5, h6⟩ := ih vs0 hk.2 h2
      refine ⟨v' :: vs', ?_, .cons h4 h6⟩
      rw [List.mapM_cons]
      simp only [Sem.run_bind, h3, Result.andThen_ok, h5, Sem.run_pure]
  rw [results_rv]
  unfold kres at h
  split at h
  · rename_i r hrs
    rw [hrs] at hk ⊢
    obtain ⟨v', h3, h4⟩ := kresv_sim hr hT (by simpa [resOk] using hk) h
    refine ⟨v', ?_, h4⟩
    have : (List.mapM (rv tmps) [r]).run P w = .ok [v'] w := by
      rw [List.mapM_cons]
      simp only [Sem.run_bind, h3, Result.andThen_ok, List.mapM_nil, Sem.run_pure]
    simp only [Sem.run_bind, Sem.run_map, this, Result.andThen_ok, Sem.run_pure]
    rfl
  · rename_i hno
    obtain ⟨vs, hvs, rfl⟩ := Option.map_eq_some_iff.1 h
    obtain ⟨vs', h1, h2⟩ := many _ vs hk hvs
    refine ⟨.tuple ⟨vs'⟩, ?_, .tuple (by simpa using h2.1) (fun i a b x y => h2.2 i a b (by simpa using x) (by simpa using y))⟩
    simp only [Sem.run_bind, Sem.run_map, h1, Result.andThen_ok, Sem.run_pure]
    have hl : vs.length = fn.results.toList.length := by
      have : ∀ (rs : List ResultVar) (vs : List Value), rs.mapM (kresv P T H) = some vs → vs.length = rs.length := by
        intro rs
        induction rs with
        | nil => intro vs h; simp at h; subst h; rfl
        | cons r rs ih =>
          intro vs h
          rw [List.mapM_cons] at h
          simp only [Option.bind_eq_bind, Option.bind_eq_some_iff, Option.pure_def, Option.some.injEq] at h
          obtain ⟨v, h1, vs0, h2, rfl⟩ := h
          simp [ih vs0 h2]
      exact this _ _ hvs
    have hl2 : vs'.length ≠ 1 := by
      rw [← h2.1, hl]
      intro h1
      obtain ⟨r, hr⟩ := List.length_eq_one_iff.1 h1
      exact hno r hr
    rw [dif_neg (by simpa using hl2)]

/-- The mark of a range over a function is taken up: nothing of the canonical heap turns. -/
theorem Rel.mark {B : Nat} {ρ : Ren} {H : Heap} {w : World} (hr : Rel P B ρ H w) {D : Nat} {x : Option (List Deferred)} (h : w.heap[D]? = some (.deferred x)) (y : Obj) : Rel P B ρ H (w.putObj D y) := by
  refine ⟨by rw [World.putObj]; simp; exact hr.bsize, hr.glob, hr.dom, fun id r h1 => by rw [World.putObj]; simp; exact hr.lt id r h1, fun id r o h1 h2 => ?_, hr.base, hr.sep⟩
  have ho := hr.obj id r o h1 h2
  by_cases e : r.b = D
  · subst e
    cases o with
    | cells own z cs => obtain ⟨_, _, cs', ty, fz, hb, _⟩ := ho; rw [h] at hb; cases hb
    | map es => obtain ⟨_, es', c, hb, _⟩ := ho; rw [h] at hb; cases hb
    | loop _ _ _ _ _ _ _ => obtain ⟨_, l, hb, _⟩ := ho; rw [h] at hb; cases hb
    | dead => trivial
  · exact ho.mono (Ren.le_refl _) (World.putObj_heap_other e)
theorem Post.mark {B base : Nat} {M : List Nat} {ρ ρ' : Ren} {H H' : Heap} {w w' : World} (p : Post P B base M ρ H w ρ' H' w') {D : Nat} {x : Option (List Deferred)} (h : w'.heap[D]? = some (.deferred x)) (hD : w.heap.size ≤ D) (y : Obj) : Post P B base M ρ H w ρ' H' (w'.putObj D y) :=
  { p with
    rel := p.rel.mark h y
    size := by rw [World.putObj]; simp; exact p.size
    keep := fun b h1 h2 => by rw [World.putObj_heap_other (by omega)]; exact p.keep b h1 h2 }

theorem leaves_sound {B base N : Nat} {M : List Nat} {ρ0 ρ : Ren} {H0 H : Heap} {w0 : World} {fn : Func} {T : Tm} {tmps : Array Value} {Q : Value → Heap → Prop} (hT : TR ρ N T tmps) (hk : resOk N fn.results.toList = true) {v : Value} (h : kres P fn.results.toList T H = some v) (hq : Q v H) :
    ∀ (Ds : List Nat) (w : World), Post P B base M ρ0 H0 w0 ρ H w → Ds.Pairwise (· ≠ ·) → (∀ D ∈ Ds, w0.heap.size ≤ D ∧ w.heap[D]? = some (.deferred (some []))) →
      LeavesInM Fence.wide 0 P fn tmps (CQ P B base M ρ0 H0 w0 Q) (Ds.map (fun D => ({ target := .collected D, args := #[] } : Deferred))) .returning w := by
  intro Ds
  induction Ds with
  | nil =>
    intro w hp _ _
    obtain ⟨v', h1, h2⟩ := kres_sim hp.rel hT hk h
    exact ⟨v', h1, v, v', ρ, H, rfl, h2, hp, hq⟩
  | cons D Ds ih =>
    intro w hp hd hD
    obtain ⟨hD1, hD2⟩ := hD D (List.mem_cons_self ..)
    rw [List.pairwise_cons] at hd
    refine ⟨by simp, .inl ⟨D, w.putObj D (.deferred none), rfl, run_takeDeferred hD2, ih _ (hp.mark hD2 hD1 _) hd.2 (fun E hE => ?_)⟩⟩
    obtain ⟨g1, g2⟩ := hD E (List.mem_cons_of_mem _ hE)
    exact ⟨g1, by rw [World.putObj_heap_other (Ne.symm (hd.1 E hE))]; exact g2⟩

/-- A function's contract from its body. -/
theorem KCall.enter {f : FuncId} {fn : Func} {c : Code} {args : List Value} {H : Heap} {M : List Nat} {Q : Value → Heap → Prop} (hf : P.funcs[f]? = some fn) (hname : (fn.name == "runtime.NumGoroutine") = false) (hb : fn.body = some c)
    (N : Nat) (hN : fn.ntmps = N) (hargs : args.length ≤ N) (rs : List ResultVar) (hrs : fn.results.toList = rs) (hk : resOk N rs = true)
    (h : KW P none N H.length M c (initT args) H (fun e T' H' => (e = .normal ∨ e = .ret) ∧ ∃ v, kres P rs T' H' = some v ∧ Q v H')) : KCall P f args H M Q := by
  subst hN
  subst hrs
  refine ⟨enters_of hf hname hb, fun B ρ w args' hr ha => ?_⟩
  refine callsIn_of_wp_marks hf hb trivial ?_
  have hT : TR ρ fn.ntmps (initT args) (args' ++ Array.replicate (fn.ntmps - args'.size) undef) := by
    have hl : args'.size = args.length := by have := ha.1; simpa using this.symm
    refine ⟨by simp; omega, fun t ht => ?_⟩
    unfold initT
    rcases Nat.lt_or_ge t args.length with h1 | h1
    · have h2 : t < args'.size := by omega
      have hv := ha.2 t _ _ (List.getElem?_eq_getElem h1) (List.getElem?_eq_getElem (by simpa using h2))
      have e2 : (args' ++ Array.replicate (fn.ntmps - args'.size) undef).getD t undef = args'[t] := by
        simp [Array.getElem?_append_left h2, h2]
      rw [e2]
      simpa [List.getElem?_eq_getElem h1] using hv
    · rw [List.getElem?_eq_none h1]
      have : (args' ++ Array.replicate (fn.ntmps - args'.size) undef).getD t undef = undef := by
        have h3 : t < (args' ++ Array.replicate (fn.ntmps - args'.size) undef).size := by simp; omega
        simp only [Array.getD, h3, dif_pos]
        rw [Array.getInternal_eq_getElem, Array.getElem_append_right (by omega)]
        simp
      rw [this]
      exact VR.undef ρ
  refine wpIn_mono (h B ρ w { tmps := args' ++ Array.replicate (fn.ntmps - args'.size) undef, defers := [] } w.heap.size hr (Nat.le_refl _) hT (Nat.le_refl _) (DOK.nil _ _)) ?_
  rintro e a' w' ⟨ρ', T', H', hp, hT', ⟨Ds, hD1, hD2, hD3⟩, he, v, hv, hq⟩
  have := leaves_sound hT' hk hv hq Ds w' hp hD2 hD3
  rcases he with rfl | rfl
  · show LeavesInM _ _ _ _ _ _ a'.defers _ _
    rw [hD1]; exact this
  · show LeavesInM _ _ _ _ _ _ a'.defers _ _
    rw [hD1]; exact this

/-! ## What a call leaves behind it is forgotten -/
def belowC (n : Nat) : Value → Bool
  | .bool _ | .int _ _ | .float _ _ | .string _ | .pointer none | .slice none _ _ | .map none | .nilFunc | .nilIface => true
  | .pointer (some a) => decide (a.block < n)
  | .slice (some a) _ _ => decide (a.block < n)
  | .map (some r) => decide (r < n)
  | _ => false
def belowV (n : Nat) : Value → Bool
  | .agg cs => cs.toList.all (belowC n)
  | .tuple vs => vs.toList.all fun v => match v with | .agg cs => cs.toList.all (belowC n) | v => belowC n v
  | v => belowC n v
def belowO (n : Nat) : KObj → Bool
  | .cells _ _ cs => cs.all (belowC n)
  | .dead => true
  | _ => false

theorem belowC_VR {ρ ρ' : Ren} {n : Nat} (hle : ∀ id r, id < n → ρ' id = some r → ρ id = some r) {v v' : Value} (h : belowC n v = true) (hv : VR ρ' v v') : VR ρ v v' := by
  cases hv with
  | junk => exact .junk _
  | bool b => exact .bool b
  | int k n => exact .int k n
  | float k n => exact .float k n
  | string s => exact .string s
  | ptrNil => exact .ptrNil
  | ptr hr => exact .ptr (hle _ _ (by simpa [belowC] using h) hr)
  | sliceNil => exact .sliceNil
  | slice hr hl hc ho => exact .slice (hle _ _ (by simpa [belowC] using h) hr) hl hc ho
  | slice0 hr => exact .slice0 (hle _ _ (by simpa [belowC] using h) hr)
  | sliceE => exact .sliceE
  | sliceQn => exact .sliceQn
  | sliceQe => exact .sliceQe
  | sliceQ hr hp hl hc ho => exact .sliceQ (hle _ _ (by simpa [belowC] using h) hr) hp hl hc ho
  | sliceRe => exact .sliceRe
  | sliceR hr hp hl hc ho => exact .sliceR (hle _ _ (by simpa [belowC] using h) hr) hp hl hc ho
  | mapNil => exact .mapNil
  | map hr => exact .map (hle _ _ (by simpa [belowC] using h) hr)
  | nilFunc => exact .nilFunc
  | nilIface => exact .nilIface
  | func h1 h2 h3 h4 => simp [belowC] at h
  | yield hr => simp [belowC] at h
  | agg h1 h2 => simp [belowC] at h
  | tuple h1 h2 => simp [belowC] at h
theorem belowV_VR {ρ ρ' : Ren} {n : Nat} (hle : ∀ id r, id < n → ρ' id = some r → ρ id = some r) {v v' : Value} (h : belowV n v = true) (hv : VR ρ' v v') : VR ρ v v' := by
  cases hv with
  | junk => exact .junk _
  | agg h1 h2 =>
    simp only [belowV, List.all_eq_true] at h
    exact .agg h1 (fun i a b x y => belowC_VR hle (h a (by rw [Array.mem_toList_iff]; exact Array.mem_of_getElem? x)) (h2 i a b x y))
  | tuple h1 h2 =>
    simp only [belowV, List.all_eq_true] at h
    refine .tuple h1 (fun i a b x y => ?_)
    have ha := h a (by rw [Array.mem_toList_iff]; exact Array.mem_of_getElem? x)
    have hab := h2 i a b x y
    cases hab with
    | junk => exact .junk _
    | agg g1 g2 =>
      simp only [List.all_eq_true] at ha
      exact .agg g1 (fun i a b x y => belowC_VR hle (ha a (by rw [Array.mem_toList_iff]; exact Array.mem_of_getElem? x)) (g2 i a b x y))
    | bool b => exact belowC_VR hle ha (.bool b)
    | int k n => exact belowC_VR hle ha (.int k n)
    | float k n => exact belowC_VR hle ha (.float k n)
    | string s => exact belowC_VR hle ha (.string s)
    | ptrNil => exact belowC_VR hle ha .ptrNil
    | ptr hr => exact belowC_VR hle ha (.ptr hr)
    | sliceNil => exact belowC_VR hle ha .sliceNil
    | slice hr hl hc ho => exact belowC_VR hle ha (.slice hr hl hc ho)
    | slice0 hr => exact belowC_VR hle ha (.slice0 hr)
    | sliceE => exact .sliceE
    | sliceQn => exact .sliceQn
    | sliceQe => exact .sliceQe
    | sliceQ hr hp hl hc ho => exact belowC_VR hle ha (.sliceQ hr hp hl hc ho)
    | sliceRe => exact .sliceRe
    | sliceR hr hp hl hc ho => exact belowC_VR hle ha (.sliceR hr hp hl hc ho)
    | mapNil => exact belowC_VR hle ha .mapNil
    | map hr => exact belowC_VR hle ha (.map hr)
    | nilFunc => exact belowC_VR hle ha .nilFunc
    | nilIface => exact belowC_VR hle ha .nilIface
    | func g1 g2 g3 g4 => simp [belowC] at ha
    | yield hr => simp [belowC] at ha
    | tuple g1 g2 => simp [belowC] at ha
  | bool b => exact .bool b
  | int k n => exact .int k n
  | float k n => exact .float k n
  | string s => exact .string s
  | ptrNil => exact .ptrNil
  | ptr hr => exact belowC_VR hle h (.ptr hr)
  | sliceNil => exact .sliceNil
  | slice hr hl hc ho => exact belowC_VR hle h (.slice hr hl hc ho)
  | slice0 hr => exact belowC_VR hle h (.slice0 hr)
  | sliceE => exact .sliceE
  | sliceQn => exact .sliceQn
  | sliceQe => exact .sliceQe
  | sliceQ hr hp hl hc ho => exact belowC_VR hle h (.sliceQ hr hp hl hc ho)
  | sliceRe => exact .sliceRe
  | sliceR hr hp hl hc ho => exact belowC_VR hle h (.sliceR hr hp hl hc ho)
  | mapNil => exact .mapNil
  | map hr => exact belowC_VR hle h (.map hr)
  | nilFunc => exact .nilFunc
  | nilIface => exact .nilIface
  | func h1 h2 h3 h4 => simp [belowV, belowC] at h
  | yield hr => simp [belowV, belowC] at h

/-- The blocks that a call has made are forgotten, if nothing that is kept leads to them. -/
theorem KCall.trim2 {f : FuncId} {args : List Value} {H : Heap} {M : List Nat} {Q Q' : Value → Heap → Prop} (h : KCall P f args H M Q)
    (hq : ∀ v H', H.length ≤ H'.length → (∀ id, id < H.length → id ∉ M → H'[id]? = H[id]?) → Q v H' → Q' v H' ∨ (belowV H.length v = true ∧ (∀ id ∈ M, ∀ o, id < H.length → H'[id]? = some o → belowO H.length o = true) ∧ Q' v (H'.take H.length))) : KCall P f args H M Q' := by
  refine ⟨h.1, fun B ρ w args' hr ha => (h.2 B ρ w args' hr ha).mono ?_⟩
  rintro e w' ⟨v, v', ρ', H', rfl, hv, hp, hQ⟩
  rcases hq v H' hp.len hp.same hQ with g0 | ⟨g1, g2, g3⟩
  · exact ⟨v, v', ρ', H', rfl, hv, hp, g0⟩
  have hle : ∀ id r, id < H.length → ρ' id = some r → ρ id = some r := by
    intro id r hlt hr'
    cases hc : ρ id with
    | none => have := hp.new id r hr' hc; omega
    | some r0 => rw [hp.ext id r0 hc] at hr'; cases hr'; rfl
  have htk : ∀ id, id < H.length → (H'.take H.length)[id]? = H'[id]? := fun id hlt => by rw [List.getElem?_take, if_pos hlt]
  have hobj : ∀ id r o, ρ id = some r → (H'.take H.length)[id]? = some o → ObjRel ρ r o w' := by
    intro id r o h1 h2
    have hlt := hr.dom id r h1
    rw [htk id hlt] at h2
    have h3 := hp.rel.obj id r o (hp.ext _ _ h1) h2
    by_cases hm : id ∈ M
    · have hb := g2 id hm o hlt h2
      cases o with
      | cells own z cs =>
        obtain ⟨k1, k2, cs', ty, fz, k3, k4, k5, k6⟩ := h3
        simp only [belowO, List.all_eq_true] at hb
        exact ⟨k1, k2, cs', ty, fz, k3, k4, k5, fun i x hx => let ⟨x', y1, y2⟩ := k6 i x hx; ⟨x', y1, belowC_VR hle (hb x (List.mem_of_getElem? hx)) y2⟩⟩
      | dead => trivial
      | map es => simp [belowO] at hb
      | loop _ _ _ _ _ _ _ => simp [belowO] at hb
    · have hs := hp.same id hlt hm
      rw [hs] at h2
      have h4 := hr.obj id r o h1 h2
      cases o with
      | cells own z cs =>
        obtain ⟨k1, k2, cs', ty, fz, k3, k4, k5, k6⟩ := h3
        obtain ⟨_, _, cs2, _, _, _, _, _, j6⟩ := h4
        exact ⟨k1, k2, cs', ty, fz, k3, k4, k5, fun i x hx => let ⟨x', y1, y2⟩ := k6 i x hx; let ⟨x2, _, z2⟩ := j6 i x hx; ⟨x', y1, z2.down hp.ext y2⟩⟩
      | dead => trivial
      | map es =>
        obtain ⟨k1, es', c, k2, k3, k4⟩ := h3
        obtain ⟨_, es2, _, _, _, j4⟩ := h4
        exact ⟨k1, es', c, k2, k3, fun i k x hx => let ⟨e', y1, y2, y3⟩ := k4 i k x hx; let ⟨_, _, z2, z3⟩ := j4 i k x hx; ⟨e', y1, z2.down hp.ext y2, z3.down hp.ext y3⟩⟩
      | loop st pe tm N ps asg bd =>
        obtain ⟨k1, l, k2, k3, k4, k5, k6, k7, k8, k9⟩ := h3
        obtain ⟨_, l2, _, _, _, _, _, _, _, j9⟩ := h4
        exact ⟨k1, l, k2, k3, k4, k5, k6, k7, k8, fun t ht => (j9 t ht).down hp.ext (k9 t ht)⟩
  refine ⟨v, v', ρ, H'.take H.length, rfl, belowV_VR hle g1 hv, ⟨⟨Nat.le_trans hr.bsize hp.size, hr.glob, fun id r h1 => ?_, fun id r h1 => hp.rel.lt id r (hp.ext _ _ h1), hobj, fun id r o h1 h2 h3 => ?_, ?_⟩, Ren.le_refl _, fun id r h1 h2 => (by rw [h2] at h1; cases h1), ?_, fun id h1 h2 => ?_, hp.size, hp.keep, fun b h1 h2 => ?_, hp.os, hp.tape, hp.output⟩, g3⟩
  · have := hr.dom id r h1; have := hp.len; simp; omega
  · rw [htk id (hr.dom id r h1)] at h2; exact hp.rel.base id r o (hp.ext _ _ h1) h2 h3
  · intro id id' r r' o o' h1 h1' h2 h2' h3 h3' hne
    rw [htk id (hr.dom id r h1)] at h2
    rw [htk id' (hr.dom id' r' h1')] at h2'
    exact hp.rel.sep id id' r r' o o' (hp.ext _ _ h1) (hp.ext _ _ h1') h2 h2' h3 h3' hne
  · have := hp.len; simp; omega
  · rw [htk id h1]; exact hp.same id h1 h2
  · obtain ⟨id, r, o, k1, k2, k3, k4⟩ := h2
    rw [htk id (hr.dom id r k1)] at k2
    exact hp.ob b h1 ⟨id, r, o, hp.ext _ _ k1, k2, k3, k4⟩
theorem KCall.trim {f : FuncId} {args : List Value} {H : Heap} {M : List Nat} {Q Q' : Value → Heap → Prop} (h : KCall P f args H M Q)
    (hq : ∀ v H', H.length ≤ H'.length → (∀ id, id < H.length → id ∉ M → H'[id]? = H[id]?) → Q v H' → belowV H.length v = true ∧ (∀ id ∈ M, ∀ o, id < H.length → H'[id]? = some o → belowO H.length o = true) ∧ Q' v (H'.take H.length)) : KCall P f args H M Q' :=
  h.trim2 fun v H' a b c => .inr (hq v H' a b c)
end Go.K
/- A statement whose order is open: what one order gives, every order gives. No condition. -/
namespace Go.K
set_option linter.unusedSimpArgs false
open Go
set_option linter.unusedVariables false
variable {P : Program}

/-! ## Which operation waits for which -/
def befMask (acc : List Nat) (o : Oper) : Nat := o.after.toList.foldl (fun s e => if Region.binds .any e then s ||| 2 ^ e.on ||| acc.getD e.on 0 else s) 0
def befs : List Oper → List Nat → List Nat
  | [], acc => acc
  | o :: os, acc => befs os (acc ++ [befMask acc o])
def depB (bs : List Nat) (j i : Nat) : Bool := (bs.getD j 0).testBit i
theorem befs_length : ∀ (l : List Oper) (acc : List Nat), (befs l acc).length = acc.length + l.length := by
  intro l
  induction l with
  | nil => intro acc; simp [befs]
  | cons o os ih => intro acc; simp [befs, ih]; omega
theorem befs_keep : ∀ (l : List Oper) (acc : List Nat) (j : Nat), j < acc.length → (befs l acc)[j]? = acc[j]? := by
  intro l
  induction l with
  | nil => intro acc j _; rfl
  | cons o os ih => intro acc j h; simp only [befs]; rw [ih _ _ (by simp; omega), List.getElem?_append_left h]
theorem befMask_bit {acc : List Nat} {o : Oper} {i : Nat} (h : (befMask acc o).testBit i = true) : ∃ e ∈ o.after, Region.binds .any e = true ∧ (e.on = i ∨ (acc.getD e.on 0).testBit i = true) := by
  unfold befMask at h
  have key : ∀ (l : List Edge) (s : Nat), (l.foldl (fun s e => if Region.binds .any e then s ||| 2 ^ e.on ||| acc.getD e.on 0 else s) s).testBit i = true → s.testBit i = true ∨ ∃ e ∈ l, Region.binds .any e = true ∧ (e.on = i ∨ (acc.getD e.on 0).testBit i = true) := by
    intro l
    induction l with
    | nil => intro s h; exact .inl h
    | cons e es ih =>
      intro s h
      simp only [List.foldl_cons] at h
      rcases ih _ h with h1 | ⟨e', he', h2⟩
      · split at h1
        · rename_i hb
          rw [Nat.testBit_or, Nat.testBit_or, Nat.testBit_two_pow] at h1
          simp only [Bool.or_eq_true, decide_eq_true_eq] at h1
          rcases h1 with (h1 | h1) | h1
          · exact .inl h1
          · exact .inr ⟨e, List.mem_cons_self .., hb, .inl h1⟩
          · exact .inr ⟨e, List.mem_cons_self .., hb, .inr h1⟩
        · exact .inl h1
      · exact .inr ⟨e', List.mem_cons_of_mem _ he', h2⟩
  rcases key _ _ h with h1 | ⟨e, he, h2⟩
  · simp at h1
  · exact ⟨e, Array.mem_toList_iff.1 he, h2⟩
theorem befMask_on {acc : List Nat} {o : Oper} {e : Edge} (he : e ∈ o.after) (hb : Region.binds .any e = true) : (befMask acc o).testBit e.on = true := by
  unfold befMask
  have mono : ∀ (l : List Edge) (s i : Nat), s.testBit i = true → (l.foldl (fun s e => if Region.binds .any e then s ||| 2 ^ e.on ||| acc.getD e.on 0 else s) s).testBit i = true := by
    intro l
    induction l with
    | nil => intro s i h; exact h
    | cons x xs ih =>
      intro s i h
      simp only [List.foldl_cons]
      refine ih _ _ ?_
      split
      · rw [Nat.testBit_or, Nat.testBit_or, h]; rfl
      · exact h
  have key : ∀ (l : List Edge) (s : Nat), e ∈ l → (l.foldl (fun s e => if Region.binds .any e then s ||| 2 ^ e.on ||| acc.getD e.on 0 else s) s).testBit e.on = true := by
    intro l
    induction l with
    | nil => intro s h; cases h
    | cons x xs ih =>
      intro s h
      simp only [List.foldl_cons]
      rcases List.mem_cons.1 h with rfl | h
      · refine mono _ _ _ ?_
        rw [if_pos hb, Nat.testBit_or, Nat.testBit_or, Nat.testBit_two_pow]
        simp
      · exact ih _ h
  exact key _ _ (Array.mem_toList_iff.2 he)
theorem befs_on {l : List Oper} {j : Nat} {o : Oper} (hj : l[j]? = some o) {e : Edge} (he : e ∈ o.after) (hb : Region.binds .any e = true) : depB (befs l []) j e.on = true := by
  have key : ∀ (l : List Oper) (acc : List Nat) (k : Nat) (o : Oper), l[k]? = some o → ∃ acc', (befs l acc)[acc.length + k]? = some (befMask acc' o) := by
    intro l
    induction l with
    | nil => intro acc k o h; simp at h
    | cons x xs ih =>
      intro acc k o h
      cases k with
      | zero =>
        simp at h; subst h
        refine ⟨acc, ?_⟩
        simp only [befs]
        rw [befs_keep _ _ _ (by simp)]
        simp
      | succ k =>
        obtain ⟨acc', h2⟩ := ih (acc ++ [befMask acc x]) k o (by simpa using h)
        refine ⟨acc', ?_⟩
        simp only [befs]
        rw [← h2]
        congr 1
        simp; omega
  obtain ⟨acc', h2⟩ := key l [] j o hj
  simp only [List.length_nil, Nat.zero_add] at h2
  simp [depB, h2, befMask_on he hb]
theorem befs_bit {l : List Oper} {j i : Nat} (h : depB (befs l []) j i = true) : ∃ o, l[j]? = some o ∧ ∃ e ∈ o.after, Region.binds .any e = true ∧ (e.on = i ∨ depB (befs l []) e.on i = true) := by
  have key : ∀ (l : List Oper) (acc : List Nat) (k : Nat), k < l.length → ∃ acc' o, l[k]? = some o ∧ (befs l acc)[acc.length + k]? = some (befMask acc' o) ∧ (∀ q, q < acc'.length → (befs l acc)[q]? = acc'[q]?) := by
    intro l
    induction l with
    | nil => intro acc k hk; simp at hk
    | cons o os ih =>
      intro acc k hk
      cases k with
      | zero =>
        refine ⟨acc, o, rfl, ?_, fun q hq => befs_keep _ _ _ hq⟩
        simp only [befs]
        rw [befs_keep _ _ _ (by simp)]
        simp
      | succ k =>
        obtain ⟨acc', o', h1, h2, h3⟩ := ih (acc ++ [befMask acc o]) k (by simpa using hk)
        refine ⟨acc', o', by simpa using h1, ?_, h3⟩
        simp only [befs]
        rw [← h2]
        congr 1
        simp; omega
  have hj : j < l.length := by
    rcases Nat.lt_or_ge j l.length with h1 | h1
    · exact h1
    · have : (befs l [])[j]? = none := List.getElem?_eq_none (by rw [befs_length]; simpa using h1)
      simp [depB, this] at h
  obtain ⟨acc', o, h1, h2, h3⟩ := key l [] j hj
  simp only [List.length_nil, Nat.zero_add] at h2
  have hb : (befMask acc' o).testBit i = true := by simpa [depB, h2] using h
  obtain ⟨e, he, hbi, hor⟩ := befMask_bit hb
  refine ⟨o, h1, e, he, hbi, ?_⟩
  rcases hor with h4 | h4
  · exact .inl h4
  · right
    rcases Nat.lt_or_ge e.on acc'.length with h5 | h5
    · have := h3 _ h5
      simpa [depB, this] using h4
    · simp [List.getElem?_eq_none h5] at h4

/-! ## An order that may be walked -/
def hotOp (o : Oper) : Bool := match oclass o.op with | .pure | .alloc => false | _ => true
def looksB (ops : Array Oper) (o : Oper) (dst : Option Tmp) : Bool := match dst with | some d => (o.looksAt ops).contains d | none => false
def pairOk (bs : List Nat) (ops : Array Oper) (i j : Nat) : Bool :=
  match ops[i]?, ops[j]? with
  | some oi, some oj =>
    i != j && !depB bs i j && (oi.dst.isNone || oi.dst != oj.dst) && (!looksB ops oj oi.dst || depB bs j i) && (!looksB ops oi oj.dst || depB bs j i) && (!hotOp oi || depB bs j i)
  | _, _ => false
def allPairs (f : Nat → Nat → Bool) : List Nat → Bool
  | [] => true
  | i :: is => is.all (f i) && allPairs f is
def edgesOk (l : List Oper) : Bool := l.all fun o => o.after.toList.all fun e => !Region.binds .any e || decide (e.on < l.length)
def ordOk (l : List Oper) (ord : List Nat) : Bool :=
  edgesOk l && (List.range l.length).all (fun i => !depB (befs l []) i i) &&
  decide (ord.length = l.length) && (List.range l.length).all (fun i => ord.contains i) && allPairs (pairOk (befs l []) l.toArray) ord && ord.all (fun i => decide (i < l.length))

structure PairOk (bs : List Nat) (ops : Array Oper) (i j : Nat) : Prop where
  ex : ∃ oi oj, ops[i]? = some oi ∧ ops[j]? = some oj
  ne : i ≠ j
  order : depB bs i j = false
  ssa : ∀ oi oj d, ops[i]? = some oi → ops[j]? = some oj → oi.dst = some d → oj.dst ≠ some d
  wr : ∀ oi oj d, ops[i]? = some oi → ops[j]? = some oj → oi.dst = some d → d ∈ oj.looksAt ops → depB bs j i = true
  rw' : ∀ oi oj d, ops[i]? = some oi → ops[j]? = some oj → oj.dst = some d → d ∈ oi.looksAt ops → depB bs j i = true
  hot : ∀ oi, ops[i]? = some oi → hotOp oi = true → depB bs j i = true
theorem pairOk_spec {bs : List Nat} {ops : Array Oper} {i j : Nat} (h : pairOk bs ops i j = true) : PairOk bs ops i j := by
  unfold pairOk at h
  split at h
  · rename_i oi oj hi hj
    simp only [Bool.and_eq_true, Bool.or_eq_true, Bool.not_eq_true', bne_iff_ne] at h
    obtain ⟨⟨⟨⟨⟨h0, h1⟩, h2⟩, h3⟩, h4⟩, h5⟩ := h
    refine ⟨⟨oi, oj, hi, hj⟩, h0, h1, fun a b d ha hb hd => ?_, fun a b d ha hb hd hl => ?_, fun a b d ha hb hd hl => ?_, fun a ha hh => ?_⟩
    · rw [hi] at ha; cases ha; rw [hj] at hb; cases hb
      rcases h2 with h2 | h2
      · rw [hd] at h2; simp at h2
      · intro e; exact h2 (by rw [hd, e])
    · rw [hi] at ha; cases ha; rw [hj] at hb; cases hb
      rcases h3 with h3 | h3
      · simp [looksB, hd] at h3; exact absurd hl h3
      · exact h3
    · rw [hi] at ha; cases ha; rw [hj] at hb; cases hb
      rcases h4 with h4 | h4
      · simp [looksB, hd] at h4; exact absurd hl h4
      · exact h4
    · rw [hi] at ha; cases ha
      rcases h5 with h5 | h5
      · rw [hh] at h5; cases h5
      · exact h5
  · simp at h
theorem allPairs_spec {f : Nat → Nat → Bool} : ∀ {l : List Nat}, allPairs f l = true → ∀ pre i mid j post, l = pre ++ i :: (mid ++ j :: post) → f i j = true := by
  intro l
  induction l with
  | nil => intro _ pre i mid j post h; simp at h
  | cons x xs ih =>
    intro h pre i mid j post hl
    simp only [allPairs, Bool.and_eq_true, List.all_eq_true] at h
    cases pre with
    | nil =>
      simp at hl
      obtain ⟨rfl, rfl⟩ := hl
      exact h.1 j (by simp)
    | cons p ps =>
      simp at hl
      exact ih h.2 ps i mid j post hl.2

/-! ## The walk in that order -/
def Loose (bs : List Nat) (j : Nat) (log : List (Nat × Option Nat)) (ms : List Nat) : Prop := ∀ p ∈ log, depB bs j p.1 = false → ∀ x, p.2 = some x → x ∉ ms
theorem Loose.nil (bs : List Nat) (j : Nat) (log : List (Nat × Option Nat)) : Loose bs j log [] := fun _ _ _ _ _ h => by cases h
def KStepL (P : Program) (base : Nat) (M : List Nat) (bs : List Nat) (i : Nat) (log : List (Nat × Option Nat)) (o : Oper) (e : Operand → Value) (H : Heap) (K : Value → Heap → List (Nat × Option Nat) → Prop) : Prop :=
  match oclass o.op with
  | .pure => ∃ v rd, kpure P o.op e H = some (v, rd) ∧ K v H ((i, rd) :: log)
  | .alloc => ∃ v ob, kalloc P o.op e H.length = some (v, ob) ∧ K v (H ++ [ob]) ((i, some H.length) :: log)
  | .write => ∃ v H' wr, kwrite P o.op e H = some (v, H', wr) ∧ (∀ id ∈ wr, id < base → id ∈ M) ∧ Loose bs i log wr ∧ K v H' log
  | .call => match o.op with
    | .call ⟨.value f, args, _⟩ => ∃ Mc, KApp P (e f) (args.toList.map e) H Mc (fun v H' => K v H' log) ∧ (∀ id ∈ Mc, id < base → id ∈ M) ∧ Loose bs i log Mc
    | _ => False
  | .bad => False
def KOpsL (P : Program) (base : Nat) (M : List Nat) (bs : List Nat) (ops : Array Oper) : List Nat → Tm → Heap → List (Nat × Option Nat) → (Tm → Heap → Prop) → Prop
  | [], T, H, _, Q => Q T H
  | i :: is, T, H, log, Q =>
    match ops[i]? with
    | none => False
    | some o =>
      kknown o ops T = true ∧ if kwanted o ops T then KStepL P base M bs i log o (ev T) H (fun v H' log' => KOpsL P base M bs ops is (put T o.dst v) H' log' Q)
      else KOpsL P base M bs ops is (put T o.dst undef) H log Q

structure Ent where
  i : Nat
  o : Oper
  T : Tm
  H : Heap
  v : Value
  H' : Heap
  rd : Option Nat
  ms : List Nat
def EntOk (P : Program) (ops : Array Oper) (e : Ent) : Prop :=
  (ops[e.i]? = some e.o ∧ kknown e.o ops e.T = true) ∧
  (hotOp e.o = false → kwanted e.o ops e.T = true → (∃ rd, kpure P e.o.op (ev e.T) e.H = some (e.v, rd) ∧ e.H' = e.H ∧ e.rd = rd ∧ oclass e.o.op = .pure) ∨
    (∃ ob, kalloc P e.o.op (ev e.T) e.H.length = some (e.v, ob) ∧ e.H' = e.H ++ [ob] ∧ e.rd = some e.H.length ∧ oclass e.o.op = .alloc)) ∧
  (kwanted e.o ops e.T = false → e.v = undef) ∧ (hotOp e.o = false → e.ms = []) ∧
  e.H.length ≤ e.H'.length ∧ (∀ id, id < e.H.length → id ∉ e.ms → e.H'[id]? = e.H[id]?)
def chainT (T0 : Tm) (es : List Ent) : Tm := es.foldl (fun T e => put T e.o.dst e.v) T0
inductive Chain (P : Program) (ops : Array Oper) (T0 : Tm) (H0 : Heap) : List Ent → Heap → Prop
  | nil : Chain P ops T0 H0 [] H0
  | snoc {es H e} (h : Chain P ops T0 H0 es H) (hT : e.T = chainT T0 es) (hH : e.H = H) (ok : EntOk P ops e) : Chain P ops T0 H0 (es ++ [e]) e.H'
theorem chainT_snoc (T0 : Tm) (es : List Ent) (e : Ent) : chainT T0 (es ++ [e]) = put (chainT T0 es) e.o.dst e.v := by simp [chainT]
theorem put_other {T : Tm} {dst : Option Nat} {v : Value} {t : Nat} (h : dst ≠ some t) : put T dst v t = T t := by
  cases dst with
  | none => rfl
  | some d => have : t ≠ d := fun e => h (by rw [e]); simp [put, upd, this]
theorem put_same (T : Tm) (d : Nat) (v : Value) : put T (some d) v d = v := by simp [put, upd]
theorem snoc_ind {α : Type} {p : List α → Prop} (h0 : p []) (h1 : ∀ l a, p l → p (l ++ [a])) : ∀ l, p l := by
  intro l
  have : ∀ n (l : List α), l.length = n → p l := by
    intro n
    induction n with
    | zero => intro l h; rw [List.length_eq_zero_iff.1 h]; exact h0
    | succ n ih =>
      intro l h
      have hne : l ≠ [] := by intro e; rw [e] at h; simp at h
      rw [← List.dropLast_concat_getLast hne]
      exact h1 _ _ (ih _ (by simp [h]))
  exact this _ l rfl
theorem chainT_none {T0 : Tm} {t : Nat} : ∀ {es : List Ent}, (∀ e ∈ es, e.o.dst ≠ some t) → chainT T0 es t = T0 t := by
  intro es
  induction es using snoc_ind with
  | h0 => intro _; rfl
  | h1 l a ih =>
    intro h
    rw [chainT_snoc, put_other (h a (by simp))]
    exact ih (fun e he => h e (by simp [he]))
theorem chainT_some {T0 : Tm} {t : Nat} {pre post : List Ent} {e : Ent} (hd : e.o.dst = some t) (hp : ∀ x ∈ post, x.o.dst ≠ some t) : chainT T0 (pre ++ e :: post) t = e.v := by
  induction post using snoc_ind with
  | h0 => rw [show pre ++ [e] = pre ++ [e] from rfl, chainT_snoc, hd, put_same]
  | h1 l a ih =>
    rw [show pre ++ e :: (l ++ [a]) = (pre ++ e :: l) ++ [a] by simp, chainT_snoc, put_other (hp a (by simp))]
    exact ih (fun x hx => hp x (by simp [hx]))
theorem Chain.split {ops : Array Oper} {T0 : Tm} {H0 : Heap} : ∀ {es : List Ent} {H : Heap}, Chain P ops T0 H0 es H → ∀ pre e post, es = pre ++ e :: post →
    EntOk P ops e ∧ e.T = chainT T0 pre ∧ Chain P ops T0 H0 pre e.H ∧ e.H'.length ≤ H.length ∧ (∀ id, id < e.H'.length → (∀ x ∈ post, id ∉ x.ms) → H[id]? = e.H'[id]?) := by
  intro es H h
  induction h with
  | nil => intro pre e post he; simp at he
  | @snoc es H x hc hT hH ok ih =>
    intro pre e post he
    rcases List.eq_nil_or_concat post with rfl | ⟨post', y, rfl⟩
    · obtain ⟨rfl, h2⟩ := List.append_inj' he (by simp)
      simp at h2; subst h2
      refine ⟨ok, hT, by rw [hH]; exact hc, Nat.le_refl _, fun id _ _ => rfl⟩
    · have he2 : es ++ [x] = (pre ++ e :: post') ++ [y] := by rw [he]; simp
      obtain ⟨rfl, h2⟩ := List.append_inj' he2 (by simp)
      simp at h2; subst h2
      obtain ⟨g1, g2, g3, g4, g5⟩ := ih pre e post' rfl
      refine ⟨g1, g2, g3, ?_, fun id h1 h2 => ?_⟩
      · rw [← hH] at g4; exact Nat.le_trans g4 ok.2.2.2.2.1
      · have hl : id < x.H.length := by rw [hH]; omega
        rw [ok.2.2.2.2.2 id hl (h2 x (by simp)), hH]
        exact g5 id h1 (fun z hz => h2 z (by simp [hz]))
theorem Chain.len {ops : Array Oper} {T0 : Tm} {H0 : Heap} {es : List Ent} {H : Heap} (h : Chain P ops T0 H0 es H) : H0.length ≤ H.length := by
  induction h with
  | nil => exact Nat.le_refl _
  | snoc _ _ hH ok ih => rw [← hH] at ih; exact Nat.le_trans ih ok.2.2.2.2.1
end Go.K
