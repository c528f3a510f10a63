/- Operations that leave memory alone: what they are on canonical memory they are on real memory. No condition. -/
import Derived.Test.YthcjliffpebjaaaK3
namespace Go.K
open Go
set_option linter.unusedVariables false
variable {P : Program} {w : World} {ρ : Ren} {H : Heap}

theorem addr_add (b off k : Nat) : (⟨b, off, none⟩ : Addr).add k = ⟨b, off + k, none⟩ := by
  unfold Addr.add
  split
  · rename_i h; subst h; rfl
  · rfl
theorem cell_of {b : Nat} {cs : Array Value} {ty : TypeId} {fz : Nat × Nat} (hb : w.heap[b]? = some (.cells cs ty fz)) (k : Nat) : w.cell? ⟨b, k, none⟩ = cs[k]? := by
  simp [World.cell?, hb]
theorem run_load_of {b k : Nat} {cs : Array Value} {ty : TypeId} {fz : Nat × Nat} {v : Value} (hb : w.heap[b]? = some (.cells cs ty fz)) (hv : cs[k]? = some v) :
    (load ⟨b, k, none⟩).run P w = .ok v w := by
  rw [run_load, cell_of hb, hv]
theorem run_loadCellsFrom {b off : Nat} {cs : Array Value} {ty : TypeId} {fz : Nat × Nat} (hb : w.heap[b]? = some (.cells cs ty fz)) :
    ∀ (n i : Nat) (acc : Array Value), off + i + n ≤ cs.size → (loadCellsFrom ⟨b, off, none⟩ i n acc).run P w = .ok (acc ++ cs.extract (off + i) (off + i + n)) w := by
  intro n
  induction n with
  | zero => intro i acc h; simp [loadCellsFrom]; omega
  | succ n ih =>
    intro i acc h
    have hi : off + i < cs.size := by omega
    simp only [loadCellsFrom, Sem.run_bind, addr_add]
    rw [run_load_of hb (Array.getElem?_eq_getElem hi)]
    simp only [Result.andThen_ok]
    rw [ih (i + 1) _ (by omega)]
    congr 1
    apply Array.toList_inj.1
    simp only [Array.toList_append, Array.toList_push, Array.toList_extract, List.extract_eq_take_drop, List.append_assoc]
    congr 1
    have e1 : off + (i + 1) + n - (off + (i + 1)) = n := by omega
    have e2 : off + i + (n + 1) - (off + i) = n + 1 := by omega
    rw [e1, e2]
    have e3 : cs.toList.drop (off + i) = cs[off + i] :: cs.toList.drop (off + (i + 1)) := by
      rw [List.drop_eq_getElem_cons (by simpa using hi)]
      rfl
    rw [e3]; rfl
theorem run_loadCells {b off n : Nat} {cs : Array Value} {ty : TypeId} {fz : Nat × Nat} (hb : w.heap[b]? = some (.cells cs ty fz)) (h : off + n ≤ cs.size) :
    (loadCells ⟨b, off, none⟩ n).run P w = .ok (cs.extract off (off + n)) w := by
  have := run_loadCellsFrom (P := P) (off := off) hb n 0 #[] (by omega)
  simpa [loadCells] using this

/-- A row of cells, related: a part of it is. -/
theorem rows_extract {cs : List Value} {cs' : Array Value} {s off n : Nat} (h : ∀ (i : Nat) (v : Value), cs[i]? = some v → ∃ v' : Value, cs'[i + s]? = some v' ∧ VR ρ v v')
    (hle : off + n ≤ cs.length) : off + s + n ≤ cs'.size ∨ n = 0 := by
  rcases Nat.eq_zero_or_pos n with h0 | h0
  · exact .inr h0
  · left
    have hi : off + n - 1 < cs.length := by omega
    obtain ⟨v', h1, _⟩ := h (off + n - 1) _ (List.getElem?_eq_getElem hi)
    have := (Array.getElem?_eq_some_iff.1 h1).1
    omega
theorem rows_part {cs : List Value} {cs' : Array Value} {s off n : Nat} (h : ∀ (i : Nat) (v : Value), cs[i]? = some v → ∃ v' : Value, cs'[i + s]? = some v' ∧ VR ρ v v')
    (hle : off + n ≤ cs.length) : VRl ρ ((cs.drop off).take n) (cs'.extract (off + s) (off + s + n)).toList := by
  have hsz := rows_extract h hle
  refine ⟨?_, fun i v v' a b => ?_⟩
  · simp only [List.length_take, List.length_drop, Array.length_toList, Array.size_extract]
    rcases hsz with h1 | h1 <;> omega
  · rw [List.getElem?_take] at a
    split at a
    · rename_i hi
      rw [List.getElem?_drop] at a
      obtain ⟨x', h1, h2⟩ := h _ _ a
      rw [Array.getElem?_toList, Array.getElem?_extract] at b
      split at b
      · have e : off + s + i = off + i + s := by omega
        rw [e, h1] at b; cases b; exact h2
      · simp at b
    · simp at a

/-- What a read is told of the block that it reads. -/
def ObjAt (ρ : Ren) (H : Heap) (w : World) (id : Nat) : Prop := ∀ r o, ρ id = some r → H[id]? = some o → ObjRel ρ r o w

theorem kload_sim {t : TypeId} {a a' v : Value} {id : Nat} (h : kload P t a H = some (v, id)) (ha : VR ρ a a') (ho : ObjAt ρ H w id) :
    ∃ v', (Instr.loadAt t a').run P w = .ok v' w ∧ VR ρ v v' := by
  unfold kload at h
  split at h
  · rename_i id' off
    split at h
    · rename_i own z cs hid
      cases hp : kpart P t cs off with
      | none => simp [hp] at h
      | some x =>
        simp [hp] at h
        obtain ⟨rfl, rfl⟩ := h
        cases ha with
        | @ptr _ _ r hr =>
          obtain ⟨_, _, cs', ty, fz, hb, hn, _, hcs⟩ := ho r _ hr hid
          unfold kpart at hp
          cases hag : kagg P t with
          | none => simp [hag] at hp
          | some b =>
            cases b with
            | true =>
              cases hs : ksize P t with
              | none => simp [hag, hs] at hp
              | some n =>
                simp only [hag, hs] at hp
                split at hp
                · rename_i hle
                  cases hp
                  have hv := rows_part hcs hle
                  have hsz := rows_extract hcs hle
                  by_cases h0 : n = 0
                  · subst h0
                    refine ⟨.agg #[], by simp [Instr.loadAt, Instr.sureAddr, loadVar, run_isAgg hag, run_size hs, loadCells, loadCellsFrom], ?_⟩
                    exact VRl.agg (by simpa using VRl.nil ρ)
                  · refine ⟨.agg (cs'.extract (off + r.s) (off + r.s + n)), ?_, VRl.agg hv⟩
                    simp [Instr.loadAt, Instr.sureAddr, loadVar, run_isAgg hag, run_size hs, run_loadCells (P := P) (off := off + r.s) (n := n) hb (by omega)]
                · simp at hp
            | false =>
              simp only [hag] at hp
              obtain ⟨v', h1, h2⟩ := hcs _ _ hp
              exact ⟨v', by simp only [Instr.loadAt, Instr.sureAddr, loadVar, Sem.run_bind, Sem.run_pure, Result.andThen_ok, run_isAgg hag]; simpa using run_load_of (P := P) hb h1, h2⟩
    · simp at h
  · simp at h

theorem fill_sim {place : Nat → Option (Nat × Nat)} : ∀ {parts parts' : List (Nat × Value)} {cells c : List Value} {cells' : Array Value},
    kfill place cells parts = some c → VRl ρ cells cells'.toList → parts.length = parts'.length →
    (∀ (i : Nat) (x x' : Nat × Value), parts[i]? = some x → parts'[i]? = some x' → x.1 = x'.1 ∧ VR ρ x.2 x'.2) →
    ∃ c', Instr.fill place cells' parts' = some c' ∧ VRl ρ c c'.toList := by
  intro parts
  induction parts with
  | nil =>
    intro parts' cells c cells' h hl hlen _
    obtain rfl : parts' = [] := by simpa using hlen.symm
    simp [kfill] at h
    subst h
    exact ⟨cells', by simp [Instr.fill], hl⟩
  | cons p rest ih =>
    intro parts' cells c cells' h hl hlen hp
    cases parts' with
    | nil => simp at hlen
    | cons p' rest' =>
      obtain ⟨i, v⟩ := p
      obtain ⟨i', v'⟩ := p'
      obtain ⟨rfl, hv⟩ := hp 0 _ _ rfl rfl
      simp only at hv
      have hv : VR ρ v v' := hv
      simp only [kfill] at h
      cases hpl : place i with
      | none => simp [hpl] at h
      | some os =>
        obtain ⟨off, size⟩ := os
        simp only [hpl] at h
        split at h
        · rename_i hc
          have hcv := hv.cells hc.2.2
          have hz : v'.cells.size = size := by have := hcv.1; simp at this; have := hc.1; simp at this; omega
          have hcl : cells'.size = cells.length := by have := hl.1; simpa using this.symm
          have hfold : ∀ (vs : List Value) (cs : Array Value) (k : Nat), (vs.zipIdx k).foldl (fun (cs : Array Value) (x : Value × Nat) => cs.setIfInBounds (off + x.2) x.1) cs = ⟨setl cs.toList (off + k) vs⟩ := by
            intro vs
            induction vs with
            | nil => intro cs k; simp [setl]
            | cons y ys ihy =>
              intro cs k
              simp only [List.zipIdx_cons, List.foldl_cons, setl]
              rw [ihy]
              simp [Nat.add_assoc]
          have hf2 : v'.cells.zipIdx.foldl (fun cs (x : Value × Nat) => cs.setIfInBounds (off + x.2) x.1) cells' = ⟨setl cells'.toList off v'.cells.toList⟩ := by
            have := hfold v'.cells.toList cells' 0
            rw [← Array.foldl_toList]
            simpa using this
          obtain ⟨c', h1, h2⟩ := ih (parts' := rest') (cells' := ⟨setl cells'.toList off v'.cells.toList⟩) h (VRl.setl hcv off hl) (by simpa using hlen)
            (fun k x x' a b => hp (k + 1) x x' (by simpa using a) (by simpa using b))
          refine ⟨c', ?_, h2⟩
          simp only [Instr.fill, hpl]
          rw [if_neg (by simp [hz]; omega)]
          rw [← h1]
          congr 1
        · simp at h
end Go.K
