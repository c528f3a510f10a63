/- Arguments that are read: brought into the canonical heap. A call without arguments in any heap. No condition. -/
import Derived.Test.YthcjliffpebjaaaV11
import Derived.Deep.Slices
import Derived.ChangeStays
namespace Go.K
open Go
set_option linter.unusedVariables false
variable {P : Program}

/-- A call without arguments, known in the least heap, is known in every heap. -/
theorem KCall.alone {f : FuncId} {v : Value} {wr : List Nat} {H0 : Heap} (h : KCall P f [] (List.replicate P.globals.size .dead) wr (Is v H0)) (hv : belowV 0 v = true) (H : Heap) : KCall P f [] H [] (Is v H) := by
  refine ⟨h.1, fun B ρ w args' hr ha => ?_⟩
  have hdead : ∀ (id : Nat) (o : KObj), (List.replicate P.globals.size KObj.dead)[id]? = some o → o = .dead := fun id o ho => by
    rw [List.getElem?_replicate] at ho
    split at ho
    · cases ho; rfl
    · cases ho
  have hrg : Rel P B (fun id => if id < P.globals.size then ρ id else none) (List.replicate P.globals.size .dead) w := by
    refine ⟨hr.bsize, fun g hg => ?_, fun id r h1 => ?_, fun id r h1 => ?_, fun id r o h1 h2 => ?_, fun id r o h1 h2 h3 => ?_, fun id id' r r' o o' h1 h1' h2 h2' h3 _ _ => ?_⟩
    · obtain ⟨r, h1, h2⟩ := hr.glob g hg
      exact ⟨r, by simp [hg, h1], h2⟩
    · split at h1
      · simpa using ‹id < _›
      · cases h1
    · split at h1
      · exact hr.lt id r h1
      · cases h1
    · rw [hdead id o h2]; trivial
    · rw [hdead id o h2] at h3; cases h3
    · rw [hdead id o h2] at h3; cases h3
  have hob : ∀ b, ¬ OB (fun id => if id < P.globals.size then ρ id else none) (List.replicate P.globals.size .dead) b := by
    rintro b ⟨id, r, o, h1, h2, h3, _⟩
    rw [hdead id o h2] at h3; cases h3
  refine (h.2 B _ w args' hrg (VRl.mono (fun id r h => ?_) (⟨ha.1, fun i x x' hx => by simp at hx⟩ : VRl (fun _ => none) [] args'.toList))).mono ?_
  · cases h
  · rintro e w' ⟨v1, v', ρ', H', rfl, hv', hp, rfl, rfl⟩
    have hkeep : ∀ b, b < w.heap.size → w'.heap[b]? = w.heap[b]? := fun b hb => hp.keep b hb (hob b)
    refine ⟨v1, v', ρ, H, rfl, belowV_VR (n := 0) (fun id r h => absurd h (Nat.not_lt_zero _)) hv hv', ⟨⟨Nat.le_trans hr.bsize hp.size, hr.glob, hr.dom, fun id r h1 => Nat.lt_of_lt_of_le (hr.lt id r h1) hp.size, fun id r o h1 h2 => (hr.obj id r o h1 h2).mono (Ren.le_refl _) (hkeep _ (hr.lt id r h1)), hr.base, hr.sep⟩,
      Ren.le_refl _, fun id r h1 h2 => (by rw [h2] at h1; cases h1), Nat.le_refl _, fun _ _ _ => rfl, hp.size, fun b hb _ => hkeep b hb, fun _ _ h => h, hp.os, hp.tape, hp.output⟩, rfl, rfl⟩

/-! ## Plain types, and what their cells are in the canonical heap -/
def tileB (P : Program) : Nat → List Field → Nat → Bool
  | off, [], tot => off == tot
  | off, f :: fs, tot => f.offset == off && tileB P (off + P.cellsOf f.type) fs tot
def plainT (P : Program) : Nat → TypeId → Bool
  | 0, _ => false
  | n + 1, t => match P.underlying t with
    | some .bool => true
    | some (.int _) => true
    | some .string => true
    | some (.struct fs) => fs.toList.all (fun f => plainT P n f.type) && tileB P 0 fs.toList (P.cellsOf t)
    | some (.slice e) => plainT P n e && decide (0 < P.cellsOf e)
    | _ => false
def GoodL (g : TypeId → List Value → Prop) : List TypeId → List Value → Prop
  | [], cs => cs = []
  | t :: ts, cs => ∃ c rest, cs = c ++ rest ∧ g t c ∧ GoodL g ts rest
def Good (P : Program) (H : Heap) : Nat → TypeId → List Value → Prop
  | 0, _, _ => False
  | n + 1, t, cs => match P.underlying t with
    | some .bool => ∃ b, cs = [.bool b]
    | some (.int k) => ∃ x, cs = [.int k x] ∧ k.min ≤ x ∧ x ≤ k.max
    | some .string => ∃ s, cs = [.string s]
    | some (.struct fs) => GoodL (Good P H n) (fs.toList.map (·.type)) cs
    | some (.slice e) => cs = [.slice none 0 0] ∨ cs = [.slice (some ⟨0, 0, some 0⟩) 0 0] ∨
        ∃ id len cs', cs = [.slice (some ⟨id, 0, none⟩) len len] ∧ H[id]? = some (.cells false 0 cs') ∧ cs'.length = len * P.cellsOf e ∧ len ≤ maxLen ∧ GoodL (Good P H n) (List.replicate len e) cs'
    | _ => False
theorem GoodL.mono {g g' : TypeId → List Value → Prop} (h : ∀ t cs, g t cs → g' t cs) : ∀ {ts : List TypeId} {cs : List Value}, GoodL g ts cs → GoodL g' ts cs
  | [], _, hl => hl
  | _ :: _, _, ⟨c, rest, e, h1, h2⟩ => ⟨c, rest, e, h _ _ h1, GoodL.mono h h2⟩
theorem Good.mono {H K : Heap} : ∀ {n : Nat} {t : TypeId} {cs : List Value}, Good P H n t cs → Good P (H ++ K) n t cs := by
  intro n
  induction n with
  | zero => intro t cs h; exact h
  | succ n ih =>
    intro t cs h
    unfold Good at h ⊢
    split at h
    · exact h
    · exact h
    · exact h
    · exact GoodL.mono (fun _ _ => ih) h
    · rcases h with h | h | ⟨id, len, cs', h1, h2, h3, h4, h5⟩
      · exact .inl h
      · exact .inr (.inl h)
      · exact .inr (.inr ⟨id, len, cs', h1, by rw [List.getElem?_append_left (List.getElem?_eq_some_iff.1 h2).1]; exact h2, h3, h4, GoodL.mono (fun _ _ => ih) h5⟩)
    · exact h

structure Ext (P : Program) (B : Nat) (W : World) (ρ : Ren) (H : Heap) (ρ' : Ren) (H' : Heap) : Prop where
  rel : Rel P B ρ' H' W
  le : Ren.le ρ ρ'
  pre : ∃ K, H' = H ++ K
theorem Ext.refl {B : Nat} {W : World} {ρ : Ren} {H : Heap} (h : Rel P B ρ H W) : Ext P B W ρ H ρ H := ⟨h, Ren.le_refl _, [], by simp⟩
theorem Ext.trans {B : Nat} {W : World} {ρ ρ1 ρ2 : Ren} {H H1 H2 : Heap} (h : Ext P B W ρ H ρ1 H1) (k : Ext P B W ρ1 H1 ρ2 H2) : Ext P B W ρ H ρ2 H2 := by
  obtain ⟨K1, rfl⟩ := h.pre
  obtain ⟨K2, rfl⟩ := k.pre
  exact ⟨k.rel, Ren.le_trans h.le k.le, K1 ++ K2, by simp⟩

/-- A row that is only read is brought in. -/
theorem Ext.row {B : Nat} {W : World} {ρ : Ren} {H : Heap} (hr : Rel P B ρ H W) {ri : RI} {cs : List Value} (hown : ri.own = false) (hz : ri.z = 0) (hlt : ri.b < W.heap.size) (hb : ri.b < B)
    (ho : ∃ cs' ty fz, W.heap[ri.b]? = some (.cells cs' ty fz) ∧ cs'.size = ri.n ∧ ∀ (i : Nat) (v : Value), cs[i]? = some v → ∃ v' : Value, cs'[i + ri.s]? = some v' ∧ VR ρ v v') :
    Ext P B W ρ H (ρ.set H.length ri) (H ++ [.cells false 0 cs]) := by
  have hnone : ρ H.length = none := by
    cases h : ρ H.length with
    | none => rfl
    | some r => exact absurd (hr.dom _ _ h) (Nat.lt_irrefl _)
  have hle := Ren.le_set (r := ri) hnone
  have hget : ∀ id, id ≠ H.length → id < H.length + 1 → (H ++ [KObj.cells false 0 cs])[id]? = H[id]? := fun id h1 h2 => List.getElem?_append_left (by omega)
  have hnew : (H ++ [KObj.cells false 0 cs])[H.length]? = some (.cells false 0 cs) := by simp
  have hdom : ∀ id r, ρ.set H.length ri id = some r → id < H.length + 1 := fun id r h => by
    by_cases e : id = H.length
    · omega
    · rw [Ren.set_other e] at h; have := hr.dom _ _ h; omega
  refine ⟨⟨hr.bsize, fun g hg => ?_, fun id r h => by simpa using hdom id r h, fun id r h => ?_, fun id r o h1 h2 => ?_, fun id r o h1 h2 h3 => ?_, ?_⟩, hle, _, rfl⟩
  · obtain ⟨r, h1, h2, h3⟩ := hr.glob g hg
    exact ⟨r, hle _ _ h1, h2, h3⟩
  · by_cases e : id = H.length
    · subst e; rw [Ren.set_same] at h; cases h; exact hlt
    · rw [Ren.set_other e] at h; exact hr.lt _ _ h
  · by_cases e : id = H.length
    · subst e
      rw [Ren.set_same] at h1; cases h1
      rw [hnew] at h2; cases h2
      obtain ⟨cs', ty, fz, g1, g2, g3⟩ := ho
      exact ⟨hown.symm, hz.symm, cs', ty, fz, g1, g2, fun h => (by cases h), fun i v hv => let ⟨v', a, b⟩ := g3 i v hv; ⟨v', a, b.mono hle⟩⟩
    · rw [Ren.set_other e] at h1
      rw [hget id e (by have := hr.dom _ _ h1; omega)] at h2
      exact (hr.obj id r o h1 h2).mono hle rfl
  · by_cases e : id = H.length
    · subst e; rw [hnew] at h2; cases h2; cases h3
    · rw [Ren.set_other e] at h1
      rw [hget id e (by have := hr.dom _ _ h1; omega)] at h2
      exact hr.base id r o h1 h2 h3
  · intro id id' r r' o o' h1 h1' h2 h2' h3 h3' hne
    by_cases e : id = H.length
    · subst e; rw [hnew] at h2; cases h2; cases h3
    · rw [Ren.set_other e] at h1
      rw [hget id e (by have := hr.dom _ _ h1; omega)] at h2
      by_cases e' : id' = H.length
      · subst e'
        rw [Ren.set_same] at h1'; cases h1'
        have := hr.base id r o h1 h2 h3
        omega
      · rw [Ren.set_other e'] at h1'
        rw [hget id' e' (by have := hr.dom _ _ h1'; omega)] at h2'
        exact hr.sep id id' r r' o o' h1 h1' h2 h2' h3 h3' hne
end Go.K
