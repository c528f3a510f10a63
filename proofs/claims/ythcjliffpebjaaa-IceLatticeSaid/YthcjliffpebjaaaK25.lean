/- Arguments that are read: every plain one has its like in the canonical heap. No condition. -/
import Derived.Test.YthcjliffpebjaaaK24
namespace Go.K
open Go
set_option linter.unusedVariables false
variable {P : Program} {HH : Type} {enc : TypeId × Value → HH} {W : World} {base : Nat} {held : Bool} {B : Nat}

theorem VRl.length {ρ : Ren} {l l' : List Value} (h : VRl ρ l l') : l.length = l'.length := h.1

theorem bring_list {m n : Nat} (IH : ∀ (t : TypeId) (cs : List Value) (x : DataW HH × List MemPlace) (ρ : Ren) (H : Heap), plainT P n t = true → DataW.trod enc P W base (fun _ => true) held m t cs = some x → Rel P B ρ H W → ∃ ρ' H' cs', Ext P B W ρ H ρ' H' ∧ VRl ρ' cs' cs ∧ Good P H' n t cs') :
    ∀ (l : List (TypeId × List Value)), (∀ p ∈ l, plainT P n p.1 = true ∧ ∃ x, DataW.trod enc P W base (fun _ => true) held m p.1 p.2 = some x) → ∀ (ρ : Ren) (H : Heap), Rel P B ρ H W →
      ∃ ρ' H' cs', Ext P B W ρ H ρ' H' ∧ VRl ρ' cs' (l.map (·.2)).flatten ∧ GoodL (Good P H' n) (l.map (·.1)) cs' := by
  intro l
  induction l with
  | nil => intro _ ρ H hr; exact ⟨ρ, H, [], Ext.refl hr, .nil ρ, rfl⟩
  | cons p ps ih =>
    intro hp ρ H hr
    obtain ⟨h1, x, h2⟩ := hp p (List.mem_cons_self ..)
    obtain ⟨ρ1, H1, c1, e1, v1, g1⟩ := IH p.1 p.2 x ρ H h1 h2 hr
    obtain ⟨ρ2, H2, c2, e2, v2, g2⟩ := ih (fun q hq => hp q (List.mem_cons_of_mem _ hq)) ρ1 H1 e1.rel
    refine ⟨ρ2, H2, c1 ++ c2, e1.trans e2, ?_, c1, c2, rfl, ?_, g2⟩
    · simp only [List.map_cons, List.flatten_cons]
      exact VRl.append (v1.mono e2.le) v2
    · obtain ⟨K, rfl⟩ := e2.pre
      exact g1.mono

theorem tile_flat : ∀ (fs : List Field) (off tot : Nat) (cs : List Value), tileB P off fs tot = true → cs.length = tot → off ≤ tot ∧ ((fs.map (fun f => (cs.drop f.offset).take (P.cellsOf f.type))).flatten = cs.drop off) := by
  intro fs
  induction fs with
  | nil =>
    intro off tot cs h hl
    simp only [tileB, beq_iff_eq] at h
    subst h
    exact ⟨Nat.le_refl _, by rw [← hl]; simp⟩
  | cons f fs ih =>
    intro off tot cs h hl
    simp only [tileB, Bool.and_eq_true, beq_iff_eq] at h
    obtain ⟨h1, h2⟩ := h
    obtain ⟨h3, h4⟩ := ih _ _ cs h2 hl
    refine ⟨by omega, ?_⟩
    simp only [List.map_cons, List.flatten_cons, h4, h1]
    rw [← List.drop_drop]
    exact List.take_append_drop ..

theorem sum_rep : ∀ (n size : Nat), (List.replicate n size).sum = n * size
  | 0, size => by simp
  | n + 1, size => by rw [List.replicate_succ, List.sum_cons, sum_rep n size, Nat.add_mul]; omega
theorem flat_get {n size : Nat} {css : Nat → List Value} (hl : ∀ i, i < n → (css i).length = size) (hs : 0 < size) : ∀ (j : Nat), j < n * size → ((List.range n).map css).flatten[j]? = (css (j / size))[j % size]? := by
  induction n with
  | zero => intro j hj; omega
  | succ n ih =>
    intro j hj
    rw [List.range_succ, List.map_append, List.flatten_append]
    have hlen : ((List.range n).map css).flatten.length = n * size := by
      rw [List.length_flatten, List.map_map]
      have : (List.range n).map (List.length ∘ css) = List.replicate n size := by
        rw [List.eq_replicate_iff]
        refine ⟨by simp, fun b hb => ?_⟩
        obtain ⟨i, hi, rfl⟩ := List.mem_map.1 hb
        exact hl i (by have := List.mem_range.1 hi; omega)
      rw [this]; exact sum_rep n size
    rcases Nat.lt_or_ge j (n * size) with h | h
    · rw [List.getElem?_append_left (by omega)]
      exact ih (fun i hi => hl i (by omega)) j h
    · rw [List.getElem?_append_right (by omega), hlen]
      have h1 : j / size = n := by
        rw [Nat.div_eq_of_lt_le h]
        rw [Nat.add_mul] at hj ⊢; omega
      have h2 : j % size = j - n * size := by
        have := Nat.mod_add_div j size
        rw [h1, Nat.mul_comm] at this; omega
      simp [h1, h2]

theorem bring (hbase : B = W.heap.size) : ∀ (m n : Nat) (t : TypeId) (cs : List Value) (x : DataW HH × List MemPlace) (ρ : Ren) (H : Heap), plainT P n t = true → DataW.trod enc P W base (fun _ => true) held m t cs = some x → Rel P B ρ H W →
    ∃ ρ' H' cs', Ext P B W ρ H ρ' H' ∧ VRl ρ' cs' cs ∧ Good P H' n t cs' := by
  intro m
  induction m with
  | zero => intro n t cs x ρ H _ h; simp [DataW.trod] at h
  | succ m ih =>
    intro n t cs x ρ H hp h hr
    cases n with
    | zero => simp [plainT] at hp
    | succ n =>
      unfold plainT at hp
      split at hp
      · rename_i hu
        obtain ⟨b, rfl, _⟩ := DataW.trod_bool hu h
        exact ⟨ρ, H, [.bool b], Ext.refl hr, .cons (.bool b) (.nil ρ), by simp [Good, hu]⟩
      · rename_i k hu
        obtain ⟨y, rfl, _, hw⟩ := DataW.trod_int hu h
        refine ⟨ρ, H, [.int k y], Ext.refl hr, .cons (.int k y) (.nil ρ), ?_⟩
        simp only [Lit.wf, Bool.and_eq_true, decide_eq_true_eq] at hw
        simp [Good, hu, hw]
      · rename_i hu
        obtain ⟨s, rfl, _⟩ := DataW.trod_string hu h
        exact ⟨ρ, H, [.string s], Ext.refl hr, .cons (.string s) (.nil ρ), by simp [Good, hu]⟩
      · rename_i fs hu
        simp only [Bool.and_eq_true, List.all_eq_true] at hp
        obtain ⟨xs, m', hm, _, hl, hxl, hx⟩ := DataW.trod_struct hu h
        cases hm
        obtain ⟨_, hfl⟩ := tile_flat fs.toList 0 _ cs hp.2 hl
        obtain ⟨ρ', H', cs', e, v, g⟩ := bring_list (ih n) (fs.toList.map (fun f => (f.type, (cs.drop f.offset).take (P.cellsOf f.type)))) (fun p hpm => by
          obtain ⟨f, hf, rfl⟩ := List.mem_map.1 hpm
          refine ⟨hp.1 f hf, ?_⟩
          obtain ⟨i, hi⟩ := List.getElem?_of_mem hf
          have hi' : fs[i]? = some f := by simpa using hi
          have hlt : i < xs.length := by rw [hxl]; exact (Array.getElem?_eq_some_iff.1 hi').1
          exact ⟨_, (hx i f hi').trans (List.getElem?_eq_getElem hlt)⟩) ρ H hr
        refine ⟨ρ', H', cs', e, ?_, ?_⟩
        · rw [List.map_map] at v
          rw [List.drop_zero] at hfl
          rw [← hfl]; exact v
        · rw [List.map_map] at g
          simp only [Good, hu]; exact g
      · rename_i e hu
        simp only [Bool.and_eq_true, decide_eq_true_eq] at hp
        rcases DataW.trod_slice hu h with ⟨rfl, _⟩ | ⟨a, len, cap, elems, rest, m', hm, rfl, _, hb, hl, hcap, hlen, hel, hrest, _⟩
        · exact ⟨ρ, H, [.slice none 0 0], Ext.refl hr, .cons .sliceNil (.nil ρ), by simp [Good, hu]⟩
        · cases hm
          rcases Nat.eq_zero_or_pos cap with hc0 | hcpos
          · subst hc0
            have hl0 : len = 0 := by omega
            subst hl0
            exact ⟨ρ, H, [.slice (some ⟨0, 0, some 0⟩) 0 0], Ext.refl hr, .cons .sliceE (.nil ρ), by simp [Good, hu]⟩
          · have hfirst : ∃ c0, W.cells? base a (P.cellsOf e) = some c0 := by
              rcases Nat.eq_zero_or_pos len with h0 | h0
              · have h1 := (hrest rfl).2 0 (by omega)
                have h2 : 0 < rest.length := by rw [(hrest rfl).1]; omega
                rw [List.getElem?_eq_getElem h2] at h1
                obtain ⟨c0, g1, _⟩ := Option.bind_eq_some_iff.1 h1
                subst h0
                exact ⟨c0, by simpa [Addr.add] using g1⟩
              · have h1 := hel 0 h0
                rw [List.getElem?_eq_getElem (by omega)] at h1
                obtain ⟨c0, g1, _⟩ := Option.bind_eq_some_iff.1 h1
                exact ⟨c0, by simpa [Addr.add] using g1⟩
            obtain ⟨c0, hc0⟩ := hfirst
            obtain ⟨_, hc1, hc2⟩ := World.cells?_some hc0
            have hc3 : W.cell? a = c0[0]? := by simpa [Addr.add] using hc2 0 hp.2
            rw [List.getElem?_eq_getElem (by omega)] at hc3
            obtain ⟨b, off, spot⟩ := a
            unfold World.cell? at hc3
            simp only at hc3
            split at hc3
            · rename_i raw ty fz hraw
              cases spot with
              | some q => simp at hc3
              | none =>
                have hadd : ∀ p, (⟨b, off, none⟩ : Addr).add p = ⟨b, off + p, none⟩ := by
                  intro p; unfold Addr.add; split
                  · rename_i h0; subst h0; rfl
                  · rfl
                have hcell : ∀ k, W.cell? ⟨b, k, none⟩ = raw[k]? := by intro k; unfold World.cell?; simp [hraw]
                have hbl : b < W.heap.size := (Array.getElem?_eq_some_iff.1 hraw).1
                obtain ⟨css, hcss⟩ : ∃ css : Nat → List Value, ∀ i, i < len → W.cells? base ⟨b, off + i * P.cellsOf e, none⟩ (P.cellsOf e) = some (css i) ∧ ∃ y, DataW.trod enc P W base (fun _ => true) held m e (css i) = some y := by
                  refine ⟨fun i => (W.cells? base ⟨b, off + i * P.cellsOf e, none⟩ (P.cellsOf e)).getD [], fun i hi => ?_⟩
                  have h1 := hel i hi
                  rw [hadd, List.getElem?_eq_getElem (by omega)] at h1
                  obtain ⟨ci, g1, g2⟩ := Option.bind_eq_some_iff.1 h1
                  simp only [g1, Option.getD_some]
                  exact ⟨trivial, _, g2⟩
                obtain ⟨ρ1, H1, cs1, e1, v1, g1⟩ := bring_list (ih n) ((List.range len).map (fun i => (e, css i))) (fun p hpm => by
                  obtain ⟨i, hi, rfl⟩ := List.mem_map.1 hpm
                  exact ⟨hp.1, (hcss i (List.mem_range.1 hi)).2⟩) ρ H hr
                have hmap : ((List.range len).map (fun i => (e, css i))).map (·.1) = List.replicate len e := by
                  rw [List.map_map, List.eq_replicate_iff]
                  refine ⟨by simp, fun q hq => ?_⟩
                  obtain ⟨i, _, rfl⟩ := List.mem_map.1 hq; rfl
                rw [hmap] at g1
                rw [List.map_map] at v1
                have hcl : ∀ i, i < len → (css i).length = P.cellsOf e := fun i hi => (World.cells?_some (hcss i hi).1).2.1
                have hflen : ((List.range len).map css).flatten.length = len * P.cellsOf e := by
                  rw [List.length_flatten, List.map_map]
                  have : (List.range len).map (List.length ∘ css) = List.replicate len (P.cellsOf e) := by
                    rw [List.eq_replicate_iff]
                    refine ⟨by simp, fun q hq => ?_⟩
                    obtain ⟨i, hi, rfl⟩ := List.mem_map.1 hq
                    exact hcl i (List.mem_range.1 hi)
                  rw [this]; exact sum_rep _ _
                have hv1 : VRl ρ1 cs1 ((List.range len).map css).flatten := v1
                have hc1len : cs1.length = len * P.cellsOf e := hv1.1.trans hflen
                have hraw2 : ∀ j, j < len * P.cellsOf e → raw[j + off]? = ((List.range len).map css).flatten[j]? := by
                  intro j hj
                  rw [flat_get hcl hp.2 j hj]
                  have hdiv : j / P.cellsOf e < len := (Nat.div_lt_iff_lt_mul hp.2).2 hj
                  have hmod : j % P.cellsOf e < P.cellsOf e := Nat.mod_lt _ hp.2
                  have h3 := (World.cells?_some (hcss _ hdiv).1).2.2 _ hmod
                  have hadd2 : (⟨b, off + j / P.cellsOf e * P.cellsOf e, none⟩ : Addr).add (j % P.cellsOf e) = ⟨b, j + off, none⟩ := by
                    have := Nat.div_add_mod j (P.cellsOf e)
                    rw [Nat.mul_comm] at this
                    unfold Addr.add; split
                    · congr 1; omega
                    · simp only; congr 1; omega
                  rw [hadd2, hcell] at h3
                  exact h3
                have e2 := Ext.row (B := B) (W := W) e1.rel (ri := ⟨b, off, raw.size, 0, false⟩) (cs := cs1) rfl rfl hbl (by rw [hbase]; exact hbl) ⟨raw, ty, fz, hraw, rfl, fun i v hv => by
                  have hi : i < len * P.cellsOf e := by rw [← hc1len]; exact (List.getElem?_eq_some_iff.1 hv).1
                  obtain ⟨v', k1, k2⟩ := hv1.get hv
                  exact ⟨v', (hraw2 i hi).trans k1, k2⟩⟩
                refine ⟨_, _, [.slice (some ⟨H1.length, 0, none⟩) len len], e1.trans e2, .cons ?_ (.nil _), ?_⟩
                · have := VR.slice (ρ := ρ1.set H1.length ⟨b, off, raw.size, 0, false⟩) (id := H1.length) (o := 0) (len := len) (cap := len) (cap' := cap) (Ren.set_same ..) (Nat.le_refl _) hl (fun h => by cases h)
                  simpa using this
                · simp only [Good, hu]
                  refine .inr (.inr ⟨H1.length, len, cs1, rfl, by simp, hc1len, by omega, GoodL.mono (fun _ _ h => h.mono) g1⟩)
            · simp at hc3
      · cases hp
end Go.K
