/- A contract known in a small memory holds in every memory that has it as a part. No condition. -/
import Derived.Test.YthcjliffpebjaaaV9
namespace Go.K
open Go
set_option linter.unusedVariables false
noncomputable section
variable {P : Program}

/-- Deep enough to be renamed. -/
def rnOk : Nat → Value → Bool
  | 0, _ => false
  | d + 1, v => match v with
    | .func (.yield _) ⟨[]⟩ ⟨[]⟩ => true
    | .func (.func _) first cap => first.toList.all (rnOk d) && cap.toList.all (rnOk d)
    | .func _ _ _ => false
    | .agg cs => cs.toList.all (rnOk d)
    | .tuple vs => vs.toList.all (rnOk d)
    | _ => true
def rnoOk (d : Nat) : KObj → Bool
  | .cells _ _ cs => cs.all (rnOk d)
  | .map es => es.all fun e => rnOk d e.1 && rnOk d e.2
  | .loop .. => false
  | .dead => true
theorem arr_fwd {ρ ρ' : Ren} {σ : Nat → Option Nat} {d : Nat} (ih : ∀ {v r : Value}, rnOk d v = true → VR ρ v r → VR ρ' (rn σ d v) r) {cs : Array Value} {r : Array Value} (hc : cs.toList.all (rnOk d) = true)
    (h1 : cs.size = r.size) (h2 : ∀ (i : Nat) (v v' : Value), cs[i]? = some v → r[i]? = some v' → VR ρ v v') :
    (⟨cs.toList.map (rn σ d)⟩ : Array Value).size = r.size ∧ ∀ (i : Nat) (v v' : Value), (⟨cs.toList.map (rn σ d)⟩ : Array Value)[i]? = some v → r[i]? = some v' → VR ρ' v v' := by
  have e : (⟨cs.toList.map (rn σ d)⟩ : Array Value) = cs.map (rn σ d) := Array.toList_inj.1 (by simp)
  rw [e]
  refine ⟨by simpa using h1, fun i v v' a b => ?_⟩
  rw [Array.getElem?_map] at a
  obtain ⟨v0, a1, rfl⟩ := Option.map_eq_some_iff.1 a
  rw [List.all_eq_true] at hc
  exact ih (hc v0 (by rw [Array.mem_toList_iff]; exact Array.mem_of_getElem? a1)) (h2 i v0 v' a1 b)
theorem VR_rn {ρ ρ' : Ren} {σ : Nat → Option Nat} (hσ : ∀ id r, ρ id = some r → ∃ id', σ id = some id' ∧ ρ' id' = some r) : ∀ (d : Nat) {v r : Value}, rnOk d v = true → VR ρ v r → VR ρ' (rn σ d v) r := by
  intro d
  induction d with
  | zero => intro v r h; cases h
  | succ d ih =>
    intro v r hk h
    cases h with
    | junk => exact .junk _
    | bool b => exact .bool b
    | int k n => exact .int k n
    | float k n => exact .float k n
    | string s => exact .string s
    | ptrNil => exact .ptrNil
    | ptr k => obtain ⟨id', e1, e2⟩ := hσ _ _ k; simp only [rn, e1]; exact .ptr e2
    | sliceNil => exact .sliceNil
    | slice k hl hc ho => obtain ⟨id', e1, e2⟩ := hσ _ _ k; simp only [rn, e1]; exact .slice e2 hl hc ho
    | slice0 k => obtain ⟨id', e1, e2⟩ := hσ _ _ k; simp only [rn, e1]; exact .slice0 e2
    | sliceE => exact .sliceE
    | mapNil => exact .mapNil
    | map k => obtain ⟨id', e1, e2⟩ := hσ _ _ k; simp only [rn, e1]; exact .map e2
    | nilFunc => exact .nilFunc
    | nilIface => exact .nilIface
    | yield k => obtain ⟨id', e1, e2⟩ := hσ _ _ k; simp only [rn, e1]; exact .yield e2
    | @func f first first' cap cap' h1 h2 h3 h4 =>
      have hk' : (first.toList.all (rnOk d) && cap.toList.all (rnOk d)) = true := by
        unfold rnOk at hk
        exact hk
      simp only [Bool.and_eq_true] at hk'
      obtain ⟨a1, a2⟩ := arr_fwd (σ := σ) ih hk'.1 h1 h2
      obtain ⟨b1, b2⟩ := arr_fwd (σ := σ) ih hk'.2 h3 h4
      exact .func a1 a2 b1 b2
    | agg h1 h2 => obtain ⟨a1, a2⟩ := arr_fwd (σ := σ) ih hk h1 h2; exact .agg a1 a2
    | tuple h1 h2 => obtain ⟨a1, a2⟩ := arr_fwd (σ := σ) ih hk h1 h2; exact .tuple a1 a2
theorem rel_rno {ρ ρ' : Ren} {σ : Nat → Option Nat} (hσ : ∀ id r, ρ id = some r → ∃ id', σ id = some id' ∧ ρ' id' = some r) {d : Nat} {r : RI} {o : KObj} {w : World} (hk : rnoOk d o = true) (h : ObjRel ρ r o w) : ObjRel ρ' r (rno σ d o) w := by
  cases o with
  | cells own z cs =>
    obtain ⟨h1, h2, cs', ty, fz, h3, h4, h5, h6⟩ := h
    refine ⟨h1, h2, cs', ty, fz, h3, h4, h5, fun i v hv => ?_⟩
    rw [List.getElem?_map] at hv
    obtain ⟨v0, a1, rfl⟩ := Option.map_eq_some_iff.1 hv
    obtain ⟨v', g1, g2⟩ := h6 i v0 a1
    simp only [rnoOk, List.all_eq_true] at hk
    exact ⟨v', g1, VR_rn hσ d (hk v0 (List.mem_of_getElem? a1)) g2⟩
  | map es =>
    obtain ⟨h1, es', clock, h2, h3, h4⟩ := h
    refine ⟨h1, es', clock, h2, by simpa using h3, fun i k v hv => ?_⟩
    rw [List.getElem?_map] at hv
    obtain ⟨⟨k0, v0⟩, a1, a2⟩ := Option.map_eq_some_iff.1 hv
    cases a2
    obtain ⟨e', g1, g2, g3⟩ := h4 i k0 v0 a1
    simp only [rnoOk, List.all_eq_true, Bool.and_eq_true] at hk
    have := hk _ (List.mem_of_getElem? a1)
    exact ⟨e', g1, VR_rn hσ d this.1 g2, VR_rn hσ d this.2 g3⟩
  | loop st pe tm N ps as bd => cases hk
  | dead => trivial

/-- A small memory H0 as a part of H. -/
structure Part (P : Program) (H0 H : Heap) (σ : Nat → Option Nat) (d : Nat) : Prop where
  glob : ∀ g, g < P.globals.size → σ g = some g
  dom : ∀ id id', σ id = some id' → id < H0.length ∧ id' < H.length
  tot : ∀ id, id < H0.length → ∃ id', σ id = some id'
  inj : ∀ id1 id2 id', σ id1 = some id' → σ id2 = some id' → id1 = id2
  obj : ∀ id id' o, σ id = some id' → H0[id]? = some o → o = .dead ∨ (rnoOk d o = true ∧ H[id']? = some (rno σ d o))
/-- Names of a call's new blocks. -/
def sgNew (σ : Nat → Option Nat) (n0 n : Nat) (id : Nat) : Option Nat := if id < n0 then σ id else some (n + (id - n0))

theorem KCall.frame {f : FuncId} {args : List Value} {H0 H new : Heap} {v : Value} {σ : Nat → Option Nat} {d : Nat} (hp : Part P H0 H σ d) (h : KCall P f args H0 [] (Is v (H0 ++ new)))
    (hv : rnOk d v = true) (hn : new.all (fun o => rnoOk d o && o.owned) = true) :
    KCall P f (args.map (rn σ d)) H [] (Is (rn (sgNew σ H0.length H.length) d v) (H ++ new.map (rno (sgNew σ H0.length H.length) d))) := by
  refine ⟨h.1, fun B ρ w args' hr ha => ?_⟩
  have hσb : ∀ id id' r, σ id = some id' → ρ id' = some r → renBy ρ σ id = some r := by intro id id' r h1 h2; unfold renBy; rw [h1]; exact h2
  have hsome : ∀ {id r}, renBy ρ σ id = some r → ∃ id', σ id = some id' ∧ ρ id' = some r := fun h => Option.bind_eq_some_iff.1 h
  have hoa : ∀ o : KObj, o.owned = true → o.alive = true := by intro o ho; cases o <;> first | rfl | cases ho
  have hno : ∀ o, rnoOk d o = true → rno σ d o = .dead → o = .dead := by intro o h1 h2; cases o <;> first | rfl | (cases h1; done) | (cases h2; done)
  have hown : ∀ id id' o, σ id = some id' → H0[id]? = some o → o.alive = true → H[id']? = some (rno σ d o) ∧ (rno σ d o).owned = o.owned ∧ (rno σ d o).alive = true ∧ rnoOk d o = true := by
    intro id id' o h1 h2 h3
    rcases hp.obj id id' o h1 h2 with rfl | ⟨g1, g2⟩
    · cases h3
    · obtain ⟨a, b⟩ := rno_owned σ d o (hno o g1); exact ⟨g2, a, b.trans h3, g1⟩
  -- the small memory is there
  have hr0 : Rel P B (renBy ρ σ) H0 w := by
    refine ⟨hr.bsize, fun g hg => ?_, fun id r h => ?_, fun id r h => ?_, fun id r o h1 h2 => ?_, fun id r o h1 h2 h3 => ?_, fun id1 id2 r1 r2 o1 o2 h1 h2 g1 g2 k1 k2 hne => ?_⟩
    · obtain ⟨r, k1, k2, k3⟩ := hr.glob g hg; exact ⟨r, hσb g g r (hp.glob g hg) k1, k2, k3⟩
    · obtain ⟨id', h1, _⟩ := hsome h; exact (hp.dom _ _ h1).1
    · obtain ⟨id', _, h2⟩ := hsome h; exact hr.lt _ _ h2
    · obtain ⟨id', k1, k2⟩ := hsome h1
      rcases hp.obj id id' o k1 h2 with rfl | ⟨g1, g2⟩
      · trivial
      · exact rno_rel hσb (hr.obj _ _ _ k2 g2) (hno o g1)
    · obtain ⟨id', k1, k2⟩ := hsome h1
      obtain ⟨g1, g2, _, _⟩ := hown id id' o k1 h2 (hoa o h3)
      exact hr.base id' r _ k2 g1 (by rw [g2]; exact h3)
    · obtain ⟨i1, a1, a2⟩ := hsome h1
      obtain ⟨i2, b1, b2⟩ := hsome h2
      obtain ⟨c1, c2, _, _⟩ := hown id1 i1 o1 a1 g1 (hoa _ k1)
      obtain ⟨d1, _, d3, _⟩ := hown id2 i2 o2 b1 g2 k2
      exact hr.sep i1 i2 r1 r2 _ _ a2 b2 c1 d1 (by rw [c2]; exact k1) d3 (fun he => hne (hp.inj _ _ _ a1 (he ▸ b1)))
  have ha0 : VRl (renBy ρ σ) args args'.toList := ⟨by have := ha.1; simpa using this, fun i x x' a b => rn_VR hσb d (ha.2 i (rn σ d x) x' (by rw [List.getElem?_map, a]; rfl) b)⟩
  refine (h.2 B (renBy ρ σ) w args' hr0 ha0).mono ?_
  rintro e w' ⟨v1, v', ρ1, H1, rfl, hv', hpost, rfl, rfl⟩
  -- what is new
  have hsame : ∀ id, id < H0.length → (H0 ++ new)[id]? = H0[id]? := fun id hid => List.getElem?_append_left hid
  have hback : ∀ id r, id < H0.length → ρ1 id = some r → renBy ρ σ id = some r := by
    intro id r hid h1
    cases hq : renBy ρ σ id with
    | none => exact absurd (hpost.new id r h1 hq) (by omega)
    | some r0 => have := hpost.ext _ _ hq; rw [h1] at this; exact this.symm
  have hfwd : ∀ id r, ρ1 id = some r → ∃ id', sgNew σ H0.length H.length id = some id' ∧ (if id' < H.length then ρ id' else ρ1 (H0.length + (id' - H.length))) = some r := by
    intro id r h1
    unfold sgNew
    by_cases hid : id < H0.length
    · rw [if_pos hid]
      obtain ⟨id', k1, k2⟩ := hsome (hback id r hid h1)
      exact ⟨id', k1, by rw [if_pos (hp.dom _ _ k1).2]; exact k2⟩
    · rw [if_neg hid]
      refine ⟨_, rfl, ?_⟩
      rw [if_neg (by omega), show H0.length + (H.length + (id - H0.length) - H.length) = id by omega]; exact h1
  have hext : Ren.le ρ (fun id' => if id' < H.length then ρ id' else ρ1 (H0.length + (id' - H.length))) := fun id r h1 => by
    show (if _ then _ else _) = _
    rw [if_pos (hr.dom _ _ h1)]; exact h1
  have hnew : ∀ (k : Nat) (o : KObj), new[k]? = some o → rnoOk d o = true ∧ o.owned = true := by
    intro k o hk
    rw [List.all_eq_true] at hn
    have := hn o (List.mem_of_getElem? hk)
    simpa using this
  -- a new block lies where nothing was
  have hfresh : ∀ id r o, H0.length ≤ id → ρ1 id = some r → (H0 ++ new)[id]? = some o → w.heap.size ≤ r.b := by
    intro id r o hid h1 h2
    have ho : o.owned = true := by rw [List.getElem?_append_right hid] at h2; exact (hnew _ _ h2).2
    rcases Nat.lt_or_ge r.b w.heap.size with hlt | hge
    · obtain ⟨j, rj, oj, j1, j2, j3, j4⟩ := hpost.ob r.b hlt ⟨id, r, o, h1, h2, ho, rfl⟩
      have hj := hr0.dom _ _ j1
      exact absurd j4 (hpost.rel.sep j id rj r oj o (hpost.ext _ _ j1) h1 (by rw [hsame j hj]; exact j2) h2 j3 (hoa _ ho) (by omega))
    · exact hge
  have hOB : ∀ b, OB (renBy ρ σ) H0 b → OB ρ H b := by
    rintro b ⟨id, r, o, h1, h2, h3, h4⟩
    obtain ⟨id', k1, k2⟩ := hsome h1
    obtain ⟨g1, g2, _, _⟩ := hown id id' o k1 h2 (hoa o h3)
    exact ⟨id', r, _, k2, g1, by rw [g2]; exact h3, h4⟩
  have hgetn : ∀ id o', H.length ≤ id → (H ++ new.map (rno (sgNew σ H0.length H.length) d))[id]? = some o' → ∃ o, (H0 ++ new)[H0.length + (id - H.length)]? = some o ∧ o' = rno (sgNew σ H0.length H.length) d o ∧ rnoOk d o = true ∧ o.owned = true ∧ o'.owned = true := by
    intro id o' hid h2
    rw [List.getElem?_append_right hid, List.getElem?_map] at h2
    obtain ⟨o, a1, rfl⟩ := Option.map_eq_some_iff.1 h2
    refine ⟨o, ?_, rfl, (hnew _ _ a1).1, (hnew _ _ a1).2, ?_⟩
    · rw [List.getElem?_append_right (by omega), show H0.length + (id - H.length) - H0.length = id - H.length by omega]; exact a1
    · obtain ⟨x1, x2⟩ := hnew _ _ a1
      cases o <;> first | exact x2 | cases x1
  have hgeto : ∀ id, id < H.length → (H ++ new.map (rno (sgNew σ H0.length H.length) d))[id]? = H[id]? := fun id hid => List.getElem?_append_left hid
  refine ⟨_, v', (fun id' => if id' < H.length then ρ id' else ρ1 (H0.length + (id' - H.length))), _, rfl, VR_rn hfwd d hv hv', ?_, rfl, rfl⟩
  have hdom1 : ∀ id r, ¬ id < H.length → ρ1 (H0.length + (id - H.length)) = some r → id < H.length + new.length := by
    intro id r hid h1
    have := hpost.rel.dom _ _ h1
    simp at this; omega
  refine ⟨⟨Nat.le_trans hr.bsize hpost.size, fun g hg => ?_, fun id r h1 => ?_, fun id r h1 => ?_, fun id r o h1 h2 => ?_, fun id r o h1 h2 h3 => ?_, fun id1 id2 r1 r2 o1 o2 h1 h2 g1 g2 k1 k2 hne => ?_⟩, hext, fun id r h1 h2 => ?_, by simp, fun id h1 h2 => hgeto id h1, hpost.size, fun b h1 h2 => hpost.keep b h1 (fun ho => h2 (hOB b ho)), fun b h1 h2 => ?_, hpost.os, hpost.tape, hpost.output⟩
  · obtain ⟨r, k1, k2, k3⟩ := hr.glob g hg; exact ⟨r, hext _ _ k1, k2, k3⟩
  · split at h1
    · rw [List.length_append]; omega
    · rw [List.length_append, List.length_map]; exact hdom1 _ _ ‹_› h1
  · split at h1
    · exact Nat.lt_of_lt_of_le (hr.lt _ _ h1) hpost.size
    · exact hpost.rel.lt _ _ h1
  · split at h1
    · rename_i hid
      rw [hgeto id hid] at h2
      have hold := hr.obj _ _ _ h1 h2
      by_cases hob : OB (renBy ρ σ) H0 r.b
      · -- a block that the small memory owns
        obtain ⟨j, rj, oj, j1, j2, j3, j4⟩ := hob
        obtain ⟨id', k1, k2⟩ := hsome j1
        obtain ⟨c1, c2, c3, c4⟩ := hown j id' oj k1 j2 (hoa _ j3)
        by_cases hal : o.alive = true
        · have hid' : id = id' := by
            rcases Nat.decEq id id' with hne | he
            · exact absurd j4 (hr.sep id' id rj r _ o k2 h1 c1 h2 (by rw [c2]; exact j3) hal (Ne.symm hne))
            · exact he
          subst hid'
          rw [h1] at k2; cases k2
          rw [h2] at c1; cases c1
          have hj := hr0.dom _ _ j1
          have hnow := hpost.rel.obj j r oj (hpost.ext _ _ j1) (by rw [hsame j hj]; exact j2)
          have hb := ObjRel.back hpost.ext (hr0.obj _ _ _ j1 j2) hnow
          exact (rel_rno (σ := σ) (ρ' := ρ) (fun i r h => hsome h) c4 hb).mono hext rfl
        · cases o <;> first | trivial | exact absurd rfl hal
      · exact hold.mono hext (hpost.keep _ (hr.lt _ _ h1) hob)
    · rename_i hid
      obtain ⟨o0, a1, rfl, a3, a4, _⟩ := hgetn id o (by omega) h2
      exact rel_rno hfwd a3 (hpost.rel.obj _ _ _ h1 a1)
  · split at h1
    · rename_i hid; rw [hgeto id hid] at h2; exact hr.base _ _ _ h1 h2 h3
    · rename_i hid
      obtain ⟨o0, a1, _, a3, a4, _⟩ := hgetn id o (by omega) h2
      exact hpost.rel.base _ _ _ h1 a1 a4
  · have fr : ∀ id r o, ¬ id < H.length → ρ1 (H0.length + (id - H.length)) = some r → (H ++ new.map (rno (sgNew σ H0.length H.length) d))[id]? = some o → w.heap.size ≤ r.b := by
      intro id r o hid a b
      obtain ⟨o0, a1, _, _, _, _⟩ := hgetn id o (by omega) b
      exact hfresh _ r o0 (by omega) a a1
    by_cases c1 : id1 < H.length
    · rw [if_pos c1] at h1
      rw [hgeto id1 c1] at g1
      by_cases c2 : id2 < H.length
      · rw [if_pos c2] at h2
        rw [hgeto id2 c2] at g2
        exact hr.sep id1 id2 r1 r2 o1 o2 h1 h2 g1 g2 k1 k2 hne
      · rw [if_neg c2] at h2
        have := hr.lt _ _ h1
        have := fr id2 r2 o2 c2 h2 g2
        omega
    · rw [if_neg c1] at h1
      have f1 := fr id1 r1 o1 c1 h1 g1
      by_cases c2 : id2 < H.length
      · rw [if_pos c2] at h2
        have := hr.lt _ _ h2
        omega
      · rw [if_neg c2] at h2
        obtain ⟨p1, a1, _, _, a4, _⟩ := hgetn id1 o1 (by omega) g1
        obtain ⟨p2, b1, _, _, b4, _⟩ := hgetn id2 o2 (by omega) g2
        exact hpost.rel.sep _ _ r1 r2 p1 p2 h1 h2 a1 b1 a4 (hoa _ b4) (by omega)
  · split at h1
    · rw [h2] at h1; cases h1
    · omega
  · obtain ⟨id, r, o, k1, k2, k3, k4⟩ := h2
    simp only at k1
    split at k1
    · rename_i hid; rw [hgeto id hid] at k2; exact ⟨id, r, o, k1, k2, k3, k4⟩
    · rename_i hid
      obtain ⟨o0, a1, _, _, _, _⟩ := hgetn id o (by omega) k2
      have := hfresh _ r o0 (by omega) k1 a1
      omega
end
end Go.K
