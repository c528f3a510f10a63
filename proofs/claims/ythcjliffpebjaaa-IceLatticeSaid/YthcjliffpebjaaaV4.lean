/- Blocks renamed: what a round of a loop has made may be named anew. No condition. -/
import Derived.Test.YthcjliffpebjaaaV3
namespace Go.K
open Go
set_option linter.unusedVariables false
noncomputable section
variable {P : Program}

/-! ## Values with blocks renamed -/
/-- A value to which nothing real is related. -/
def bad : Value := .iface 0 .nilIface
theorem VR.bad {ρ : Ren} {v' : Value} (h : VR ρ bad v') : False := by cases h
def rn (σ : Nat → Option Nat) : Nat → Value → Value
  | 0, _ => bad
  | d + 1, v => match v with
    | .pointer (some ⟨id, off, none⟩) => match σ id with | some id' => .pointer (some ⟨id', off, none⟩) | none => bad
    | .slice (some ⟨id, off, none⟩) len cap => match σ id with | some id' => .slice (some ⟨id', off, none⟩) len cap | none => bad
    | .map (some id) => match σ id with | some id' => .map (some id') | none => bad
    | .func (.yield l) ⟨[]⟩ ⟨[]⟩ => match σ l with | some l' => .func (.yield l') #[] #[] | none => bad
    | .func (.func f) first cap => .func (.func f) ⟨first.toList.map (rn σ d)⟩ ⟨cap.toList.map (rn σ d)⟩
    | .func _ _ _ => bad
    | .agg cs => .agg ⟨cs.toList.map (rn σ d)⟩
    | .tuple vs => .tuple ⟨vs.toList.map (rn σ d)⟩
    | v => v
def rno (σ : Nat → Option Nat) (d : Nat) : KObj → KObj
  | .cells own z cs => .cells own z (cs.map (rn σ d))
  | .map es => .map (es.map fun e => (rn σ d e.1, rn σ d e.2))
  | .loop st pe tm N ps as bd => .dead
  | .dead => .dead
theorem arr_map {ρ ρ' : Ren} {σ : Nat → Option Nat} {d : Nat} (ih : ∀ {v r : Value}, VR ρ' (rn σ d v) r → VR ρ v r) {cs : Array Value} {r : Array Value}
    (h1 : (⟨cs.toList.map (rn σ d)⟩ : Array Value).size = r.size) (h2 : ∀ (i : Nat) (v v' : Value), (⟨cs.toList.map (rn σ d)⟩ : Array Value)[i]? = some v → r[i]? = some v' → VR ρ' v v') :
    cs.size = r.size ∧ ∀ (i : Nat) (v v' : Value), cs[i]? = some v → r[i]? = some v' → VR ρ v v' := by
  refine ⟨by simpa using h1, fun i v v' a b => ih (h2 i _ v' ?_ b)⟩
  have : (⟨cs.toList.map (rn σ d)⟩ : Array Value) = cs.map (rn σ d) := Array.toList_inj.1 (by simp)
  rw [this, Array.getElem?_map, a]; rfl
theorem rn_VR {ρ ρ' : Ren} {σ : Nat → Option Nat} (hσ : ∀ id id' r, σ id = some id' → ρ' id' = some r → ρ id = some r) : ∀ (d : Nat) {v r : Value}, VR ρ' (rn σ d v) r → VR ρ v r := by
  intro d
  induction d with
  | zero => intro v r h; exact (VR.bad h).elim
  | succ d ih =>
    intro v r h
    unfold rn at h
    split at h
    · split at h
      · rename_i g; cases h with | ptr k => exact .ptr (hσ _ _ _ g k)
      · exact (VR.bad h).elim
    · split at h
      · rename_i g
        cases h with
        | slice k hl hc ho => exact .slice (hσ _ _ _ g k) hl hc ho
        | slice0 k => exact .slice0 (hσ _ _ _ g k)
      · exact (VR.bad h).elim
    · split at h
      · rename_i g; cases h with | map k => exact .map (hσ _ _ _ g k)
      · exact (VR.bad h).elim
    · split at h
      · rename_i g; cases h with | yield k => exact .yield (hσ _ _ _ g k)
      · exact (VR.bad h).elim
    · cases h with
      | func h1 h2 h3 h4 =>
        obtain ⟨a1, a2⟩ := arr_map ih h1 h2
        obtain ⟨b1, b2⟩ := arr_map ih h3 h4
        exact .func a1 a2 b1 b2
    · exact (VR.bad h).elim
    · cases h with | agg h1 h2 => obtain ⟨a1, a2⟩ := arr_map ih h1 h2; exact .agg a1 a2
    · cases h with | tuple h1 h2 => obtain ⟨a1, a2⟩ := arr_map ih h1 h2; exact .tuple a1 a2
    · rename_i n1 n2 n3 n4 n5 n6 n7 n8
      cases h with
      | junk => exact .junk _
      | bool b => exact .bool b
      | int k n => exact .int k n
      | float k n => exact .float k n
      | string s => exact .string s
      | ptrNil => exact .ptrNil
      | ptr k => exact absurd rfl (n1 _ _)
      | sliceNil => exact .sliceNil
      | slice k hl hc ho => exact absurd rfl (n2 _ _ _ _)
      | slice0 k => exact absurd rfl (n2 _ _ _ _)
      | sliceE => exact .sliceE
      | mapNil => exact .mapNil
      | map k => exact absurd rfl (n3 _)
      | nilFunc => exact .nilFunc
      | nilIface => exact .nilIface
      | func h1 h2 h3 h4 => exact absurd rfl (n5 _ _ _)
      | yield k => exact absurd rfl (n4 _)
      | agg h1 h2 => exact absurd rfl (n7 _)
      | tuple h1 h2 => exact absurd rfl (n8 _)
theorem rno_rel {ρ ρ' : Ren} {σ : Nat → Option Nat} (hσ : ∀ id id' r, σ id = some id' → ρ' id' = some r → ρ id = some r) {d : Nat} {r : RI} {o : KObj} {w : World} (h : ObjRel ρ' r (rno σ d o) w) (hl : rno σ d o = .dead → o = .dead) : ObjRel ρ r o w := by
  cases o with
  | cells own z cs =>
    obtain ⟨h1, h2, cs', ty, fz, h3, h4, h5, h6⟩ := h
    refine ⟨h1, h2, cs', ty, fz, h3, h4, h5, fun i v hv => ?_⟩
    obtain ⟨v', g1, g2⟩ := h6 i (rn σ d v) (by rw [List.getElem?_map, hv]; rfl)
    exact ⟨v', g1, rn_VR hσ d g2⟩
  | map es =>
    obtain ⟨h1, es', clock, h2, h3, h4⟩ := h
    refine ⟨h1, es', clock, h2, by simpa using h3, fun i k v hv => ?_⟩
    obtain ⟨e', g1, g2, g3⟩ := h4 i (rn σ d k) (rn σ d v) (by rw [List.getElem?_map, hv]; rfl)
    exact ⟨e', g1, rn_VR hσ d g2, rn_VR hσ d g3⟩
  | loop st pe tm N ps as bd => exact absurd (hl rfl) (by simp)
  | dead => trivial

/-! ## The same memory under other names -/
def renBy (ρ' : Ren) (σ : Nat → Option Nat) : Ren := fun id => (σ id).bind ρ'
theorem belowO_rel {ρ ρ' : Ren} {n : Nat} (hle : ∀ id r, id < n → ρ' id = some r → ρ id = some r) {r : RI} {o : KObj} {w : World} (hb : belowO n o = true) (h : ObjRel ρ' r o w) : ObjRel ρ r o w := by
  cases o with
  | cells own z cs =>
    obtain ⟨k1, k2, cs', ty, fz, k3, k4, k5, k6⟩ := h
    simp only [belowO, List.all_eq_true] at hb
    exact ⟨k1, k2, cs', ty, fz, k3, k4, k5, fun i x hx => let ⟨x', y1, y2⟩ := k6 i x hx; ⟨x', y1, belowC_VR hle (hb x (List.mem_of_getElem? hx)) y2⟩⟩
  | dead => trivial
  | map es => simp [belowO] at hb
  | loop _ _ _ _ _ _ _ => simp [belowO] at hb
/-- A block that is as it was holds nothing that was not there. -/
theorem ObjRel.back {ρ ρ' : Ren} (hle : Ren.le ρ ρ') {r : RI} {o : KObj} {w w' : World} (h : ObjRel ρ r o w) (h' : ObjRel ρ' r o w') : ObjRel ρ r o w' := by
  cases o with
  | cells own z cs =>
    obtain ⟨k1, k2, cs', ty, fz, k3, k4, k5, k6⟩ := h'
    obtain ⟨_, _, cs2, _, _, _, _, _, j6⟩ := h
    exact ⟨k1, k2, cs', ty, fz, k3, k4, k5, fun i x hx => let ⟨x', y1, y2⟩ := k6 i x hx; let ⟨x2, _, z2⟩ := j6 i x hx; ⟨x', y1, z2.down hle y2⟩⟩
  | dead => trivial
  | map es =>
    obtain ⟨k1, es', c, k2, k3, k4⟩ := h'
    obtain ⟨_, es2, _, _, _, j4⟩ := h
    exact ⟨k1, es', c, k2, k3, fun i k x hx => let ⟨e', y1, y2, y3⟩ := k4 i k x hx; let ⟨_, _, z2, z3⟩ := j4 i k x hx; ⟨e', y1, z2.down hle y2, z3.down hle y3⟩⟩
  | loop st pe tm N ps asg bd =>
    obtain ⟨k1, l, k2, k3, k4, k5, k6, k7, k8, k9⟩ := h'
    obtain ⟨_, l2, _, _, _, _, _, _, _, j9⟩ := h
    exact ⟨k1, l, k2, k3, k4, k5, k6, k7, k8, fun t ht => (j9 t ht).down hle (k9 t ht)⟩
theorem rno_owned (σ : Nat → Option Nat) (d : Nat) (o : KObj) (h : rno σ d o = .dead → o = .dead) : (rno σ d o).owned = o.owned ∧ (rno σ d o).alive = o.alive := by
  cases o with
  | loop _ _ _ _ _ _ _ => exact absurd (h rfl) (by simp)
  | _ => exact ⟨rfl, rfl⟩

/-- What is called (T, H) with names from n0 on given anew by σ, is a part of (T', H'); H0 is the memory before, of which only ML may have turned. -/
structure Emb (H0 : Heap) (ML : List Nat) (N : Nat) (σ : Nat → Option Nat) (d : Nat) (T : Tm) (H : Heap) (T' : Tm) (H' : Heap) : Prop where
  len : H0.length ≤ H.length
  old : ∀ id, id < H0.length → σ id = some id
  dom : ∀ id id', σ id = some id' → id < H.length
  inj : ∀ id1 id2 id', σ id1 = some id' → σ id2 = some id' → id1 = id2
  slots : ∀ t, t < N → T t = junk ∨ T' t = rn σ d (T t)
  same : ∀ id, id < H0.length → id ∉ ML → H[id]? = H0[id]?
  obj : ∀ id id' o, σ id = some id' → (H0.length ≤ id ∨ id ∈ ML) → H[id]? = some o → (o = .dead ∨ (∃ o', H'[id']? = some o' ∧ (o' = rno σ d o ∧ (rno σ d o = .dead → o = .dead) ∨ (o' = o ∧ belowO H0.length o = true))))

theorem Emb.post {B base : Nat} {M ML : List Nat} {N : Nat} {σ : Nat → Option Nat} {d : Nat} {ρ0 ρ' : Ren} {H0 H H' : Heap} {w0 w' : World} {T T' : Tm} (e : Emb H0 ML N σ d T H T' H') (h0 : Rel P B ρ0 H0 w0) (hbase : base ≤ H0.length)
    (hML : ∀ id ∈ ML, id < base → id ∈ M) (hun : ∀ id, id < H0.length → id ∉ ML → H'[id]? = H0[id]?)
    (p : Post P B base M ρ0 H0 w0 ρ' H' w') : Post P B base M ρ0 H0 w0 (renBy ρ' σ) H w' ∧ ∀ tmps, TR ρ' N T' tmps → TR (renBy ρ' σ) N T tmps := by
  have hσ : ∀ id id' r, σ id = some id' → ρ' id' = some r → renBy ρ' σ id = some r := by
    intro id id' r h1 h2; unfold renBy; rw [h1]; exact h2
  have hsome : ∀ {id r}, renBy ρ' σ id = some r → ∃ id', σ id = some id' ∧ ρ' id' = some r := fun h => Option.bind_eq_some_iff.1 h
  have hext : Ren.le ρ0 (renBy ρ' σ) := fun id r h => hσ id id r (e.old id (h0.dom _ _ h)) (p.ext _ _ h)
  -- an old block that has not turned
  have hcase : ∀ id id' o, σ id = some id' → H[id]? = some o → (o = .dead ∨ (∃ o', H'[id']? = some o' ∧ (o' = rno σ d o ∧ (rno σ d o = .dead → o = .dead) ∨ (o' = o ∧ belowO H0.length o = true) ∨ (o' = o ∧ id' = id ∧ id < H0.length ∧ H0[id]? = some o)))) := by
    intro id id' o h1 h2
    by_cases hc : H0.length ≤ id ∨ id ∈ ML
    · rcases e.obj id id' o h1 hc h2 with h | ⟨o', g1, g2 | g2⟩
      · exact .inl h
      · exact .inr ⟨o', g1, .inl g2⟩
      · exact .inr ⟨o', g1, .inr (.inl g2)⟩
    · have hl : id < H0.length := by
        rcases Nat.lt_or_ge id H0.length with h | h
        · exact h
        · exact absurd (.inl h) hc
      have hm : id ∉ ML := fun h => hc (.inr h)
      rw [e.old id hl] at h1
      cases h1
      have h3 := e.same id hl hm
      exact .inr ⟨o, by rw [hun id hl hm, ← h3]; exact h2, .inr (.inr ⟨rfl, rfl, hl, by rw [← h3]; exact h2⟩)⟩
  -- what is owned, or lives, here, is so there
  have hown : ∀ id id' o, σ id = some id' → H[id]? = some o → o.alive = true → ∃ o', H'[id']? = some o' ∧ o'.owned = o.owned ∧ o'.alive = true := by
    intro id id' o h1 h2 h3
    rcases hcase id id' o h1 h2 with rfl | ⟨o', g1, g2⟩
    · cases h3
    · rcases g2 with ⟨rfl, g3⟩ | ⟨rfl, _⟩ | ⟨rfl, _⟩
      · obtain ⟨a, b⟩ := rno_owned σ d o g3
        exact ⟨_, g1, a, b.trans h3⟩
      · exact ⟨_, g1, rfl, h3⟩
      · exact ⟨_, g1, rfl, h3⟩
  have hoa : ∀ o : KObj, o.owned = true → o.alive = true := by intro o ho; cases o <;> first | rfl | cases ho
  have hrel : Rel P B (renBy ρ' σ) H w' := by
    refine ⟨p.rel.bsize, fun g hg => ?_, fun id r h => ?_, fun id r h => ?_, fun id r o h1 h2 => ?_, fun id r o h1 h2 h3 => ?_, fun id1 id2 r1 r2 o1 o2 h1 h2 g1 g2 k1 k2 hne => ?_⟩
    · obtain ⟨r, k1, k2, k3⟩ := h0.glob g hg
      exact ⟨r, hext _ _ k1, k2, k3⟩
    · obtain ⟨id', h1, _⟩ := hsome h; exact e.dom _ _ h1
    · obtain ⟨id', h1, h2⟩ := hsome h; exact p.rel.lt _ _ h2
    · obtain ⟨id', k1, k2⟩ := hsome h1
      rcases hcase id id' o k1 h2 with rfl | ⟨o', g1, g2⟩
      · trivial
      · have := p.rel.obj _ _ _ k2 g1
        rcases g2 with ⟨rfl, g3⟩ | ⟨rfl, g4⟩ | ⟨rfl, rfl, g4, g5⟩
        · exact rno_rel hσ this g3
        · exact belowO_rel (fun i r hi a => hσ i i r (e.old i hi) a) g4 this
        · have hr0 : ρ0 id' = some r := by
            cases hq : ρ0 id' with
            | none => exact absurd (p.new _ _ k2 hq) (by omega)
            | some r0 => have := p.ext _ _ hq; rw [k2] at this; exact this.symm
          have hb := ObjRel.back p.ext (h0.obj _ _ _ hr0 g5) this
          exact hb.mono hext rfl
    · obtain ⟨id', k1, k2⟩ := hsome h1
      obtain ⟨o', g1, g2, _⟩ := hown id id' o k1 h2 (hoa o h3)
      exact p.rel.base id' r o' k2 g1 (by rw [g2]; exact h3)
    · obtain ⟨i1, a1, a2⟩ := hsome h1
      obtain ⟨i2, b1, b2⟩ := hsome h2
      obtain ⟨o1', c1, c2, _⟩ := hown id1 i1 o1 a1 g1 (hoa _ k1)
      obtain ⟨o2', d1, _, d3⟩ := hown id2 i2 o2 b1 g2 k2
      exact p.rel.sep i1 i2 r1 r2 o1' o2' a2 b2 c1 d1 (by rw [c2]; exact k1) d3 (fun he => hne (e.inj _ _ _ a1 (he ▸ b1)))
  refine ⟨⟨hrel, hext, fun id r h1 h2 => ?_, e.len, fun id h1 h2 => ?_, p.size, p.keep, fun b h1 h2 => ?_, p.os, p.tape, p.output⟩, fun tmps ht => ⟨ht.1, fun t hlt => ?_⟩⟩
  · rcases Nat.lt_or_ge id H0.length with hl | hl
    · obtain ⟨id', k1, k2⟩ := hsome h1
      rw [e.old id hl] at k1
      cases k1
      exact p.new id r k2 h2
    · exact hl
  · exact e.same id (Nat.lt_of_lt_of_le h1 hbase) (fun hm => h2 (hML id hm h1))
  · obtain ⟨id, r, o, k1, k2, k3, k4⟩ := h2
    obtain ⟨id', a1, a2⟩ := hsome k1
    obtain ⟨o', c1, c2, _⟩ := hown id id' o a1 k2 (hoa _ k3)
    exact p.ob b h1 ⟨id', r, o', a2, c1, by rw [c2]; exact k3, k4⟩
  · have := ht.2 t hlt
    rcases e.slots t hlt with h | h
    · rw [h]; exact .junk _
    · rw [h] at this; exact rn_VR hσ d this

/-! ## Loops whose rounds begin in memory that is named anew -/
theorem KW.loopR {ro : Option Nat} {N base : Nat} {M ML : List Nat} {c : Code} {T : Tm} {H : Heap} {Q : Exit → Tm → Heap → Prop} (hML : ∀ id ∈ ML, id < base → id ∈ M) (I : Nat → Tm → Heap → Prop)
    (h0 : ∃ n σ d T1 H1, I n T1 H1 ∧ Emb H ML N σ d T1 H1 T H)
    (hI : ∀ n T1 H1, I n T1 H1 → ∀ id, id < H.length → id ∉ ML → H1[id]? = H[id]?)
    (round : ∀ n T1 H1, H.length ≤ H1.length → I n T1 H1 → KW P ro N H.length ML c T1 H1 (thenK (fun T2 H2 => ∃ k σ d T3 H3, k < n ∧ I k T3 H3 ∧ Emb H ML N σ d T3 H3 T2 H2) Q)) : KW P ro N base M (.loop c) T H Q := by
  intro B ρ w a n0 h1 h2 h3 h4 h5
  have key : ∀ (m : Nat) (n : Nat) (ρ' : Ren) (T' : Tm) (H' : Heap) (w' : World) (a' : Act), n < m → Post P B base M ρ H w ρ' H' w' → TR ρ' N T' a'.tmps → DOK n0 a'.defers w' → I n T' H' →
      Code.roundsIn (Fw ro) 0 P c (fun e a' w' => ∃ ρ' T' H', Post P B base M ρ H w ρ' H' w' ∧ TR ρ' N T' a'.tmps ∧ DOK n0 a'.defers w' ∧ Q e T' H') m a' w' := by
    intro m
    induction m with
    | zero => intro n _ _ _ _ _ hlt; omega
    | succ m ih =>
      intro n ρ' T' H' w' a' hlt hp hT hD hIn
      rw [roundsIn_succ]
      refine wpIn_mono (round n T' H' hp.len hIn B ρ' w' a' n0 hp.rel hp.len hT (Nat.le_trans h4 hp.size) hD) ?_
      rintro e a2 w2 ⟨ρ2, T2, H2, k1, k2, k3, k4⟩
      have k1' : Post P B base M ρ' H' w' ρ2 H2 w2 := k1.weaken h2 (fun id hid hb => hML id hid hb)
      cases e with
      | normal =>
        obtain ⟨k, σ, d, T3, H3, hk, hI3, he⟩ := k4
        obtain ⟨q1, q2⟩ := he.post h1 h2 hML (fun id hid hm => (k1.same id hid hm).trans (hI n T' H' hIn id hid hm)) (hp.trans k1')
        exact ih k _ T3 H3 w2 a2 (by omega) q1 (q2 _ k2) k3 hI3
      | _ => exact ⟨ρ2, T2, H2, hp.trans k1', k2, k3, k4⟩
  obtain ⟨n, σ, d, T1, H1, hIn, he⟩ := h0
  obtain ⟨q1, q2⟩ := he.post h1 h2 hML (fun _ _ _ => rfl) (Post.refl h1)
  exact wpIn_loop_rounds (n + 1) (key (n + 1) n _ T1 H1 w a (by omega) q1 (q2 _ h3) h5 hIn)
end
end Go.K
