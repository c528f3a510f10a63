/- A function's contract from its body; what a call leaves behind it is forgotten. No condition. -/
import Derived.Test.YthcjliffpebjaaaK13
namespace Go.K
open Go
set_option linter.unusedVariables false
variable {P : Program}

def initT (args : List Value) : Tm := fun t => (args[t]?).getD undef
def kresv (P : Program) (T : Tm) (H : Heap) : ResultVar → Option Value
  | .tmp t => some (T t)
  | .cell a ty => (kload P ty (T a) H).map (·.1)
def kres (P : Program) (rs : List ResultVar) (T : Tm) (H : Heap) : Option Value :=
  match rs with
  | [r] => kresv P T H r
  | rs => (rs.mapM (kresv P T H)).map fun vs => .tuple ⟨vs⟩
def resOk (N : Nat) (rs : List ResultVar) : Bool := rs.all fun r => match r with | .tmp t => decide (t < N) | .cell a _ => decide (a < N)

def rv (tmps : Array Value) (r : ResultVar) : Sem Value :=
  match r with
  | .tmp t => pure (tmps.getD t undef)
  | .cell a t => do loadVar t (← asAddr (tmps.getD a undef))
theorem results_rv (fn : Func) (tmps : Array Value) : results fn tmps = (do let vs ← List.toArray <$> fn.results.toList.mapM (rv tmps); pure (if h : vs.size = 1 then vs[0] else .tuple vs)) := by
  rw [← Array.mapM_eq_mapM_toList]
  rfl
theorem kresv_sim {B N : Nat} {ρ : Ren} {H : Heap} {w : World} {T : Tm} {tmps : Array Value} (hr : Rel P B ρ H w) (hT : TR ρ N T tmps) {r : ResultVar} (hk : (match r with | .tmp t => decide (t < N) | .cell a _ => decide (a < N)) = true) {v : Value} (h : kresv P T H r = some v) :
    ∃ v', (rv tmps r).run P w = .ok v' w ∧ VR ρ v v' := by
  cases r with
  | tmp t => simp only [kresv] at h; cases h; exact ⟨_, rfl, hT.2 t (by simpa using hk)⟩
  | cell a ty =>
    simp only [kresv] at h
    obtain ⟨⟨x, id⟩, hl, hh⟩ := Option.map_eq_some_iff.1 h
    cases hh
    have ha := hT.2 a (by simpa using hk)
    obtain ⟨v', h1, h2⟩ := kload_sim hl ha (fun r o g1 g2 => hr.obj _ r o g1 g2)
    refine ⟨v', ?_, h2⟩
    generalize T a = p at ha hl
    show ((do loadVar ty (← asAddr (tmps.getD a undef))) : Sem Value).run P w = _
    generalize tmps.getD a undef = q at ha h1 ⊢
    unfold kload at hl
    split at hl
    · cases ha
      simpa [Instr.loadAt, Instr.sureAddr, asAddr] using h1
    · simp at hl
theorem kres_sim {B N : Nat} {ρ : Ren} {H : Heap} {w : World} {T : Tm} {tmps : Array Value} (hr : Rel P B ρ H w) (hT : TR ρ N T tmps) {fn : Func} (hk : resOk N fn.results.toList = true) {v : Value} (h : kres P fn.results.toList T H = some v) :
    ∃ v', (results fn tmps).run P w = .ok v' w ∧ VR ρ v v' := by
  have many : ∀ (rs : List ResultVar) (vs : List Value), resOk N rs = true → rs.mapM (kresv P T H) = some vs →
      ∃ vs', (rs.mapM (rv tmps)).run P w = .ok vs' w ∧ VRl ρ vs vs' := by
    intro rs
    induction rs with
    | nil => intro vs _ h; simp at h; subst h; exact ⟨[], rfl, .nil ρ⟩
    | cons r rs ih =>
      intro vs hk h
      simp only [resOk, List.all_cons, Bool.and_eq_true] at hk
      rw [List.mapM_cons] at h
      simp only [Option.bind_eq_bind, Option.bind_eq_some_iff, Option.pure_def, Option.some.injEq] at h
      obtain ⟨v, h1, vs0, h2, rfl⟩ := h
      obtain ⟨v', h3, h4⟩ := kresv_sim hr hT hk.1 h1
      obtain ⟨vs', h5, h6⟩ := ih vs0 hk.2 h2
      refine ⟨v' :: vs', ?_, .cons h4 h6⟩
      rw [List.mapM_cons]
      simp only [Sem.run_bind, h3, Result.andThen_ok, h5, Sem.run_pure]
  rw [results_rv]
  unfold kres at h
  split at h
  · rename_i r hrs
    rw [hrs] at hk ⊢
    obtain ⟨v', h3, h4⟩ := kresv_sim hr hT (by simpa [resOk] using hk) h
    refine ⟨v', ?_, h4⟩
    have : (List.mapM (rv tmps) [r]).run P w = .ok [v'] w := by
      rw [List.mapM_cons]
      simp only [Sem.run_bind, h3, Result.andThen_ok, List.mapM_nil, Sem.run_pure]
    simp only [Sem.run_bind, Sem.run_map, this, Result.andThen_ok, Sem.run_pure]
    rfl
  · rename_i hno
    obtain ⟨vs, hvs, rfl⟩ := Option.map_eq_some_iff.1 h
    obtain ⟨vs', h1, h2⟩ := many _ vs hk hvs
    refine ⟨.tuple ⟨vs'⟩, ?_, .tuple (by simpa using h2.1) (fun i a b x y => h2.2 i a b (by simpa using x) (by simpa using y))⟩
    simp only [Sem.run_bind, Sem.run_map, h1, Result.andThen_ok, Sem.run_pure]
    have hl : vs.length = fn.results.toList.length := by
      have : ∀ (rs : List ResultVar) (vs : List Value), rs.mapM (kresv P T H) = some vs → vs.length = rs.length := by
        intro rs
        induction rs with
        | nil => intro vs h; simp at h; subst h; rfl
        | cons r rs ih =>
          intro vs h
          rw [List.mapM_cons] at h
          simp only [Option.bind_eq_bind, Option.bind_eq_some_iff, Option.pure_def, Option.some.injEq] at h
          obtain ⟨v, h1, vs0, h2, rfl⟩ := h
          simp [ih vs0 h2]
      exact this _ _ hvs
    have hl2 : vs'.length ≠ 1 := by
      rw [← h2.1, hl]
      intro h1
      obtain ⟨r, hr⟩ := List.length_eq_one_iff.1 h1
      exact hno r hr
    rw [dif_neg (by simpa using hl2)]

/-- The mark of a range over a function is taken up: nothing of the canonical heap turns. -/
theorem Rel.mark {B : Nat} {ρ : Ren} {H : Heap} {w : World} (hr : Rel P B ρ H w) {D : Nat} {x : Option (List Deferred)} (h : w.heap[D]? = some (.deferred x)) (y : Obj) : Rel P B ρ H (w.putObj D y) := by
  refine ⟨by rw [World.putObj]; simp; exact hr.bsize, hr.glob, hr.dom, fun id r h1 => by rw [World.putObj]; simp; exact hr.lt id r h1, fun id r o h1 h2 => ?_, hr.base, hr.sep⟩
  have ho := hr.obj id r o h1 h2
  by_cases e : r.b = D
  · subst e
    cases o with
    | cells own z cs => obtain ⟨_, _, cs', ty, fz, hb, _⟩ := ho; rw [h] at hb; cases hb
    | map es => obtain ⟨_, es', c, hb, _⟩ := ho; rw [h] at hb; cases hb
    | loop _ _ _ _ _ _ _ => obtain ⟨_, l, hb, _⟩ := ho; rw [h] at hb; cases hb
    | dead => trivial
  · exact ho.mono (Ren.le_refl _) (World.putObj_heap_other e)
theorem Post.mark {B base : Nat} {M : List Nat} {ρ ρ' : Ren} {H H' : Heap} {w w' : World} (p : Post P B base M ρ H w ρ' H' w') {D : Nat} {x : Option (List Deferred)} (h : w'.heap[D]? = some (.deferred x)) (hD : w.heap.size ≤ D) (y : Obj) : Post P B base M ρ H w ρ' H' (w'.putObj D y) :=
  { p with
    rel := p.rel.mark h y
    size := by rw [World.putObj]; simp; exact p.size
    keep := fun b h1 h2 => by rw [World.putObj_heap_other (by omega)]; exact p.keep b h1 h2 }

theorem leaves_sound {B base N : Nat} {M : List Nat} {ρ0 ρ : Ren} {H0 H : Heap} {w0 : World} {fn : Func} {T : Tm} {tmps : Array Value} {Q : Value → Heap → Prop} (hT : TR ρ N T tmps) (hk : resOk N fn.results.toList = true) {v : Value} (h : kres P fn.results.toList T H = some v) (hq : Q v H) :
    ∀ (Ds : List Nat) (w : World), Post P B base M ρ0 H0 w0 ρ H w → Ds.Pairwise (· ≠ ·) → (∀ D ∈ Ds, w0.heap.size ≤ D ∧ w.heap[D]? = some (.deferred (some []))) →
      LeavesInM Fence.wide 0 P fn tmps (CQ P B base M ρ0 H0 w0 Q) (Ds.map (fun D => ({ target := .collected D, args := #[] } : Deferred))) .returning w := by
  intro Ds
  induction Ds with
  | nil =>
    intro w hp _ _
    obtain ⟨v', h1, h2⟩ := kres_sim hp.rel hT hk h
    exact ⟨v', h1, v, v', ρ, H, rfl, h2, hp, hq⟩
  | cons D Ds ih =>
    intro w hp hd hD
    obtain ⟨hD1, hD2⟩ := hD D (List.mem_cons_self ..)
    rw [List.pairwise_cons] at hd
    refine ⟨by simp, .inl ⟨D, w.putObj D (.deferred none), rfl, run_takeDeferred hD2, ih _ (hp.mark hD2 hD1 _) hd.2 (fun E hE => ?_)⟩⟩
    obtain ⟨g1, g2⟩ := hD E (List.mem_cons_of_mem _ hE)
    exact ⟨g1, by rw [World.putObj_heap_other (Ne.symm (hd.1 E hE))]; exact g2⟩

/-- A function's contract from its body. -/
theorem KCall.enter {f : FuncId} {fn : Func} {c : Code} {args : List Value} {H : Heap} {M : List Nat} {Q : Value → Heap → Prop} (hf : P.funcs[f]? = some fn) (hname : (fn.name == "runtime.NumGoroutine") = false) (hb : fn.body = some c)
    (N : Nat) (hN : fn.ntmps = N) (hargs : args.length ≤ N) (rs : List ResultVar) (hrs : fn.results.toList = rs) (hk : resOk N rs = true)
    (h : KW P none N H.length M c (initT args) H (fun e T' H' => (e = .normal ∨ e = .ret) ∧ ∃ v, kres P rs T' H' = some v ∧ Q v H')) : KCall P f args H M Q := by
  subst hN
  subst hrs
  refine ⟨enters_of hf hname hb, fun B ρ w args' hr ha => ?_⟩
  refine callsIn_of_wp_marks hf hb trivial ?_
  have hT : TR ρ fn.ntmps (initT args) (args' ++ Array.replicate (fn.ntmps - args'.size) undef) := by
    have hl : args'.size = args.length := by have := ha.1; simpa using this.symm
    refine ⟨by simp; omega, fun t ht => ?_⟩
    unfold initT
    rcases Nat.lt_or_ge t args.length with h1 | h1
    · have h2 : t < args'.size := by omega
      have hv := ha.2 t _ _ (List.getElem?_eq_getElem h1) (List.getElem?_eq_getElem (by simpa using h2))
      have e2 : (args' ++ Array.replicate (fn.ntmps - args'.size) undef).getD t undef = args'[t] := by
        simp [Array.getElem?_append_left h2, h2]
      rw [e2]
      simpa [List.getElem?_eq_getElem h1] using hv
    · rw [List.getElem?_eq_none h1]
      have : (args' ++ Array.replicate (fn.ntmps - args'.size) undef).getD t undef = undef := by
        have h3 : t < (args' ++ Array.replicate (fn.ntmps - args'.size) undef).size := by simp; omega
        simp only [Array.getD, h3, dif_pos]
        rw [Array.getInternal_eq_getElem, Array.getElem_append_right (by omega)]
        simp
      rw [this]
      exact VR.undef ρ
  refine wpIn_mono (h B ρ w { tmps := args' ++ Array.replicate (fn.ntmps - args'.size) undef, defers := [] } w.heap.size hr (Nat.le_refl _) hT (Nat.le_refl _) (DOK.nil _ _)) ?_
  rintro e a' w' ⟨ρ', T', H', hp, hT', ⟨Ds, hD1, hD2, hD3⟩, he, v, hv, hq⟩
  have := leaves_sound hT' hk hv hq Ds w' hp hD2 hD3
  rcases he with rfl | rfl
  · show LeavesInM _ _ _ _ _ _ a'.defers _ _
    rw [hD1]; exact this
  · show LeavesInM _ _ _ _ _ _ a'.defers _ _
    rw [hD1]; exact this

/-! ## What a call leaves behind it is forgotten -/
def belowC (n : Nat) : Value → Bool
  | .bool _ | .int _ _ | .float _ _ | .string _ | .pointer none | .slice none _ _ | .map none | .nilFunc | .nilIface => true
  | .pointer (some a) => decide (a.block < n)
  | .slice (some a) _ _ => decide (a.block < n)
  | .map (some r) => decide (r < n)
  | _ => false
def belowV (n : Nat) : Value → Bool
  | .agg cs => cs.toList.all (belowC n)
  | .tuple vs => vs.toList.all fun v => match v with | .agg cs => cs.toList.all (belowC n) | v => belowC n v
  | v => belowC n v
def belowO (n : Nat) : KObj → Bool
  | .cells _ _ cs => cs.all (belowC n)
  | .dead => true
  | _ => false

theorem belowC_VR {ρ ρ' : Ren} {n : Nat} (hle : ∀ id r, id < n → ρ' id = some r → ρ id = some r) {v v' : Value} (h : belowC n v = true) (hv : VR ρ' v v') : VR ρ v v' := by
  cases hv with
  | junk => exact .junk _
  | bool b => exact .bool b
  | int k n => exact .int k n
  | float k n => exact .float k n
  | string s => exact .string s
  | ptrNil => exact .ptrNil
  | ptr hr => exact .ptr (hle _ _ (by simpa [belowC] using h) hr)
  | sliceNil => exact .sliceNil
  | slice hr hl hc ho => exact .slice (hle _ _ (by simpa [belowC] using h) hr) hl hc ho
  | slice0 hr => exact .slice0 (hle _ _ (by simpa [belowC] using h) hr)
  | sliceE => exact .sliceE
  | mapNil => exact .mapNil
  | map hr => exact .map (hle _ _ (by simpa [belowC] using h) hr)
  | nilFunc => exact .nilFunc
  | nilIface => exact .nilIface
  | func h1 h2 h3 h4 => simp [belowC] at h
  | yield hr => simp [belowC] at h
  | agg h1 h2 => simp [belowC] at h
  | tuple h1 h2 => simp [belowC] at h
theorem belowV_VR {ρ ρ' : Ren} {n : Nat} (hle : ∀ id r, id < n → ρ' id = some r → ρ id = some r) {v v' : Value} (h : belowV n v = true) (hv : VR ρ' v v') : VR ρ v v' := by
  cases hv with
  | junk => exact .junk _
  | agg h1 h2 =>
    simp only [belowV, List.all_eq_true] at h
    exact .agg h1 (fun i a b x y => belowC_VR hle (h a (by rw [Array.mem_toList_iff]; exact Array.mem_of_getElem? x)) (h2 i a b x y))
  | tuple h1 h2 =>
    simp only [belowV, List.all_eq_true] at h
    refine .tuple h1 (fun i a b x y => ?_)
    have ha := h a (by rw [Array.mem_toList_iff]; exact Array.mem_of_getElem? x)
    have hab := h2 i a b x y
    cases hab with
    | junk => exact .junk _
    | agg g1 g2 =>
      simp only [List.all_eq_true] at ha
      exact .agg g1 (fun i a b x y => belowC_VR hle (ha a (by rw [Array.mem_toList_iff]; exact Array.mem_of_getElem? x)) (g2 i a b x y))
    | bool b => exact belowC_VR hle ha (.bool b)
    | int k n => exact belowC_VR hle ha (.int k n)
    | float k n => exact belowC_VR hle ha (.float k n)
    | string s => exact belowC_VR hle ha (.string s)
    | ptrNil => exact belowC_VR hle ha .ptrNil
    | ptr hr => exact belowC_VR hle ha (.ptr hr)
    | sliceNil => exact belowC_VR hle ha .sliceNil
    | slice hr hl hc ho => exact belowC_VR hle ha (.slice hr hl hc ho)
    | slice0 hr => exact belowC_VR hle ha (.slice0 hr)
    | sliceE => exact .sliceE
    | mapNil => exact belowC_VR hle ha .mapNil
    | map hr => exact belowC_VR hle ha (.map hr)
    | nilFunc => exact belowC_VR hle ha .nilFunc
    | nilIface => exact belowC_VR hle ha .nilIface
    | func g1 g2 g3 g4 => simp [belowC] at ha
    | yield hr => simp [belowC] at ha
    | tuple g1 g2 => simp [belowC] at ha
  | bool b => exact .bool b
  | int k n => exact .int k n
  | float k n => exact .float k n
  | string s => exact .string s
  | ptrNil => exact .ptrNil
  | ptr hr => exact belowC_VR hle h (.ptr hr)
  | sliceNil => exact .sliceNil
  | slice hr hl hc ho => exact belowC_VR hle h (.slice hr hl hc ho)
  | slice0 hr => exact belowC_VR hle h (.slice0 hr)
  | sliceE => exact .sliceE
  | mapNil => exact .mapNil
  | map hr => exact belowC_VR hle h (.map hr)
  | nilFunc => exact .nilFunc
  | nilIface => exact .nilIface
  | func h1 h2 h3 h4 => simp [belowV, belowC] at h
  | yield hr => simp [belowV, belowC] at h

/-- The blocks that a call has made are forgotten, if nothing that is kept leads to them. -/
theorem KCall.trim2 {f : FuncId} {args : List Value} {H : Heap} {M : List Nat} {Q Q' : Value → Heap → Prop} (h : KCall P f args H M Q)
    (hq : ∀ v H', H.length ≤ H'.length → (∀ id, id < H.length → id ∉ M → H'[id]? = H[id]?) → Q v H' → Q' v H' ∨ (belowV H.length v = true ∧ (∀ id ∈ M, ∀ o, id < H.length → H'[id]? = some o → belowO H.length o = true) ∧ Q' v (H'.take H.length))) : KCall P f args H M Q' := by
  refine ⟨h.1, fun B ρ w args' hr ha => (h.2 B ρ w args' hr ha).mono ?_⟩
  rintro e w' ⟨v, v', ρ', H', rfl, hv, hp, hQ⟩
  rcases hq v H' hp.len hp.same hQ with g0 | ⟨g1, g2, g3⟩
  · exact ⟨v, v', ρ', H', rfl, hv, hp, g0⟩
  have hle : ∀ id r, id < H.length → ρ' id = some r → ρ id = some r := by
    intro id r hlt hr'
    cases hc : ρ id with
    | none => have := hp.new id r hr' hc; omega
    | some r0 => rw [hp.ext id r0 hc] at hr'; cases hr'; rfl
  have htk : ∀ id, id < H.length → (H'.take H.length)[id]? = H'[id]? := fun id hlt => by rw [List.getElem?_take, if_pos hlt]
  have hobj : ∀ id r o, ρ id = some r → (H'.take H.length)[id]? = some o → ObjRel ρ r o w' := by
    intro id r o h1 h2
    have hlt := hr.dom id r h1
    rw [htk id hlt] at h2
    have h3 := hp.rel.obj id r o (hp.ext _ _ h1) h2
    by_cases hm : id ∈ M
    · have hb := g2 id hm o hlt h2
      cases o with
      | cells own z cs =>
        obtain ⟨k1, k2, cs', ty, fz, k3, k4, k5, k6⟩ := h3
        simp only [belowO, List.all_eq_true] at hb
        exact ⟨k1, k2, cs', ty, fz, k3, k4, k5, fun i x hx => let ⟨x', y1, y2⟩ := k6 i x hx; ⟨x', y1, belowC_VR hle (hb x (List.mem_of_getElem? hx)) y2⟩⟩
      | dead => trivial
      | map es => simp [belowO] at hb
      | loop _ _ _ _ _ _ _ => simp [belowO] at hb
    · have hs := hp.same id hlt hm
      rw [hs] at h2
      have h4 := hr.obj id r o h1 h2
      cases o with
      | cells own z cs =>
        obtain ⟨k1, k2, cs', ty, fz, k3, k4, k5, k6⟩ := h3
        obtain ⟨_, _, cs2, _, _, _, _, _, j6⟩ := h4
        exact ⟨k1, k2, cs', ty, fz, k3, k4, k5, fun i x hx => let ⟨x', y1, y2⟩ := k6 i x hx; let ⟨x2, _, z2⟩ := j6 i x hx; ⟨x', y1, z2.down hp.ext y2⟩⟩
      | dead => trivial
      | map es =>
        obtain ⟨k1, es', c, k2, k3, k4⟩ := h3
        obtain ⟨_, es2, _, _, _, j4⟩ := h4
        exact ⟨k1, es', c, k2, k3, fun i k x hx => let ⟨e', y1, y2, y3⟩ := k4 i k x hx; let ⟨_, _, z2, z3⟩ := j4 i k x hx; ⟨e', y1, z2.down hp.ext y2, z3.down hp.ext y3⟩⟩
      | loop st pe tm N ps asg bd =>
        obtain ⟨k1, l, k2, k3, k4, k5, k6, k7, k8, k9⟩ := h3
        obtain ⟨_, l2, _, _, _, _, _, _, _, j9⟩ := h4
        exact ⟨k1, l, k2, k3, k4, k5, k6, k7, k8, fun t ht => (j9 t ht).down hp.ext (k9 t ht)⟩
  refine ⟨v, v', ρ, H'.take H.length, rfl, belowV_VR hle g1 hv, ⟨⟨Nat.le_trans hr.bsize hp.size, hr.glob, fun id r h1 => ?_, fun id r h1 => hp.rel.lt id r (hp.ext _ _ h1), hobj, fun id r o h1 h2 h3 => ?_, ?_⟩, Ren.le_refl _, fun id r h1 h2 => (by rw [h2] at h1; cases h1), ?_, fun id h1 h2 => ?_, hp.size, hp.keep, fun b h1 h2 => ?_, hp.os, hp.tape, hp.output⟩, g3⟩
  · have := hr.dom id r h1; have := hp.len; simp; omega
  · rw [htk id (hr.dom id r h1)] at h2; exact hp.rel.base id r o (hp.ext _ _ h1) h2 h3
  · intro id id' r r' o o' h1 h1' h2 h2' h3 h3' hne
    rw [htk id (hr.dom id r h1)] at h2
    rw [htk id' (hr.dom id' r' h1')] at h2'
    exact hp.rel.sep id id' r r' o o' (hp.ext _ _ h1) (hp.ext _ _ h1') h2 h2' h3 h3' hne
  · have := hp.len; simp; omega
  · rw [htk id h1]; exact hp.same id h1 h2
  · obtain ⟨id, r, o, k1, k2, k3, k4⟩ := h2
    rw [htk id (hr.dom id r k1)] at k2
    exact hp.ob b h1 ⟨id, r, o, hp.ext _ _ k1, k2, k3, k4⟩
theorem KCall.trim {f : FuncId} {args : List Value} {H : Heap} {M : List Nat} {Q Q' : Value → Heap → Prop} (h : KCall P f args H M Q)
    (hq : ∀ v H', H.length ≤ H'.length → (∀ id, id < H.length → id ∉ M → H'[id]? = H[id]?) → Q v H' → belowV H.length v = true ∧ (∀ id ∈ M, ∀ o, id < H.length → H'[id]? = some o → belowO H.length o = true) ∧ Q' v (H'.take H.length)) : KCall P f args H M Q' :=
  h.trim2 fun v H' a b c => .inr (hq v H' a b c)
end Go.K
