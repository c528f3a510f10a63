/- Ranges over functions: the statement, and the call of its yield. No condition. -/
import Derived.Test.YthcjliffpebjaaaK18
namespace Go.K
open Go
set_option linter.unusedVariables false
variable {P : Program}

/-- A block that the canonical heap does not know. -/
theorem Post.besides {B base : Nat} {M : List Nat} {ρ : Ren} {H : Heap} {w : World} (hr : Rel P B ρ H w) (o : Obj) : Post P B base M ρ H w ρ H (w.alloc o) := by
  have hold : ∀ k, k < w.heap.size → (w.alloc o).heap[k]? = w.heap[k]? := fun k hk => RowKit.Below.heap_alloc w o k hk
  refine ⟨⟨by simp; have := hr.bsize; omega, hr.glob, hr.dom, fun id r h => by have := hr.lt _ _ h; simp; omega, fun id r ob h1 h2 => ?_, hr.base, hr.sep⟩, Ren.le_refl _, fun id r a b => (by rw [b] at a; cases a), Nat.le_refl _, fun _ _ _ => rfl, by simp, fun b h1 _ => hold b h1, fun _ _ h => h, rfl, rfl, rfl⟩
  exact (hr.obj id r ob h1 h2).mono (Ren.le_refl _) (hold _ (hr.lt _ _ h1))

theorem KW.rangeFunc {N base : Nat} {M Mc : List Nat} {T : Tm} {H : Heap} {Q : Exit → Tm → Heap → Prop} {t : Nat} {ps : Array Tmp} {assign body : Code} {gf : FuncId} {first cap : Array Value}
    (ht : t < N) (hg : T t = .func (.func gf) first cap)
    (h : KCall P gf (first.toList ++ [.func (.yield H.length) #[] #[]] ++ cap.toList) (H ++ [.loop .ready none T N ps assign body]) Mc
      (fun _ H' => ∃ st pe tm' N' ps' as' bd', H'[H.length]? = some (.loop st pe tm' N' ps' as' bd') ∧ st ≠ .busy ∧
        (match pe with | none => Q .normal T (H'.set H.length .dead) | some c => KW P none N base M c T (H'.set H.length .dead) Q)))
    (hM : ∀ id ∈ Mc, id < base → id ∈ M) : KW P none N base M (.rangeFunc (.tmp t) ps assign body) T H Q := by
  intro B ρ w a n0 h1 h2 h3 h4 h5
  refine wpIn_rangeFunc (fun fn hfn => ?_)
  obtain ⟨rec, hrec⟩ : ∃ rec : Loop, rec = { state := .ready, pending := none, fn, tmps := a.tmps, params := ps, assign, body, defers := w.heap.size } := ⟨_, rfl⟩
  have p0 : Post P B base M ρ H w ρ H (w.alloc (.deferred (some []))) := Post.besides h1 _
  have hnone : ρ H.length = none := by
    cases hq : ρ H.length with
    | none => rfl
    | some r => exact absurd (h1.dom _ _ hq) (Nat.lt_irrefl _)
  have hl : ((w.alloc (.deferred (some []))).alloc (.loop rec)).heap[w.heap.size + 1]? = some (.loop rec) := by
    have := World.alloc_heap_new (w.alloc (.deferred (some []))) (.loop rec); rwa [World.size_alloc] at this
  have hle : Ren.le ρ (ρ.set H.length ⟨w.heap.size + 1, 0, 0, 0, true⟩) := Ren.le_set hnone
  have p1 : Post P B base M ρ H (w.alloc (.deferred (some []))) (ρ.set H.length ⟨w.heap.size + 1, 0, 0, 0, true⟩) (H ++ [.loop .ready none T N ps assign body]) ((w.alloc (.deferred (some []))).alloc (.loop rec)) := by
    refine Post.alloc p0.rel (by simp) h2 ⟨rfl, rec, hl, ?_⟩
    subst hrec
    exact ⟨rfl, rfl, rfl, rfl, rfl, h3.1, fun t ht => (h3.2 t ht).mono hle⟩
  have pp := p0.trans p1
  have hv := (h3.2 t ht).mono hle
  rw [hg] at hv
  obtain ⟨W1, hW1⟩ : ∃ W1, (w.alloc (.deferred (some []))).alloc (.loop rec) = W1 := ⟨_, rfl⟩
  rw [hW1] at pp hl
  have hD : W1.heap[w.heap.size]? = some (.deferred (some [])) := by
    rw [← hW1]
    exact (RowKit.Below.heap_alloc _ _ _ (by simp)).trans (World.alloc_heap_new w _)
  have hdok : DOK n0 ({ target := .collected w.heap.size, args := #[] } :: a.defers) W1 := by
    obtain ⟨Ds, k1, k2, k3⟩ := DOK.post h1 h5 pp
    obtain ⟨Ds0, j1, j2, j3⟩ := h5
    have hDs : ∀ D ∈ Ds, D ≠ w.heap.size := by
      intro D hmem e
      subst e
      have : Ds = Ds0 := (List.map_inj_right (fun x y hxy => by cases hxy; rfl)).1 (k1.symm.trans j1)
      subst this
      have := (Array.getElem?_eq_some_iff.1 (j3 _ hmem).2).1
      omega
    refine ⟨w.heap.size :: Ds, by rw [k1]; rfl, List.pairwise_cons.2 ⟨fun D hm => (hDs D hm).symm, k2⟩, fun D hm => ?_⟩
    rcases List.mem_cons.1 hm with rfl | hm
    · exact ⟨h4, hD⟩
    · exact k3 D hm
  have hev : a.eval (.tmp t) = a.tmps.getD t undef := rfl
  cases hx : a.tmps.getD t undef with
  | func f' first' cap' =>
    rw [hx] at hv
    cases hv with
    | func g1 g2 g3 g4 =>
    refine ⟨w.heap.size + 1, [{ target := .collected w.heap.size, args := #[] }], W1, { target := .fn (.func gf) cap', args := first' ++ #[.func (.yield (w.heap.size + 1)) #[] #[]] }, W1, gf,
      first' ++ #[.func (.yield (w.heap.size + 1)) #[] #[]] ++ cap', W1, ?_, ?_, ?_, ?_, fun h => by simp [Fw, Fence.wide] at h, ?_⟩
    · rw [← hW1, hrec]; exact run_enterLoop_outer _ _ _ _ _
    · simp only [resolve, hev, hx]
      simp [go_sem]
    · intro f' _; trivial
    · simp only [invoke]; exact h.1 _ _
    · show CallsIn (Fw none) 0 P gf _ W1 _
      have l1 : VRl (ρ.set H.length ⟨w.heap.size + 1, 0, 0, 0, true⟩) first.toList first'.toList := ⟨by simpa using g1, fun i a b x y => g2 i a b (by simpa using x) (by simpa using y)⟩
      have l2 : VRl (ρ.set H.length ⟨w.heap.size + 1, 0, 0, 0, true⟩) cap.toList cap'.toList := ⟨by simpa using g3, fun i a b x y => g4 i a b (by simpa using x) (by simpa using y)⟩
      have ly : VR (ρ.set H.length ⟨w.heap.size + 1, 0, 0, 0, true⟩) (.func (.yield H.length) #[] #[]) (.func (.yield (w.heap.size + 1)) #[] #[]) :=
        VR.yield (r := ⟨w.heap.size + 1, 0, 0, 0, true⟩) (Ren.set_same ..)
      refine CallsIn.mono (F := Fw none) (h.2 B _ W1 _ pp.rel (by
        rw [Array.toList_append, Array.toList_append]
        exact VRl.append (VRl.append l1 (.cons ly (.nil _))) l2)) ?_
      rintro e w' ⟨v, v', ρ', H', rfl, q2, q3, st, pe, tm', N', ps', as', bd', q5, q6, q7⟩
      have hid : ρ' H.length = some ⟨w.heap.size + 1, 0, 0, 0, true⟩ := q3.ext _ _ (Ren.set_same ..)
      obtain ⟨o1, lr, o2, o3, o4, _⟩ := q3.rel.obj _ _ _ hid q5
      have pe1 : Post P B base M ρ H w ρ' H' w' := pp.trans (q3.weaken (by simp; omega) hM)
      have pe2 : Post P B base M ρ' H' w' ρ' (H'.set H.length .dead) (w'.putObj (w.heap.size + 1) (.loop { lr with state := .exhausted })) :=
        Post.put q3.rel hid q5 rfl (by rw [o2]; rfl) trivial (fun hlt => absurd hlt (by omega))
      refine ⟨pe, w'.putObj (w.heap.size + 1) (.loop { lr with state := .exhausted }), ?_, ?_⟩
      · rw [← o4]; exact run_endLoop o2 (by rw [o3]; exact q6)
      · have pall := pe1.trans pe2
        have hT := h3.mono (pe1.ext)
        have hd2 : DOK n0 ([{ target := .collected w.heap.size, args := #[] }] ++ a.defers) (w'.putObj (w.heap.size + 1) (.loop { lr with state := .exhausted })) := DOK.post q3.rel (DOK.post pp.rel hdok q3) pe2
        cases pe with
        | none => exact ⟨ρ', T, _, pall, hT, hd2, q7⟩
        | some c =>
          refine wpIn_mono (q7 B ρ' _ { a with defers := [{ target := .collected w.heap.size, args := #[] }] ++ a.defers } n0 pe2.rel (Nat.le_trans h2 pall.len) hT (Nat.le_trans h4 pall.size) hd2) ?_
          rintro e a2 w2 ⟨ρ2, T2, H2, r1, r2, r3, r4⟩
          exact ⟨ρ2, T2, H2, pall.trans r1, r2, r3, r4⟩
  | _ => rw [hx] at hv; cases hv

/-! ## A call of yield -/
def jumpOf : Exit → Option (Option Code)
  | .normal => some none
  | .ret => some (some .ret)
  | .exit id => some (some (.exit id))
  | .goto t => some (some (.goto t))
  | _ => none
def roundQ (L : Nat) (Q : Value → Heap → Prop) (e : Exit) (T : Tm) (H : Heap) : Prop :=
  ∃ j, jumpOf e = some j ∧ ∃ st pe tm N ps as bd, H[L]? = some (.loop st pe tm N ps as bd) ∧ Q (.bool j.isNone) (H.set L (.loop (if j.isNone then .ready else .done) j tm N ps as bd))
def setps (ps : List Nat) (args : List Value) (T : Tm) : Tm := (ps.zip args).foldl (fun T p => upd T p.1 p.2) T

theorem TR.setps {ρ : Ren} {N : Nat} : ∀ (ps : List Nat) (args args' : List Value) (T : Tm) (tmps : Array Value), TR ρ N T tmps → (∀ p ∈ ps, p < N) → VRl ρ args args' → TR ρ N (setps ps args T) ((ps.zip args').foldl (fun tmps p => tmps.setIfInBounds p.1 p.2) tmps) := by
  intro ps
  induction ps with
  | nil => intro args args' T tmps h _ _; exact h
  | cons p ps ih =>
    intro args args' T tmps h hp hv
    cases args with
    | nil =>
      cases args' with
      | nil => exact h
      | cons _ _ => have := hv.1; simp at this
    | cons x xs =>
      cases args' with
      | nil => have := hv.1; simp at this
      | cons x' xs' =>
        simp only [K.setps, List.zip_cons_cons, List.foldl_cons]
        refine ih xs xs' _ _ ?_ (fun q hq => hp q (List.mem_cons_of_mem _ hq)) ⟨by have := hv.1; simpa using this, fun i a b ha hb => hv.2 (i + 1) a b (by simpa using ha) (by simpa using hb)⟩
        exact TR.put (a := { tmps := tmps, defers := [] }) (dst := some p) h (fun d hd => by cases hd; exact hp _ (List.mem_cons_self ..)) (hv.2 0 x x' rfl rfl)

theorem KApp.yield {L N : Nat} {args : List Value} {H : Heap} {M : List Nat} {Q : Value → Heap → Prop} {tm : Tm} {ps : Array Tmp} {assign body : Code} {pe : Option Code}
    (hL : H[L]? = some (.loop .ready pe tm N ps assign body)) (hps : args.length = ps.size) (hlt : ∀ p ∈ ps.toList, p < N) (hM : L ∈ M)
    (h : ∀ ro, KW P (some ro) N H.length M assign (setps ps.toList args tm) H (thenK (fun T1 H1 => ∃ pe1 tm1 N1 ps1 as1 bd1, H1[L]? = some (.loop .ready pe1 tm1 N1 ps1 as1 bd1) ∧
      KW P (some ro) N H.length M body T1 (H1.set L (.loop .busy pe1 tm1 N1 ps1 as1 bd1)) (roundQ L Q)) (fun _ _ _ => False))) : KApp P (.func (.yield L) #[] #[]) args H M Q := by
  intro B ρ w fv' args' hr hf ha
  cases hf with
  | @yield _ r hr' =>
  obtain ⟨o1, lr, o2, o3, o4, o5, o6, o7, o8, o9⟩ := hr.obj _ _ _ hr' hL
  have hrun : ((do let d ← Deferred.ofValue (.func (.yield r.b) #[] #[]) args'; invoke d.target d.args : Sem Next)).run P w = .ok (.round r.b lr.fn ((lr.params.zip args').foldl (fun tmps (t, a) => tmps.setIfInBounds t a) lr.tmps) lr.assign lr.body) w := by
    have := run_yield (P := P) (args := args') o2 (by rw [o5, ← hps]; simpa using ha.1.symm)
    simp [Deferred.ofValue, invoke, this]
  rw [hrun]
  show RoundIn Fence.wide 0 P r.b lr.fn _ lr.assign lr.body w _
  refine roundIn_of_wpIn trivial ?_
  have hT : TR ρ N (setps ps.toList args tm) ((lr.params.zip args').foldl (fun tmps (t, a) => tmps.setIfInBounds t a) lr.tmps) := by
    rw [o5]
    have := TR.setps ps.toList args args'.toList tm lr.tmps ⟨o8, o9⟩ hlt ha
    rw [← Array.foldl_toList, Array.toList_zip]
    exact this
  rw [o6, o7]
  refine wpIn_mono (h r.b B ρ w { tmps := _, defers := [] } w.heap.size hr (Nat.le_refl _) hT (Nat.le_refl _) (DOK.nil _ _)) ?_
  rintro e a1 w1 ⟨ρ1, T1, H1, p1, t1, d1, q1⟩
  cases e with
  | normal =>
    obtain ⟨pe1, tm1, N1, ps1, as1, bd1, hL1, hbody⟩ := q1
    have hr1 := p1.ext _ _ hr'
    obtain ⟨x1, lr1, x2, x3, x4, x5, x6, x7, x8, x9⟩ := p1.rel.obj _ _ _ hr1 hL1
    refine ⟨_, run_beginRound x2 x3, ?_⟩
    have hlt1 := p1.rel.lt _ _ hr1
    have p2 : Post P B H.length M ρ1 H1 w1 ρ1 (H1.set L (.loop .busy pe1 tm1 N1 ps1 as1 bd1)) (w1.putObj r.b (.loop { lr1 with state := .busy })) :=
      Post.put p1.rel hr1 hL1 rfl (by rw [x2]; rfl) ⟨x1, _, World.putObj_heap_same hlt1, rfl, x4, x5, x6, x7, x8, x9⟩ (fun _ => hM)
    refine wpIn_mono (hbody B ρ1 _ a1 w.heap.size p2.rel (Nat.le_trans p1.len p2.len) t1 (Nat.le_trans p1.size p2.size) (DOK.post p1.rel d1 p2)) ?_
    rintro e a3 w3 ⟨ρ3, T3, H3, p3, t3, d3, j, hj, st, pe, tm3, N3, ps3, as3, bd3, hL3, hQ⟩
    have hr3 := p3.ext _ _ hr1
    obtain ⟨y1, lr3, y2, y3, y4, y5, y6, y7, y8, y9⟩ := p3.rel.obj _ _ _ hr3 hL3
    have hlt3 := p3.rel.lt _ _ hr3
    have p4 : Post P B H.length M ρ3 H3 w3 ρ3 (H3.set L (.loop (if j.isNone then .ready else .done) j tm3 N3 ps3 as3 bd3)) (w3.putObj r.b (.loop { lr3 with state := if j.isNone then .ready else .done, pending := j })) :=
      Post.put p3.rel hr3 hL3 rfl (by rw [y2]; rfl) ⟨y1, _, World.putObj_heap_same hlt3, rfl, rfl, y5, y6, y7, y8, y9⟩ (fun _ => hM)
    have hend := run_endRound (P := P) j y2
    have hq : CQ P B H.length M ρ H w Q (.returned (.bool j.isNone)) (w3.putObj r.b (.loop { lr3 with state := if j.isNone then .ready else .done, pending := j })) :=
      ⟨_, _, ρ3, _, rfl, .bool _, ((p1.trans p2).trans p3).trans p4, hQ⟩
    cases e <;> simp only [jumpOf, Option.some.injEq, reduceCtorEq] at hj <;> subst hj <;> exact ⟨_, _, hend, hq⟩
  | _ => exact q1.elim
end Go.K
