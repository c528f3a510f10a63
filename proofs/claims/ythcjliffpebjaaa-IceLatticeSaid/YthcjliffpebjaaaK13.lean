/- The program logic: calls, code, and their rules. No condition. -/
import Derived.Test.YthcjliffpebjaaaK12
import Derived.LoopNIn
import Derived.RangeFuncLeaves
namespace Go.K
open Go
set_option linter.unusedVariables false
variable {P : Program}

/-! ## Frames -/
def TR (ρ : Ren) (N : Nat) (T : Tm) (tmps : Array Value) : Prop := tmps.size = N ∧ ∀ t, t < N → VR ρ (T t) (tmps.getD t undef)
theorem TR.mono {ρ ρ' : Ren} (hle : Ren.le ρ ρ') {N : Nat} {T : Tm} {tmps : Array Value} (h : TR ρ N T tmps) : TR ρ' N T tmps := ⟨h.1, fun t ht => (h.2 t ht).mono hle⟩
theorem TR.put {ρ : Ren} {N : Nat} {T : Tm} {a : Act} (h : TR ρ N T a.tmps) {dst : Option Nat} {v v' : Value} (hd : ∀ d, dst = some d → d < N) (hv : VR ρ v v') : TR ρ N (put T dst v) (a.put dst v').tmps := by
  cases dst with
  | none => exact h
  | some d =>
    refine ⟨by simp [Act.put, h.1], fun t ht => ?_⟩
    by_cases e : t = d
    · subst e
      have : t < a.tmps.size := by rw [h.1]; exact ht
      simpa [K.put, upd, Act.put, this] using hv
    · have e' : d ≠ t := Ne.symm e
      have := h.2 t ht
      simpa [K.put, upd, e, Act.put, Array.getElem?_setIfInBounds_ne e'] using this

/-- The marks of ranges over functions, still to be taken up at the frame's end. -/
def DOK (n0 : Nat) (ds : List Deferred) (w : World) : Prop :=
  ∃ Ds : List Nat, ds = Ds.map (fun D => ({ target := .collected D, args := #[] } : Deferred)) ∧ Ds.Pairwise (· ≠ ·) ∧ ∀ D ∈ Ds, n0 ≤ D ∧ w.heap[D]? = some (.deferred (some []))
theorem DOK.nil (n0 : Nat) (w : World) : DOK n0 [] w := ⟨[], rfl, .nil, fun _ h => by cases h⟩
theorem not_OB_of_deferred {B : Nat} {ρ : Ren} {H : Heap} {w : World} (hr : Rel P B ρ H w) {D : Nat} {x : Option (List Deferred)} (h : w.heap[D]? = some (.deferred x)) : ¬ OB ρ H D := by
  rintro ⟨id, r, o, h1, h2, h3, rfl⟩
  have := hr.obj id r o h1 h2
  cases o with
  | cells own z cs => obtain ⟨_, _, cs', ty, fz, hb, _⟩ := this; rw [h] at hb; cases hb
  | map es => obtain ⟨_, es', c, hb, _⟩ := this; rw [h] at hb; cases hb
  | loop _ _ _ _ _ _ _ => obtain ⟨_, l, hb, _⟩ := this; rw [h] at hb; cases hb
  | dead => simp [KObj.owned] at h3
theorem DOK.post {B base : Nat} {M : List Nat} {ρ ρ' : Ren} {H H' : Heap} {w w' : World} {n0 : Nat} {ds : List Deferred} (hr : Rel P B ρ H w) (h : DOK n0 ds w) (p : Post P B base M ρ H w ρ' H' w') : DOK n0 ds w' := by
  obtain ⟨Ds, h1, h2, h3⟩ := h
  refine ⟨Ds, h1, h2, fun D hD => ⟨(h3 D hD).1, ?_⟩⟩
  have hd := (h3 D hD).2
  rw [p.keep D (Array.getElem?_eq_some_iff.1 hd).1 (not_OB_of_deferred hr hd)]
  exact hd

/-! ## Calls -/
/-- A call of function f enters it (it has a Go body). -/
def Enters (P : Program) (f : FuncId) : Prop := ∀ (args : Array Value) (w : World), (callFunc f args).run P w = .ok (.enter f args) w
theorem enters_of {f : FuncId} {fn : Func} {c : Code} (hf : P.funcs[f]? = some fn) (hname : (fn.name == "runtime.NumGoroutine") = false) (hb : fn.body = some c) : Enters P f := by
  intro args w
  have h1 : fn.name ≠ "runtime.NumGoroutine" := by simpa using hname
  simp [callFunc, hf, h1, hb]

def CQ (P : Program) (B : Nat) (base : Nat) (M : List Nat) (ρ : Ren) (H : Heap) (w : World) (Q : Value → Heap → Prop) (e : Ending) (w' : World) : Prop :=
  ∃ v v' ρ' H', e = .returned v' ∧ VR ρ' v v' ∧ Post P B base M ρ H w ρ' H' w' ∧ Q v H'
def KCall (P : Program) (f : FuncId) (args : List Value) (H : Heap) (M : List Nat) (Q : Value → Heap → Prop) : Prop :=
  Enters P f ∧ ∀ (B : Nat) (ρ : Ren) (w : World) (args' : Array Value), Rel P B ρ H w → VRl ρ args args'.toList → CallsIn Fence.wide 0 P f args' w (CQ P B H.length M ρ H w Q)
theorem KCall.mono {f : FuncId} {args : List Value} {H : Heap} {M M' : List Nat} {Q Q' : Value → Heap → Prop} (h : KCall P f args H M Q) (hM : ∀ id ∈ M, id < H.length → id ∈ M') (hQ : ∀ v H', Q v H' → Q' v H') : KCall P f args H M' Q' :=
  ⟨h.1, fun B ρ w args' hr ha => (h.2 B ρ w args' hr ha).mono fun e w' ⟨v, v', ρ', H', h1, h2, h3, h4⟩ => ⟨v, v', ρ', H', h1, h2, h3.weaken (Nat.le_refl _) hM, hQ _ _ h4⟩⟩
theorem KCall.post {f : FuncId} {args : List Value} {H : Heap} {M : List Nat} {Q Q' : Value → Heap → Prop} (h : KCall P f args H M Q) (hQ : ∀ v H', Q v H' → Q' v H') : KCall P f args H M Q' := h.mono (fun _ h _ => h) hQ

def Hands (P : Program) (r : Result Next) (R : Ending → World → Prop) : Prop :=
  match r with
  | .ok (.enter f args) w' => CallsIn Fence.wide 0 P f args w' R
  | .ok (.round l f tmps assign body) w' => RoundIn Fence.wide 0 P l f tmps assign body w' R
  | _ => False
def KApp (P : Program) (fv : Value) (args : List Value) (H : Heap) (M : List Nat) (Q : Value → Heap → Prop) : Prop :=
  ∀ (B : Nat) (ρ : Ren) (w : World) (fv' : Value) (args' : Array Value), Rel P B ρ H w → VR ρ fv fv' → VRl ρ args args'.toList →
    Hands P ((do let d ← Deferred.ofValue fv' args'; invoke d.target d.args : Sem Next).run P w) (CQ P B H.length M ρ H w Q)
theorem KApp.func {f : FuncId} {first cap : Array Value} {args : List Value} {H : Heap} {M : List Nat} {Q : Value → Heap → Prop} (h : KCall P f (first.toList ++ args ++ cap.toList) H M Q) :
    KApp P (.func (.func f) first cap) args H M Q := by
  intro B ρ w fv' args' hr hf ha
  cases hf with
  | @func _ _ first' _ cap' g1 g2 g3 g4 =>
    have hrun : ((do let d ← Deferred.ofValue (.func (.func f) first' cap') args'; invoke d.target d.args : Sem Next)).run P w = .ok (.enter f (first' ++ args' ++ cap')) w := by
      simp only [Deferred.ofValue, invoke]
      exact h.1 _ w
    rw [hrun]
    refine h.2 B ρ w _ hr ?_
    rw [Array.toList_append, Array.toList_append]
    have l1 : VRl ρ first.toList first'.toList := ⟨by simpa using g1, fun i a b x y => g2 i a b (by simpa using x) (by simpa using y)⟩
    have l2 : VRl ρ cap.toList cap'.toList := ⟨by simpa using g3, fun i a b x y => g4 i a b (by simpa using x) (by simpa using y)⟩
    exact VRl.append (VRl.append l1 ha) l2
theorem KApp.mono {fv : Value} {args : List Value} {H : Heap} {M M' : List Nat} {Q Q' : Value → Heap → Prop} (h : KApp P fv args H M Q) (hM : ∀ id ∈ M, id < H.length → id ∈ M') (hQ : ∀ v H', Q v H' → Q' v H') : KApp P fv args H M' Q' := by
  intro B ρ w fv' args' hr hf ha
  have := h B ρ w fv' args' hr hf ha
  unfold Hands at *
  have key : ∀ e w', CQ P B H.length M ρ H w Q e w' → CQ P B H.length M' ρ H w Q' e w' := fun e w' ⟨v, v', ρ', H', h1, h2, h3, h4⟩ => ⟨v, v', ρ', H', h1, h2, h3.weaken (Nat.le_refl _) hM, hQ _ _ h4⟩
  split at this
  · exact CallsIn.mono this key
  · exact RoundIn.mono this key
  · exact this.elim

/-! ## Operations in their order -/
def kwanted (o : Oper) (ops : Array Oper) (T : Tm) : Bool :=
  match o.guard with
  | none => true
  | some (g, want) =>
    match (ops[g]?).bind (·.dst) with
    | some d => (match T d with | .bool b => b == want | _ => false)
    | none => false
/-- Is it known whether an operation is carried out? -/
def kknown (o : Oper) (ops : Array Oper) (T : Tm) : Bool :=
  match o.guard with
  | none => true
  | some (g, _) =>
    match (ops[g]?).bind (·.dst) with
    | some d => (match T d with | .chan _ => false | _ => true)
    | none => true
def KStep (P : Program) (base : Nat) (M : List Nat) (o : Oper) (e : Operand → Value) (H : Heap) (K : Value → Heap → Prop) : Prop :=
  match oclass o.op with
  | .pure => ∃ v rd, kpure P o.op e H = some (v, rd) ∧ K v H
  | .alloc => ∃ v ob, kalloc P o.op e H.length = some (v, ob) ∧ K v (H ++ [ob])
  | .write => ∃ v H' wr, kwrite P o.op e H = some (v, H', wr) ∧ (∀ id ∈ wr, id < base → id ∈ M) ∧ K v H'
  | .call => match o.op with
    | .call ⟨.value f, args, _⟩ => ∃ Mc, KApp P (e f) (args.toList.map e) H Mc K ∧ (∀ id ∈ Mc, id < base → id ∈ M)
    | _ => False
  | .bad => False
def KOps (P : Program) (base : Nat) (M : List Nat) (ops : Array Oper) : List Oper → Tm → Heap → (Tm → Heap → Prop) → Prop
  | [], T, H, Q => Q T H
  | o :: os, T, H, Q =>
    kknown o ops T = true ∧ if kwanted o ops T then KStep P base M o (ev T) H (fun v H' => KOps P base M ops os (put T o.dst v) H' Q)
    else KOps P base M ops os (put T o.dst undef) H Q
/-- What is asked of an operation's text: its slots lie in the frame, its constants hold no address. -/
def opOk (N G : Nat) (o : Oper) : Bool :=
  (match o.dst with | some d => decide (d < N) | none => true) &&
  o.op.operands.toList.all (fun x => match x with | .tmp t => decide (t < N) | .const v => closedV v | .global g => decide (g < G) | .func _ => true) &&
  (match o.op with | .defer _ => false | _ => true) && (match o.guard with | none => true | some _ => true)

theorem ev_sim {B N : Nat} {ρ : Ren} {H : Heap} {w : World} {T : Tm} {a : Act} (hr : Rel P B ρ H w) (hT : TR ρ N T a.tmps) {o : Oper} (ho : opOk N P.globals.size o = true) :
    ∀ x ∈ o.op.operands, VR ρ (ev T x) (a.eval x) := by
  intro x hx
  simp only [opOk, Bool.and_eq_true, List.all_eq_true] at ho
  have := ho.1.1.2 x (by simpa using hx)
  cases x with
  | tmp t => exact hT.2 t (by simpa using this)
  | const v => exact (closedV_VR (by simpa using this) : VR ρ v v)
  | global g =>
    obtain ⟨r, h1, h2, h3⟩ := hr.glob g (by simpa using this)
    have := VR.ptr (o := 0) h1
    rw [h2, h3] at this
    exact this
  | func f => exact .func rfl (by intro i v v' h; simp at h) rfl (by intro i v v' h; simp at h)
theorem wanted_sim {N : Nat} {ρ : Ren} {T : Tm} {a : Act} (hT : TR ρ N T a.tmps) {ops : Array Oper} (hops : ∀ o ∈ ops, ∀ d, o.dst = some d → d < N) (o : Oper) (hkn : kknown o ops T = true) : Region.wanted o (yielded ops a.tmps) = kwanted o ops T := by
  unfold kknown at hkn
  unfold Region.wanted kwanted yielded
  cases hg : o.guard with
  | none => rfl
  | some gw =>
    obtain ⟨g, want⟩ := gw
    simp only
    cases hd : (ops[g]?).bind (·.dst) with
    | none => rfl
    | some d =>
      obtain ⟨og, h1, h2⟩ := Option.bind_eq_some_iff.1 hd
      have hlt : d < N := hops og (Array.mem_of_getElem? h1) d h2
      have hlt' : d < a.tmps.size := by rw [hT.1]; exact hlt
      have hv := hT.2 d hlt
      have hge : a.tmps.getD d undef = a.tmps[d] := by simp [Array.getD, hlt']
      rw [hge] at hv
      simp only [Option.bind_some, Array.getElem?_eq_getElem hlt']
      generalize a.tmps[d] = q at hv
      simp only [hg, hd] at hkn
      generalize T d = p at hv hkn
      cases hv <;> first
        | rfl
        | (rename_i b; cases b <;> cases want <;> rfl)
        | (cases hkn)

def Fw (ro : Option Nat) : Fence := { Fence.wide with round := ro }
theorem semAt_exec {ro : Option Nat} {e : Operand → Value} {o : Oper} {N G : Nat} (ho : opOk N G o = true) : o.semAt ro e = execOp e o := by
  refine Oper.semAt_eq ro e o (fun c hc => ?_)
  simp only [opOk, Bool.and_eq_true] at ho
  rw [hc] at ho
  simp at ho
theorem opOk_dst {N G : Nat} {o : Oper} (ho : opOk N G o = true) : ∀ d, o.dst = some d → d < N := by
  intro d hd
  simp only [opOk, Bool.and_eq_true] at ho
  have := ho.1.1.1
  rw [hd] at this
  simpa using this

/-- One operation. -/
theorem kstep_sound {B base N : Nat} {M : List Nat} {ro : Option Nat} {o : Oper} {T : Tm} {H : Heap} {K : Value → Heap → Prop} (hk : KStep P base M o (ev T) H K) {ρ : Ren} {w : World} {a : Act} (hr : Rel P B ρ H w) (hb : base ≤ H.length)
    (hT : TR ρ N T a.tmps) (ho : opOk N P.globals.size o = true) {next : Act → World → Prop} {Q : Exit → Act → World → Prop}
    (hnext : ∀ v v' ρ' H' w', VR ρ' v v' → Post P B base M ρ H w ρ' H' w' → K v H' → next (a.put o.dst v') w') : o.wpIn (Fw ro) 0 P a w next Q := by
  have he := ev_sim hr hT ho
  refine ⟨fun _ _ => trivial, ?_⟩
  show o.uponIn (Fw ro) 0 P a next Q ((o.semAt ro a.eval).run P w)
  rw [semAt_exec ho]
  unfold KStep at hk
  split at hk
  · obtain ⟨v, rd, h1, h2⟩ := hk
    obtain ⟨v', h3, h4⟩ := kpure_sim (w := w) h1 he (fun id _ => rel_at hr id)
    rw [h3]
    exact hnext v v' ρ H w h4 (Post.refl hr) h2
  · obtain ⟨v, ob, h1, h2⟩ := hk
    have hno : ρ H.length = none := by
      cases hq : ρ H.length with
      | none => rfl
      | some r => exact absurd (hr.dom _ _ hq) (Nat.lt_irrefl _)
    obtain ⟨v', obj, ri, h3, h4, h5, h6⟩ := kalloc_sim h1 he hno w
    rw [h3]
    exact hnext v v' _ _ _ h5 (Post.alloc hr h4 hb h6) h2
  · obtain ⟨v, H', wr, h1, h2, h3⟩ := hk
    obtain ⟨v', w', ρ', h4, h5, h6⟩ := kwrite_sim h1 he hr h2 hb
    rcases h4 with h4 | ⟨h4, h7⟩
    · rw [h4]; exact hnext v v' ρ' H' w' h5 h6 h3
    · rw [h4]; rw [h7] at h5; exact hnext v undef ρ' H' w' h5 h6 h3
  · split at hk
    · rename_i f args tys hop
      obtain ⟨Mc, h1, h2⟩ := hk
      have hrun : execOp a.eval o = (do let d ← Deferred.ofValue (a.eval f) (args.map a.eval); invoke d.target d.args : Sem Next) := by
        obtain ⟨dst, op, ty, pos, after, guard⟩ := o
        simp only at hop
        subst hop
        rfl
      have hop2 : ∀ x, x ∈ (#[f] ++ args) → x ∈ o.op.operands := by
        intro x hx
        obtain ⟨dst, op, ty, pos, after, guard⟩ := o
        simp only at hop
        subst hop
        simpa [Op.operands, Call.operands] using hx
      have := h1 B ρ w (a.eval f) (args.map a.eval) hr (he f (hop2 f (by simp))) (by
        rw [Array.toList_map]
        exact map_rel (fun x hx => he x (hop2 x (by simp [Array.mem_toList_iff.1 hx]))))
      rw [hrun]
      generalize ((do let d ← Deferred.ofValue (a.eval f) (args.map a.eval); invoke d.target d.args : Sem Next)).run P w = r at this
      unfold Hands at this
      split at this
      · rename_i g xs w1
        refine ⟨fun h => by simp [Fw, Fence.wide] at h, ?_⟩
        show CallsIn (Fw ro) 0 P g xs w1 _
        refine CallsIn.mono (F := Fw ro) this ?_
        rintro e w' ⟨v, v', ρ', H', rfl, g2, g3, g4⟩
        exact hnext v v' ρ' H' w' g2 (g3.weaken hb (fun id hid hlt => h2 id hid hlt)) g4
      · rename_i l g tm asg bd w1
        refine ⟨fun h => by simp [Fw, Fence.wide] at h, ?_⟩
        show RoundIn (Fw ro) 0 P l g tm asg bd w1 _
        refine RoundIn.mono (F := Fw ro) this ?_
        rintro e w' ⟨v, v', ρ', H', rfl, g2, g3, g4⟩
        exact hnext v v' ρ' H' w' g2 (g3.weaken hb (fun id hid hlt => h2 id hid hlt)) g4
      · exact this.elim
    · exact hk.elim
  · exact hk.elim

theorem kops_sound {B base N : Nat} {M : List Nat} {ro : Option Nat} {ops : Array Oper} (hops : ∀ o ∈ ops, opOk N P.globals.size o = true) {Q : Tm → Heap → Prop} {Qr : Exit → Act → World → Prop} {ρ0 : Ren} {H0 : Heap} {w0 : World} {ds : List Deferred}
    (hQ : ∀ ρ' T' H' w' a', Post P B base M ρ0 H0 w0 ρ' H' w' → TR ρ' N T' a'.tmps → a'.defers = ds → Q T' H' → Qr .normal a' w') :
    ∀ (rest : List Oper) (T : Tm) (H : Heap) (ρ : Ren) (w : World) (a : Act), (∀ o ∈ rest, o ∈ ops) → Post P B base M ρ0 H0 w0 ρ H w → base ≤ H.length → TR ρ N T a.tmps → a.defers = ds → KOps P base M ops rest T H Q →
      wpListIn (Fw ro) 0 P ops Qr rest a w := by
  intro rest
  induction rest with
  | nil => intro T H ρ w a _ hp hb hT hd hk; exact hQ ρ T H w a hp hT hd hk
  | cons o os ih =>
    intro T H ρ w a hin hp hb hT hd hk
    have ho := hops o (hin o (List.mem_cons_self ..))
    simp only [KOps] at hk
    obtain ⟨hkn, hk⟩ := hk
    have hw := wanted_sim hT (fun o h d hd => opOk_dst (hops o h) d hd) o hkn
    unfold wpListIn
    rw [hw]
    split at hk
    · rename_i hwt
      rw [if_pos hwt]
      refine kstep_sound hk hp.rel hb hT ho ?_
      intro v v' ρ' H' w' hv hpost hK
      refine ih _ H' ρ' w' _ (fun o h => hin o (List.mem_cons_of_mem _ h)) (hp.trans hpost) (Nat.le_trans hb hpost.len) (TR.put (hT.mono hpost.ext) (opOk_dst ho) hv) ?_ hK
      cases o.dst <;> exact hd
    · rename_i hwt
      rw [if_neg hwt]
      refine ⟨fun _ _ => trivial, ih _ H ρ w _ (fun o h => hin o (List.mem_cons_of_mem _ h)) hp hb (TR.put hT (opOk_dst ho) (VR.undef ρ)) ?_ hk⟩
      cases o.dst <;> exact hd

/-! ## Code -/
def KW (P : Program) (ro : Option Nat) (N base : Nat) (M : List Nat) (c : Code) (T : Tm) (H : Heap) (Q : Exit → Tm → Heap → Prop) : Prop :=
  ∀ (B : Nat) (ρ : Ren) (w : World) (a : Act) (n0 : Nat), Rel P B ρ H w → base ≤ H.length → TR ρ N T a.tmps → n0 ≤ w.heap.size → DOK n0 a.defers w →
    c.wpIn (Fw ro) 0 P (fun e a' w' => ∃ ρ' T' H', Post P B base M ρ H w ρ' H' w' ∧ TR ρ' N T' a'.tmps ∧ DOK n0 a'.defers w' ∧ Q e T' H') a w

def thenK (K : Tm → Heap → Prop) (Q : Exit → Tm → Heap → Prop) : Exit → Tm → Heap → Prop
  | .normal, T, H => K T H
  | e, T, H => Q e T H
def inBlockK (id : Nat) (Q : Exit → Tm → Heap → Prop) : Exit → Tm → Heap → Prop
  | .exit id', T, H => if id' = id then Q .normal T H else Q (.exit id') T H
  | e, T, H => Q e T H

section rules
variable {ro : Option Nat} {N base : Nat} {M : List Nat} {T : Tm} {H : Heap} {Q : Exit → Tm → Heap → Prop}

theorem KW.mono {c : Code} {Q' : Exit → Tm → Heap → Prop} (h : KW P ro N base M c T H Q) (hq : ∀ e T' H', Q e T' H' → Q' e T' H') : KW P ro N base M c T H Q' :=
  fun B ρ w a n0 h1 h2 h3 h4 h5 => wpIn_mono (h B ρ w a n0 h1 h2 h3 h4 h5) fun e a' w' ⟨ρ', T', H', g1, g2, g3, g4⟩ => ⟨ρ', T', H', g1, g2, g3, hq _ _ _ g4⟩
theorem KW.skip (h : Q .normal T H) : KW P ro N base M .skip T H Q := fun B ρ w a n0 h1 h2 h3 h4 h5 => wpIn_skip ⟨ρ, T, H, Post.refl h1, h3, h5, h⟩
theorem KW.label {l : Nat} (h : Q .normal T H) : KW P ro N base M (.label l) T H Q := fun B ρ w a n0 h1 h2 h3 h4 h5 => wpIn_label ⟨ρ, T, H, Post.refl h1, h3, h5, h⟩
theorem KW.ret (h : Q .ret T H) : KW P ro N base M .ret T H Q := fun B ρ w a n0 h1 h2 h3 h4 h5 => wpIn_ret ⟨ρ, T, H, Post.refl h1, h3, h5, h⟩
theorem KW.exit {id : Nat} (h : Q (.exit id) T H) : KW P ro N base M (.exit id) T H Q := fun B ρ w a n0 h1 h2 h3 h4 h5 => wpIn_exit ⟨ρ, T, H, Post.refl h1, h3, h5, h⟩
theorem KW.seq {x y : Code} (h : KW P ro N base M x T H (thenK (fun T' H' => KW P ro N base M y T' H' Q) Q)) : KW P ro N base M (.seq x y) T H Q := by
  intro B ρ w a n0 h1 h2 h3 h4 h5
  refine wpIn_seq (wpIn_mono (h B ρ w a n0 h1 h2 h3 h4 h5) ?_)
  rintro e a' w' ⟨ρ', T', H', g1, g2, g3, g4⟩
  cases e with
  | normal =>
    refine wpIn_mono (g4 B ρ' w' a' n0 g1.rel (Nat.le_trans h2 g1.len) g2 (Nat.le_trans h4 g1.size) g3) ?_
    rintro e a2 w2 ⟨ρ2, T2, H2, k1, k2, k3, k4⟩
    exact ⟨ρ2, T2, H2, g1.trans k1, k2, k3, k4⟩
  | _ => exact ⟨ρ', T', H', g1, g2, g3, g4⟩
theorem KW.block {id : Nat} {c : Code} (h : KW P ro N base M c T H (inBlockK id Q)) : KW P ro N base M (.block id c) T H Q := by
  intro B ρ w a n0 h1 h2 h3 h4 h5
  refine wpIn_block (wpIn_mono (h B ρ w a n0 h1 h2 h3 h4 h5) ?_)
  rintro e a' w' ⟨ρ', T', H', g1, g2, g3, g4⟩
  cases e with
  | exit id' =>
    simp only [inBlockK] at g4
    simp only [Exit.inBlock]
    split at g4
    · rename_i hid; rw [if_pos hid]; exact ⟨ρ', T', H', g1, g2, g3, g4⟩
    · rename_i hid; rw [if_neg hid]; exact ⟨ρ', T', H', g1, g2, g3, g4⟩
  | _ => exact ⟨ρ', T', H', g1, g2, g3, g4⟩
theorem KW.cond {t : Nat} {x y : Code} {b : Bool} (ht : t < N) (hc : T t = .bool b) (h : KW P ro N base M (if b then x else y) T H Q) : KW P ro N base M (.cond (.tmp t) x y) T H Q := by
  intro B ρ w a n0 h1 h2 h3 h4 h5
  refine wpIn_cond (t := b) ?_ (h B ρ w a n0 h1 h2 h3 h4 h5)
  have := h3.2 t ht
  rw [hc] at this
  show a.tmps.getD t undef = _
  generalize a.tmps.getD t undef = q at this
  cases this; rfl
theorem KW.cond_split {t : Nat} {x y : Code} {b : Bool} (ht : t < N) (hc : T t = .bool b) (h1 : b = true → KW P ro N base M x T H Q) (h2 : b = false → KW P ro N base M y T H Q) : KW P ro N base M (.cond (.tmp t) x y) T H Q := by
  refine KW.cond ht hc ?_
  cases b
  · exact h2 rfl
  · exact h1 rfl
theorem KW.loop {c : Code} (I : Nat → Tm → Heap → Prop) (n : Nat) (h0 : I n T H)
    (round : ∀ n T' H', H.length ≤ H'.length → I n T' H' → KW P ro N base M c T' H' (thenK (fun T2 H2 => ∃ k, k < n ∧ I k T2 H2) Q)) : KW P ro N base M (.loop c) T H Q := by
  intro B ρ w a n0 h1 h2 h3 h4 h5
  have key : ∀ (m : Nat) (n : Nat) (ρ' : Ren) (T' : Tm) (H' : Heap) (w' : World) (a' : Act), n < m → Post P B base M ρ H w ρ' H' w' → TR ρ' N T' a'.tmps → DOK n0 a'.defers w' → I n T' H' →
      Code.roundsIn (Fw ro) 0 P c (fun e a' w' => ∃ ρ' T' H', Post P B base M ρ H w ρ' H' w' ∧ TR ρ' N T' a'.tmps ∧ DOK n0 a'.defers w' ∧ Q e T' H') m a' w' := by
    intro m
    induction m with
    | zero => intro n _ _ _ _ _ hlt; omega
    | succ m ih =>
      intro n ρ' T' H' w' a' hlt hp hT hD hI
      rw [roundsIn_succ]
      refine wpIn_mono (round n T' H' hp.len hI B ρ' w' a' n0 hp.rel (Nat.le_trans h2 hp.len) hT (Nat.le_trans h4 hp.size) hD) ?_
      rintro e a2 w2 ⟨ρ2, T2, H2, k1, k2, k3, k4⟩
      cases e with
      | normal =>
        obtain ⟨k, hk, hI2⟩ := k4
        exact ih k ρ2 T2 H2 w2 a2 (by omega) (hp.trans k1) k2 k3 hI2
      | _ => exact ⟨ρ2, T2, H2, hp.trans k1, k2, k3, k4⟩
  exact wpIn_loop_rounds (n + 1) (key (n + 1) n ρ T H w a (by omega) (Post.refl h1) h3 h5 h0)
theorem KW.region {id : Nat} {l : List Oper} (hok : l.all (opOk N P.globals.size) = true) (h : KOps P base M l.toArray l T H (fun T' H' => Q .normal T' H')) : KW P ro N base M (.region id l.toArray false) T H Q := by
  intro B ρ w a n0 h1 h2 h3 h4 h5
  refine wpIn_region_lit ?_
  rw [List.all_eq_true] at hok
  refine kops_sound (ds := a.defers) (fun o ho => hok o (by simpa using ho)) ?_ l T H ρ w a (fun o ho => by simpa using ho) (Post.refl h1) h2 h3 rfl h
  intro ρ' T' H' w' a' hp hT hd hq
  exact ⟨ρ', T', H', hp, hT, by rw [hd]; exact DOK.post h1 h5 hp, hq⟩
end rules
end Go.K
