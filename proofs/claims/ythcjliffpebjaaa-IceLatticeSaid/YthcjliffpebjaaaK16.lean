/- A statement whose order is open, continued. No condition. -/
import Derived.Test.YthcjliffpebjaaaK15
namespace Go.K
open Go
set_option linter.unusedVariables false
variable {P : Program}

theorem Post.app {B base : Nat} {M : List Nat} {ρ0 ρ : Ren} {H0 H : Heap} {w0 w : World} (p : Post P B base M ρ0 H0 w0 ρ H w) (hbase : base ≤ H.length) (l : Heap) : Post P B base M ρ0 H0 w0 ρ (H ++ l) w := by
  have hr := p.rel
  have hget : ∀ id r, ρ id = some r → (H ++ l)[id]? = H[id]? := fun id r h => List.getElem?_append_left (hr.dom id r h)
  refine ⟨⟨hr.bsize, hr.glob, fun id r h => by have := hr.dom id r h; simp; omega, hr.lt, fun id r o h1 h2 => hr.obj id r o h1 (by rw [← hget id r h1]; exact h2), fun id r o h1 h2 h3 => hr.base id r o h1 (by rw [← hget id r h1]; exact h2) h3, ?_⟩,
    p.ext, p.new, by have := p.len; simp; omega, fun id h1 h2 => ?_, p.size, p.keep, fun b h1 h2 => ?_, p.os, p.tape, p.output⟩
  · intro id id' r r' o o' h1 h1' h2 h2' h3 h3' hne
    exact hr.sep id id' r r' o o' h1 h1' (by rw [← hget id r h1]; exact h2) (by rw [← hget id' r' h1']; exact h2') h3 h3' hne
  · rw [List.getElem?_append_left (by omega)]; exact p.same id h1 h2
  · obtain ⟨id, r, o, g1, g2, g3, g4⟩ := h2
    exact p.ob b h1 ⟨id, r, o, g1, by rw [← hget id r g1]; exact g2, g3, g4⟩

/-- A block that the canonical heap has already is made. -/
theorem Post.late {B base : Nat} {M : List Nat} {ρ0 ρ : Ren} {H0 H : Heap} {w0 w : World} (p : Post P B base M ρ0 H0 w0 ρ H w) {id : Nat} {ob : KObj} {obj : Obj} {ri : RI} (hid : id < H.length) (h0 : H0.length ≤ id) (hob : H[id]? = some ob) (hno : ρ id = none)
    (hb : ri.b = w.heap.size) (ho : ObjRel (ρ.set id ri) ri ob (w.alloc obj)) : Post P B base M ρ0 H0 w0 (ρ.set id ri) H (w.alloc obj) := by
  have hr := p.rel
  have hle := Ren.le_set (r := ri) hno
  have hold : ∀ k, k < w.heap.size → (w.alloc obj).heap[k]? = w.heap[k]? := fun k hk => RowKit.Below.heap_alloc w obj k hk
  refine ⟨⟨by simp; have := hr.bsize; omega, fun g hg => ?_, fun i x h => ?_, fun i x h => ?_, fun i x o h1 h2 => ?_, fun i x o h1 h2 h3 => ?_, ?_⟩,
    Ren.le_trans p.ext hle, fun i x h1 h2 => ?_, p.len, p.same, by have := p.size; simp; omega, fun b h1 h2 => ?_, fun b h1 h2 => ?_, p.os, p.tape, p.output⟩
  · obtain ⟨x, g1, g2, g3⟩ := hr.glob g hg
    exact ⟨x, hle _ _ g1, g2, g3⟩
  · by_cases e : i = id
    · subst e; exact hid
    · rw [Ren.set_other e] at h; exact hr.dom i x h
  · by_cases e : i = id
    · subst e; rw [Ren.set_same] at h; cases h; rw [hb]; simp
    · rw [Ren.set_other e] at h; have := hr.lt i x h; simp; omega
  · by_cases e : i = id
    · subst e; rw [Ren.set_same] at h1; cases h1; rw [hob] at h2; cases h2; exact ho
    · rw [Ren.set_other e] at h1; exact (hr.obj i x o h1 h2).mono hle (hold _ (hr.lt i x h1))
  · by_cases e : i = id
    · subst e; rw [Ren.set_same] at h1; cases h1; rw [hb]; exact hr.bsize
    · rw [Ren.set_other e] at h1; exact hr.base i x o h1 h2 h3
  · intro i i' x x' o o' h1 h1' h2 h2' h3 h3' hne
    by_cases e : i = id
    · subst e
      rw [Ren.set_same] at h1; cases h1
      rw [Ren.set_other (Ne.symm hne)] at h1'
      have := hr.lt _ _ h1'
      omega
    · rw [Ren.set_other e] at h1
      by_cases e' : i' = id
      · subst e'
        rw [Ren.set_same] at h1'; cases h1'
        have := hr.lt _ _ h1
        omega
      · rw [Ren.set_other e'] at h1'
        exact hr.sep i i' x x' o o' h1 h1' h2 h2' h3 h3' hne
  · by_cases e : i = id
    · omega
    · rw [Ren.set_other e] at h1; exact p.new i x h1 h2
  · rw [hold b (by have := p.size; omega)]; exact p.keep b h1 h2
  · obtain ⟨i, x, o, g1, g2, g3, g4⟩ := h2
    by_cases e : i = id
    · subst e; rw [Ren.set_same] at g1; cases g1; have := p.size; omega
    · rw [Ren.set_other e] at g1; exact p.ob b h1 ⟨i, x, o, g1, g2, g3, g4⟩

theorem ev_sim' {B N : Nat} {ρ : Ren} {H : Heap} {w : World} {T : Tm} {a : Act} {ops : Array Oper} (hr : Rel P B ρ H w) {o : Oper} (hT : ∀ t, t < N → t ∈ o.looksAt ops → VR ρ (T t) (a.tmps.getD t undef)) (ho : opOk N P.globals.size o = true) :
    ∀ x ∈ o.op.operands, VR ρ (ev T x) (a.eval x) := by
  intro x hx
  simp only [opOk, Bool.and_eq_true, List.all_eq_true] at ho
  have := ho.1.1.2 x (by simpa using hx)
  cases x with
  | tmp t => exact hT t (by simpa using this) (List.mem_append_left _ (List.mem_filterMap.2 ⟨.tmp t, by simpa using hx, rfl⟩))
  | const v => exact (closedV_VR (by simpa using this) : VR ρ v v)
  | global g =>
    obtain ⟨r, h1, h2, h3⟩ := hr.glob g (by simpa using this)
    have := VR.ptr (o := 0) h1
    rw [h2, h3] at this
    exact this
  | func f => exact .func rfl (by intro i v v' h; simp at h) rfl (by intro i v v' h; simp at h)
theorem wanted_sim' {N : Nat} {ρ : Ren} {T : Tm} {a : Act} {ops : Array Oper} (hsz : a.tmps.size = N) (hops : ∀ o ∈ ops, ∀ d, o.dst = some d → d < N) {o : Oper} (hT : ∀ t, t < N → t ∈ o.looksAt ops → VR ρ (T t) (a.tmps.getD t undef)) :
    kknown o ops T = true → Region.wanted o (yielded ops a.tmps) = kwanted o ops T := by
  intro hkn
  unfold kknown at hkn
  unfold Region.wanted kwanted yielded
  cases hg : o.guard with
  | none => rfl
  | some gw =>
    obtain ⟨g, want⟩ := gw
    simp only
    cases hd : (ops[g]?).bind (·.dst) with
    | none => rfl
    | some d =>
      obtain ⟨og, h1, h2⟩ := Option.bind_eq_some_iff.1 hd
      have hlt : d < N := hops og (Array.mem_of_getElem? h1) d h2
      have hlt' : d < a.tmps.size := by rw [hsz]; exact hlt
      have hv := hT d hlt (List.mem_append_right _ (by simp [hg, hd]))
      have hge : a.tmps.getD d undef = a.tmps[d] := by simp [Array.getD, hlt']
      rw [hge] at hv
      simp only [Option.bind_some, Array.getElem?_eq_getElem hlt']
      generalize a.tmps[d] = q at hv
      simp only [hg, hd] at hkn
      generalize T d = p at hv hkn
      cases hv <;> first
        | rfl
        | (rename_i b; cases b <;> cases want <;> rfl)
        | (cases hkn)
theorem getD_put_other {a : Act} {dst : Option Tmp} {v : Value} {t : Nat} (h : dst ≠ some t) : (a.put dst v).tmps.getD t undef = a.tmps.getD t undef := by
  cases dst with
  | none => rfl
  | some d =>
    have : d ≠ t := fun e => h (by rw [e])
    simp [Act.put, Array.getElem?_setIfInBounds_ne this]
theorem getD_put_same {a : Act} {t : Nat} {v : Value} (h : t < a.tmps.size) : (a.put (some t) v).tmps.getD t undef = v := by simp [Act.put, h]
theorem put_size (a : Act) (dst : Option Tmp) (v : Value) : (a.put dst v).tmps.size = a.tmps.size := by cases dst <;> simp [Act.put]
theorem put_defers (a : Act) (dst : Option Tmp) (v : Value) : (a.put dst v).defers = a.defers := by cases dst <;> rfl

/-- How things stand: a part of the order has been walked ('es'), of it the operations that act have all been carried out, of the others some. -/
structure Inv (P : Program) (B base N : Nat) (M : List Nat) (l : List Oper) (ord : List Nat) (T0 : Tm) (ρ0 : Ren) (H0 : Heap) (w0 : World) (ds : List Deferred) (Q : Tm → Heap → Prop)
    (es : List Ent) (rest : List Nat) (H : Heap) (log : List (Nat × Option Nat)) (ρ : Ren) (a : Act) (w : World) (listed : Array Bool) : Prop where
  ch : Chain P l.toArray T0 H0 es H
  ord : es.map (·.i) ++ rest = ord
  hot : ∀ e ∈ es, hotOp e.o = true → listed.getD e.i false = true
  un : ∀ i ∈ rest, listed.getD i false = false
  post : Post P B base M ρ0 H0 w0 ρ H w
  size : a.tmps.size = N
  tA : ∀ e ∈ es, listed.getD e.i false = true → ∀ t, e.o.dst = some t → VR ρ e.v (a.tmps.getD t undef)
  tB : ∀ t, t < N → (∀ e ∈ es, listed.getD e.i false = true → e.o.dst ≠ some t) → VR ρ (T0 t) (a.tmps.getD t undef)
  al : ∀ e ∈ es, listed.getD e.i false = false → oclass e.o.op = .alloc → kwanted e.o l.toArray e.T = true → ρ e.H.length = none
  loose : ∀ pre e post, es = pre ++ e :: post → ∀ h ∈ post, hotOp h.o = true → depB (befs l []) h.i e.i = false → ∀ x, e.rd = some x → x ∉ h.ms
  lg : ∀ e ∈ es, ∀ x, e.rd = some x → (e.i, some x) ∈ log
  cl : ∀ j, listed.getD j false = true → ∀ i, depB (befs l []) j i = true → listed.getD i false = true
  lsz : listed.size = l.length
  dn : a.defers = ds
  k : KOpsL P base M (befs l []) l.toArray rest (chainT T0 es) H log Q

section
variable {B base N : Nat} {M : List Nat} {l : List Oper} {ord : List Nat} {T0 : Tm} {ρ0 : Ren} {H0 : Heap} {w0 : World} {ds : List Deferred} {Q : Tm → Heap → Prop}

theorem Inv.len {es : List Ent} {rest : List Nat} {H : Heap} {log : List (Nat × Option Nat)} {ρ : Ren} {a : Act} {w : World} {listed : Array Bool} (h : Inv P B base N M l ord T0 ρ0 H0 w0 ds Q es rest H log ρ a w listed) : H0.length ≤ H.length := h.ch.len

/-- One operation more that does not act: nothing real is done yet. -/
theorem Inv.advance1 {es : List Ent} {i : Nat} {is : List Nat} {H : Heap} {log : List (Nat × Option Nat)} {ρ : Ren} {a : Act} {w : World} {listed : Array Bool} (hbase : base ≤ H0.length)
    (h : Inv P B base N M l ord T0 ρ0 H0 w0 ds Q es (i :: is) H log ρ a w listed) {o : Oper} (ho : l.toArray[i]? = some o) (hh : hotOp o = false) :
    ∃ e H' log', Inv P B base N M l ord T0 ρ0 H0 w0 ds Q (es ++ [e]) is H' log' ρ a w listed := by
  have hk := h.k
  simp only [KOpsL, ho] at hk
  obtain ⟨hkn, hk⟩ := hk
  have hlen := h.len
  have hui := h.un i (List.mem_cons_self ..)
  have step : ∀ (e : Ent) (log' : List (Nat × Option Nat)), e.i = i → e.o = o → e.T = chainT T0 es → e.H = H → EntOk P l.toArray e → Post P B base M ρ0 H0 w0 ρ e.H' w → (∀ x, e.rd = some x → (i, some x) ∈ log') → (∀ p ∈ log, p ∈ log') →
      KOpsL P base M (befs l []) l.toArray is (put (chainT T0 es) o.dst e.v) e.H' log' Q → ∃ e H' log', Inv P B base N M l ord T0 ρ0 H0 w0 ds Q (es ++ [e]) is H' log' ρ a w listed := by
    intro e log' e1 e2 e3 e4 ok hp hlg hsub hk'
    refine ⟨e, e.H', log', ?_⟩
    have mem : ∀ x, x ∈ es ++ [e] → x ∈ es ∨ x = e := by intro x hx; simpa using hx
    refine ⟨Chain.snoc h.ch e3 e4 ok, by rw [← h.ord]; simp [e1], ?_, fun j hj => h.un j (List.mem_cons_of_mem _ hj), hp, h.size, ?_, ?_, ?_, ?_, ?_, h.cl, h.lsz, h.dn, by rw [chainT_snoc, e2]; exact hk'⟩
    · intro x hx hx2
      rcases mem x hx with hx | rfl
      · exact h.hot x hx hx2
      · rw [e2, hh] at hx2; cases hx2
    · intro x hx hl2 t ht
      rcases mem x hx with hx | rfl
      · exact h.tA x hx hl2 t ht
      · rw [e1, hui] at hl2; cases hl2
    · intro t ht hn
      exact h.tB t ht (fun x hx => hn x (by simp [hx]))
    · intro x hx hl2 hc hw
      rcases mem x hx with hx | rfl
      · exact h.al x hx hl2 hc hw
      · rw [e4]
        cases hq : ρ H.length with
        | none => rfl
        | some r => exact absurd (h.post.rel.dom _ _ hq) (Nat.lt_irrefl _)
    · intro pre y post hsp hx hxm hhot hdep x hrd
      rcases List.eq_nil_or_concat post with rfl | ⟨post', z, rfl⟩
      · cases hxm
      · have he2 : es ++ [e] = (pre ++ y :: post') ++ [z] := by rw [hsp]; simp
        obtain ⟨h1, h2⟩ := List.append_inj' he2 (by simp)
        simp at h2; subst h2
        simp only [List.concat_eq_append, List.mem_append, List.mem_singleton] at hxm
        rcases hxm with hxm | rfl
        · exact h.loose pre y post' h1 hx hxm hhot hdep x hrd
        · rw [e2, hh] at hhot; cases hhot
    · intro y hy x hrd
      rcases mem y hy with hy | rfl
      · exact hsub _ (h.lg y hy x hrd)
      · rw [e1]; exact hlg x hrd
  cases hw : kwanted o l.toArray (chainT T0 es) with
  | false =>
    rw [hw] at hk
    simp only [Bool.false_eq_true, if_false] at hk
    refine step ⟨i, o, chainT T0 es, H, undef, H, none, []⟩ log rfl rfl rfl rfl ⟨⟨ho, hkn⟩, fun _ h2 => ?_, fun _ => rfl, fun _ => rfl, Nat.le_refl _, fun _ _ _ => rfl⟩ h.post (fun x hx => by cases hx) (fun p hp => hp) hk
    have h2' : kwanted o l.toArray (chainT T0 es) = true := h2
    rw [hw] at h2'; cases h2'
  | true =>
    rw [hw] at hk
    simp only [if_true] at hk
    unfold KStepL at hk
    unfold hotOp at hh
    split at hk
    · rename_i hc
      obtain ⟨v, rd, h1, h2⟩ := hk
      refine step ⟨i, o, chainT T0 es, H, v, H, rd, []⟩ ((i, rd) :: log) rfl rfl rfl rfl ⟨⟨ho, hkn⟩, fun _ _ => .inl ⟨rd, h1, rfl, rfl, hc⟩, fun h3 => ?_, fun _ => rfl, Nat.le_refl _, fun _ _ _ => rfl⟩ h.post (fun x hx => by cases hx; exact List.mem_cons_self ..) (fun p hp => List.mem_cons_of_mem _ hp) h2
      have h3' : kwanted o l.toArray (chainT T0 es) = false := h3
      rw [hw] at h3'; cases h3'
    · rename_i hc
      obtain ⟨v, ob, h1, h2⟩ := hk
      refine step ⟨i, o, chainT T0 es, H, v, H ++ [ob], some H.length, []⟩ ((i, some H.length) :: log) rfl rfl rfl rfl ⟨⟨ho, hkn⟩, fun _ _ => .inr ⟨ob, h1, rfl, rfl, hc⟩, fun h3 => ?_, fun _ => rfl, by simp, fun id hid _ => List.getElem?_append_left hid⟩
        (h.post.app (by omega) _) (fun x hx => by cases hx; exact List.mem_cons_self ..) (fun p hp => List.mem_cons_of_mem _ hp) h2
      have h3' : kwanted o l.toArray (chainT T0 es) = false := h3
      rw [hw] at h3'; cases h3'
    · rename_i hc; rw [hc] at hh; cases hh
    · rename_i hc; rw [hc] at hh; cases hh
    · rename_i hc; rw [hc] at hh; cases hh

theorem Inv.advance (hbase : base ≤ H0.length) : ∀ (rest : List Nat) {es : List Ent} {H : Heap} {log : List (Nat × Option Nat)} {ρ : Ren} {a : Act} {w : World} {listed : Array Bool},
    Inv P B base N M l ord T0 ρ0 H0 w0 ds Q es rest H log ρ a w listed →
    ∃ es' rest' H' log', Inv P B base N M l ord T0 ρ0 H0 w0 ds Q es' rest' H' log' ρ a w listed ∧ ∀ i is, rest' = i :: is → ∃ o, l.toArray[i]? = some o ∧ hotOp o = true := by
  intro rest
  induction rest with
  | nil => intro es H log ρ a w listed h; exact ⟨es, [], H, log, h, fun i is h => by cases h⟩
  | cons i is ih =>
    intro es H log ρ a w listed h
    cases ho : l.toArray[i]? with
    | none => have := h.k; simp only [KOpsL, ho] at this
    | some o =>
      cases hh : hotOp o with
      | true => exact ⟨es, i :: is, H, log, h, fun j js hj => by cases hj; exact ⟨o, ho, hh⟩⟩
      | false =>
        obtain ⟨e, H', log', h'⟩ := h.advance1 hbase ho hh
        exact ih h'
end
end Go.K
