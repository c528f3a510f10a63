/- A statement whose order is open, concluded. No condition. -/
import Derived.Test.YthcjliffpebjaaaK16
namespace Go.K
open Go
set_option linter.unusedVariables false
variable {P : Program}

structure OrdOk (l : List Oper) (ord : List Nat) : Prop where
  edges : ∀ (i : Nat) (o : Oper), l[i]? = some o → ∀ e ∈ o.after, Region.binds .any e = true → e.on < l.length
  irr : ∀ i, i < l.length → depB (befs l []) i i = false
  all : ∀ i, i < l.length → i ∈ ord
  pair : ∀ pre i mid j post, ord = pre ++ i :: (mid ++ j :: post) → PairOk (befs l []) l.toArray i j
  lt : ∀ i ∈ ord, i < l.length
theorem ordOk_spec {l : List Oper} {ord : List Nat} (h : ordOk l ord = true) : OrdOk l ord := by
  unfold ordOk at h
  simp only [Bool.and_eq_true, decide_eq_true_eq, List.all_eq_true, List.mem_range, List.contains_iff_mem, Bool.not_eq_true'] at h
  obtain ⟨⟨⟨⟨⟨h1, h2⟩, h3⟩, h4⟩, h5⟩, h6⟩ := h
  refine ⟨fun i o ho e he hb => ?_, h2, h4, fun pre i mid j post hl => pairOk_spec (allPairs_spec h5 pre i mid j post hl), h6⟩
  simp only [edgesOk, List.all_eq_true] at h1
  have := h1 o (List.mem_of_getElem? ho) e (Array.mem_toList_iff.2 he)
  simp only [Bool.or_eq_true, Bool.not_eq_true', decide_eq_true_eq] at this
  rcases this with h7 | h7
  · rw [hb] at h7; cases h7
  · exact h7

section
variable {B base N : Nat} {M : List Nat} {l : List Oper} {ord : List Nat} {T0 : Tm} {ρ0 : Ren} {H0 : Heap} {w0 : World} {ds : List Deferred} {Q : Tm → Heap → Prop}
  {es : List Ent} {rest : List Nat} {H : Heap} {log : List (Nat × Option Nat)} {ρ : Ren} {a : Act} {w : World} {listed : Array Bool}

theorem dep_listed (h : Inv P B base N M l ord T0 ρ0 H0 w0 ds Q es rest H log ρ a w listed) {i : Nat} (hi : i ∈ Region.ready .any l.toArray listed) : ∀ k, depB (befs l []) i k = true → listed.getD k false = true := by
  intro k hk
  obtain ⟨o, ho, e, he, hb, hor⟩ := befs_bit hk
  obtain ⟨_, o', ho', hall⟩ := mem_ready.1 hi
  have : o' = o := by simp at ho'; rw [ho] at ho'; exact (Option.some.inj ho').symm
  subst this
  have hl := hall e he hb
  rcases hor with rfl | hd
  · exact hl
  · exact h.cl _ hl _ hd
theorem unlisted {i : Nat} (hl : i < listed.size) (h : listed.getD i true = false) : listed.getD i false = false := by
  simpa [Array.getD, hl] using h
theorem Inv.pair1 (hord : OrdOk l ord) (h : Inv P B base N M l ord T0 ρ0 H0 w0 ds Q es rest H log ρ a w listed) {pre mid post : List Ent} {x y : Ent} (hs : es = pre ++ x :: (mid ++ y :: post)) : PairOk (befs l []) l.toArray x.i y.i :=
  hord.pair (pre.map (·.i)) x.i (mid.map (·.i)) y.i (post.map (·.i) ++ rest) (by rw [← h.ord, hs]; simp)
theorem Inv.pair2 (hord : OrdOk l ord) (h : Inv P B base N M l ord T0 ρ0 H0 w0 ds Q es rest H log ρ a w listed) {pre post : List Ent} {x : Ent} {j : Nat} {is : List Nat} (hs : es = pre ++ x :: post) (hr : rest = j :: is) : PairOk (befs l []) l.toArray x.i j :=
  hord.pair (pre.map (·.i)) x.i (post.map (·.i)) j is (by rw [← h.ord, hs, hr]; simp)
theorem Inv.ent (h : Inv P B base N M l ord T0 ρ0 H0 w0 ds Q es rest H log ρ a w listed) {e : Ent} (he : e ∈ es) : l.toArray[e.i]? = some e.o := by
  obtain ⟨pre, post, rfl⟩ := List.append_of_mem he
  exact (h.ch.split pre e post rfl).1.1.1

/-- What a ready operation that has been walked already looks at is there. -/
theorem Inv.looks1 (hord : OrdOk l ord) (h : Inv P B base N M l ord T0 ρ0 H0 w0 ds Q es rest H log ρ a w listed) {pre post : List Ent} {e : Ent} (hs : es = pre ++ e :: post) (hi : e.i ∈ Region.ready .any l.toArray listed) (hun : listed.getD e.i false = false) :
    ∀ t, t < N → t ∈ e.o.looksAt l.toArray → VR ρ (e.T t) (a.tmps.getD t undef) := by
  intro t ht hl
  have hsp := h.ch.split pre e post hs
  rw [hsp.2.1]
  have hme : ∀ x, x ∈ es → l.toArray[x.i]? = some x.o := fun x hx => h.ent hx
  by_cases hw : ∃ y ∈ pre, y.o.dst = some t
  · obtain ⟨y, hy, hd⟩ := hw
    obtain ⟨p1, p2, rfl⟩ := List.append_of_mem hy
    have hs2 : es = p1 ++ y :: (p2 ++ e :: post) := by rw [hs]; simp
    have hyes : y ∈ es := by rw [hs2]; simp
    have hees : e ∈ es := by rw [hs2]; simp
    have pk := h.pair1 hord hs2
    have hdep := pk.wr y.o e.o t (hme y hyes) (hme e hees) hd hl
    have hly := dep_listed h hi _ hdep
    rw [chainT_some hd (fun x hx => ?_)]
    · exact h.tA y hyes hly t hd
    · obtain ⟨q1, q2, rfl⟩ := List.append_of_mem hx
      have hs3 : es = p1 ++ y :: (q1 ++ x :: (q2 ++ e :: post)) := by rw [hs2]; simp
      exact (h.pair1 hord hs3).ssa y.o x.o t (hme y hyes) (hme x (by rw [hs3]; simp)) hd
  · rw [chainT_none (fun x hx hd => hw ⟨x, hx, hd⟩)]
    refine h.tB t ht (fun x hx hlx hd => ?_)
    rw [hs] at hx
    simp only [List.mem_append, List.mem_cons] at hx
    rcases hx with hx | rfl | hx
    · exact hw ⟨x, hx, hd⟩
    · rw [hun] at hlx; cases hlx
    · obtain ⟨q1, q2, rfl⟩ := List.append_of_mem hx
      have pk := h.pair1 hord hs
      have hdep := pk.rw' e.o x.o t (hme e (by rw [hs]; simp)) (hme x (by rw [hs]; simp)) hd hl
      rw [h.cl _ hlx _ hdep] at hun; cases hun
/-- What the next acting operation looks at is there. -/
theorem Inv.looks2 (hord : OrdOk l ord) (h : Inv P B base N M l ord T0 ρ0 H0 w0 ds Q es rest H log ρ a w listed) {j : Nat} {is : List Nat} (hr : rest = j :: is) {o : Oper} (ho : l.toArray[j]? = some o) (hi : j ∈ Region.ready .any l.toArray listed) :
    ∀ t, t < N → t ∈ o.looksAt l.toArray → VR ρ (chainT T0 es t) (a.tmps.getD t undef) := by
  intro t ht hl
  have hme : ∀ x, x ∈ es → l.toArray[x.i]? = some x.o := fun x hx => h.ent hx
  by_cases hw : ∃ y ∈ es, y.o.dst = some t
  · obtain ⟨y, hy, hd⟩ := hw
    obtain ⟨p1, p2, hs2⟩ := List.append_of_mem hy
    have pk := h.pair2 hord hs2 hr
    have hdep := pk.wr y.o o t (hme y hy) ho hd hl
    have hly := dep_listed h hi _ hdep
    have : chainT T0 es t = y.v := by
      rw [hs2]
      refine chainT_some hd (fun x hx => ?_)
      obtain ⟨q1, q2, rfl⟩ := List.append_of_mem hx
      exact (h.pair1 hord hs2).ssa y.o x.o t (hme y hy) (hme x (by rw [hs2]; simp)) hd
    rw [this]
    exact h.tA y hy hly t hd
  · rw [chainT_none (fun x hx hd => hw ⟨x, hx, hd⟩)]
    exact h.tB t ht (fun x hx _ hd => hw ⟨x, hx, hd⟩)

theorem getD_set_listed {listed : Array Bool} {i : Nat} (hi : i < listed.size) (j : Nat) : (listed.setIfInBounds i true).getD j false = if j = i then true else listed.getD j false := by
  by_cases e : j = i
  · subst e; simp [hi]
  · rw [if_neg e]; exact getD_set_ne false (Ne.symm e)

/-- One that has been walked already is carried out. -/
theorem Inv.done1 (hord : OrdOk l ord) (h : Inv P B base N M l ord T0 ρ0 H0 w0 ds Q es rest H log ρ a w listed) {e : Ent} (he : e ∈ es) (hi : e.i ∈ Region.ready .any l.toArray listed) (hun : listed.getD e.i false = false) {ρ' : Ren} {w' : World} {v' : Value}
    (hle : Ren.le ρ ρ') (hp : Post P B base M ρ0 H0 w0 ρ' H w') (hv : VR ρ' e.v v') (hal : ∀ x ∈ es, x.i ≠ e.i → listed.getD x.i false = false → oclass x.o.op = .alloc → kwanted x.o l.toArray x.T = true → ρ' x.H.length = none) (hdst : ∀ d, e.o.dst = some d → d < N) :
    Inv P B base N M l ord T0 ρ0 H0 w0 ds Q es rest H log ρ' (a.put e.o.dst v') w' (listed.setIfInBounds e.i true) := by
  have hme : ∀ x, x ∈ es → l.toArray[x.i]? = some x.o := fun x hx => h.ent hx
  have hlt : e.i < listed.size := by
    rw [h.lsz]
    have := (Array.getElem?_eq_some_iff.1 (hme e he)).1
    simpa using this
  have hset := getD_set_listed hlt
  have hne : ∀ x ∈ es, x ≠ e → x.i ≠ e.i ∧ (∀ d, x.o.dst = some d → e.o.dst ≠ some d) := by
    intro x hx hxe
    obtain ⟨p1, p2, hs⟩ := List.append_of_mem hx
    have he' := he
    rw [hs] at he'
    simp only [List.mem_append, List.mem_cons] at he'
    rcases he' with he' | rfl | he'
    · obtain ⟨q1, q2, rfl⟩ := List.append_of_mem he'
      have pk := h.pair1 hord (show es = q1 ++ e :: (q2 ++ x :: p2) by rw [hs]; simp)
      exact ⟨Ne.symm pk.ne, fun d h1 h2 => pk.ssa e.o x.o d (hme e he) (hme x hx) h2 h1⟩
    · exact absurd rfl hxe
    · obtain ⟨q1, q2, rfl⟩ := List.append_of_mem he'
      have pk := h.pair1 hord hs
      exact ⟨pk.ne, fun d h1 => pk.ssa x.o e.o d (hme x hx) (hme e he) h1⟩
  have hup : ∀ j, listed.getD j false = true → (listed.setIfInBounds e.i true).getD j false = true := by
    intro j hj; rw [hset]; split <;> first | rfl | exact hj
  have hdown : ∀ x ∈ es, (listed.setIfInBounds e.i true).getD x.i false = true → x = e ∨ listed.getD x.i false = true := by
    intro x hx hl
    by_cases hxe : x = e
    · exact .inl hxe
    · rw [hset, if_neg (hne x hx hxe).1] at hl; exact .inr hl
  refine ⟨h.ch, h.ord, fun x hx hh => hup _ (h.hot x hx hh), fun i hi2 => ?_, hp, by rw [put_size]; exact h.size, fun x hx hl t ht => ?_, fun t ht hn => ?_, fun x hx hl hc hw => ?_, h.loose, h.lg, fun j hj i hd => ?_, by simp [h.lsz], by rw [put_defers]; exact h.dn, h.k⟩
  · rw [hset, if_neg]
    · exact h.un i hi2
    · intro hie
      obtain ⟨p1, p2, hs⟩ := List.append_of_mem he
      obtain ⟨r1, r2, hr⟩ := List.append_of_mem hi2
      have := hord.pair (p1.map (·.i)) e.i (p2.map (·.i) ++ r1) i r2 (by rw [← h.ord, hs, hr]; simp)
      exact this.ne hie.symm
  · rcases hdown x hx hl with rfl | hl2
    · rw [ht, getD_put_same (by rw [h.size]; exact hdst t ht)]; exact hv
    · by_cases hxe : x = e
      · subst hxe; rw [ht, getD_put_same (by rw [h.size]; exact hdst t ht)]; exact hv
      · rw [getD_put_other ((hne x hx hxe).2 t ht)]; exact (h.tA x hx hl2 t ht).mono hle
  · rw [getD_put_other (hn e he (by rw [hset, if_pos rfl]))]
    exact (h.tB t ht (fun x hx hl => hn x hx (hup _ hl))).mono hle
  · have hxe : x.i ≠ e.i := by
      intro hxe; rw [hset, if_pos hxe] at hl; cases hl
    rw [hset, if_neg hxe] at hl
    exact hal x hx hxe hl hc hw
  · rw [hset] at hj
    split at hj
    · rename_i hje; subst hje; exact hup _ (dep_listed h hi i hd)
    · exact hup _ (h.cl j hj i hd)

/-- A content that is read late is what it was. -/
theorem Inv.content (h : Inv P B base N M l ord T0 ρ0 H0 w0 ds Q es rest H log ρ a w listed) {pre post : List Ent} {e : Ent} (hs : es = pre ++ e :: post) (hun : listed.getD e.i false = false) {x : Nat} (hrd : e.rd = some x) (hx : x < e.H'.length) : H[x]? = e.H'[x]? := by
  have hsp := h.ch.split pre e post hs
  refine hsp.2.2.2.2 x hx (fun y hy => ?_)
  have hye : EntOk P l.toArray y := by
    obtain ⟨q1, q2, rfl⟩ := List.append_of_mem hy
    exact (h.ch.split (pre ++ e :: q1) y q2 (by rw [hs]; simp)).1
  cases hh : hotOp y.o with
  | false => rw [hye.2.2.2.1 hh]; simp
  | true =>
    have hly := h.hot y (by rw [hs]; simp [hy]) hh
    refine h.loose pre e post hs y hy hh ?_ x hrd
    cases hd : depB (befs l []) y.i e.i with
    | false => rfl
    | true => rw [h.cl _ hly _ hd] at hun; cases hun

theorem Inv.late (hok : ∀ o ∈ l, opOk N P.globals.size o = true) (hord : OrdOk l ord) (hbase : base ≤ H0.length) (h : Inv P B base N M l ord T0 ρ0 H0 w0 ds Q es rest H log ρ a w listed) {ro : Option Nat} {Qr : Exit → Act → World → Prop} {e : Ent} (he : e ∈ es) (hi : e.i ∈ Region.ready .any l.toArray listed) (hun : listed.getD e.i false = false) {K : Act → World → Prop}
    (hK : ∀ ρ' a' w', Inv P B base N M l ord T0 ρ0 H0 w0 ds Q es rest H log ρ' a' w' (listed.setIfInBounds e.i true) → K a' w') : wpOpIn (Fw ro) 0 P l.toArray Qr e.i K a w := by
  obtain ⟨pre, post, hs⟩ := List.append_of_mem he
  have hsp := h.ch.split pre e post hs
  obtain ⟨ok, hT, hc, hlen, _⟩ := hsp
  have hmem : e.o ∈ l := by have := ok.1.1; simp at this; exact List.mem_of_getElem? this
  have hlk := h.looks1 hord hs hi hun
  have hdst : ∀ o ∈ l.toArray, ∀ d, o.dst = some d → d < N := fun o ho d hd => opOk_dst (hok o (by simpa using ho)) d hd
  have hw := wanted_sim' (ρ := ρ) (T := e.T) (ops := l.toArray) h.size hdst (o := e.o) hlk ok.1.2
  have hcold : hotOp e.o = false := by
    cases hh : hotOp e.o with
    | false => rfl
    | true => rw [h.hot e he hh] at hun; cases hun
  unfold wpOpIn
  rw [ok.1.1]
  simp only [hw]
  cases hwt : kwanted e.o l.toArray e.T with
  | false =>
    simp only [Bool.false_eq_true, if_false]
    refine ⟨fun _ _ => trivial, hK ρ _ w (h.done1 hord he hi hun (Ren.le_refl _) h.post ?_ (fun x hx _ hl hc hw => h.al x hx hl hc hw) (fun d hd => opOk_dst (hok _ hmem) d hd))⟩
    rw [ok.2.2.1 hwt]; exact VR.undef ρ
  | true =>
    simp only [if_true]
    have hev := ev_sim' (ops := l.toArray) h.post.rel hlk (hok _ hmem)
    refine ⟨fun _ _ => trivial, ?_⟩
    show e.o.uponIn (Fw ro) 0 P a K Qr ((e.o.semAt ro a.eval).run P w)
    rw [semAt_exec (hok _ hmem)]
    rcases ok.2.1 hcold hwt with ⟨rd, h1, h2, h3, h4⟩ | ⟨ob, h1, h2, h3, h4⟩
    · have hoa : ∀ id, rd = some id → ObjAt ρ e.H w id := by
        intro id hid r o g1 g2
        have hx : id < e.H.length := (List.getElem?_eq_some_iff.1 g2).1
        have := h.content hs hun (by rw [h3]; exact hid) (by rw [h2]; exact hx)
        rw [h2] at this
        exact h.post.rel.obj id r o g1 (by rw [this]; exact g2)
      obtain ⟨v', g1, g2⟩ := kpure_sim (w := w) h1 hev hoa
      rw [g1]
      exact hK ρ _ w (h.done1 hord he hi hun (Ren.le_refl _) h.post g2 (fun x hx _ hl hc hw => h.al x hx hl hc hw) (fun d hd => opOk_dst (hok _ hmem) d hd))
    · have hno := h.al e he hun h4 hwt
      obtain ⟨v', obj, ri, g1, g2, g3, g4⟩ := kalloc_sim h1 hev hno w
      rw [g1]
      have hob : H[e.H.length]? = some ob := by
        rw [h.content hs hun h3 (by rw [h2]; simp), h2]
        simp
      have hlt : e.H.length < H.length := (List.getElem?_eq_some_iff.1 hob).1
      refine hK _ _ _ (h.done1 hord he hi hun (Ren.le_set hno) (h.post.late hlt hc.len hob hno g2 g4) g3 (fun x hx hxe hl hc2 hw2 => ?_) (fun d hd => opOk_dst (hok _ hmem) d hd))
      have hx0 := h.al x hx hl hc2 hw2
      rw [Ren.set_other]
      · exact hx0
      · -- two operations that make a block make two blocks
        intro heq
        obtain ⟨p1, p2, hs2⟩ := List.append_of_mem hx
        have he' := he
        rw [hs2] at he'
        simp only [List.mem_append, List.mem_cons] at he'
        have hxok := (h.ch.split p1 x p2 hs2).1
        have hxcold : hotOp x.o = false := by
          cases hh : hotOp x.o with
          | false => rfl
          | true => rw [h.hot x hx hh] at hl; cases hl
        rcases he' with he' | rfl | he'
        · obtain ⟨q1, q2, rfl⟩ := List.append_of_mem he'
          have h5 := (h.ch.split (q1 ++ e :: q2) x p2 hs2).2.2.1
          have h6 := (h5.split q1 e q2 rfl).2.2.2.1
          rw [h2] at h6
          simp at h6
          omega
        · exact hxe rfl
        · obtain ⟨q1, q2, rfl⟩ := List.append_of_mem he'
          have h5 := (h.ch.split (p1 ++ x :: q1) e q2 (by rw [hs2]; simp)).2.2.1
          have h6 := (h5.split p1 x q1 rfl).2.2.2.1
          rcases hxok.2.1 hxcold hw2 with ⟨_, _, _, _, k4⟩ | ⟨ob2, _, k2, _, _⟩
          · rw [k4] at hc2; cases hc2
          · rw [k2] at h6; simp at h6; omega
end
end Go.K
