/- A statement whose order is open: the rule. No condition. -/
import Derived.Test.YthcjliffpebjaaaK17
namespace Go.K
open Go
set_option linter.unusedVariables false
variable {P : Program}

section
variable {B base N : Nat} {M : List Nat} {l : List Oper} {ord : List Nat} {T0 : Tm} {ρ0 : Ren} {H0 : Heap} {w0 : World} {ds : List Deferred} {Q : Tm → Heap → Prop}
  {es : List Ent} {rest : List Nat} {H : Heap} {log : List (Nat × Option Nat)} {ρ : Ren} {a : Act} {w : World} {listed : Array Bool}

/-- The next acting operation is carried out. -/
theorem Inv.doneHot (hord : OrdOk l ord) (hbase : base ≤ H0.length) {j : Nat} {is : List Nat} (h : Inv P B base N M l ord T0 ρ0 H0 w0 ds Q es (j :: is) H log ρ a w listed) {o : Oper} (ho : l.toArray[j]? = some o) (hh : hotOp o = true)
    (hi : j ∈ Region.ready .any l.toArray listed) {ρ' : Ren} {w' : World} {v v' : Value} {H' : Heap} {ms : List Nat} (hp : Post P B H.length ms ρ H w ρ' H' w') (hms : ∀ id ∈ ms, id < base → id ∈ M) (hv : VR ρ' v v') (hlo : Loose (befs l []) j log ms)
    (hun : kwanted o l.toArray (chainT T0 es) = false → v = undef) (hkn : kknown o l.toArray (chainT T0 es) = true) (hdst : ∀ d, o.dst = some d → d < N) (hk : KOpsL P base M (befs l []) l.toArray is (put (chainT T0 es) o.dst v) H' log Q) :
    ∃ es', Inv P B base N M l ord T0 ρ0 H0 w0 ds Q es' is H' log ρ' (a.put o.dst v') w' (listed.setIfInBounds j true) := by
  have hme : ∀ x, x ∈ es → l.toArray[x.i]? = some x.o := fun x hx => h.ent hx
  have hlt : j < listed.size := by
    rw [h.lsz]
    have := (Array.getElem?_eq_some_iff.1 ho).1
    simpa using this
  have hset := getD_set_listed hlt
  have hne : ∀ x ∈ es, x.i ≠ j ∧ (∀ d, x.o.dst = some d → o.dst ≠ some d) := by
    intro x hx
    obtain ⟨p1, p2, hs⟩ := List.append_of_mem hx
    have pk := h.pair2 hord hs rfl
    exact ⟨pk.ne, fun d h1 => pk.ssa x.o o d (hme x hx) ho h1⟩
  have hup : ∀ k, listed.getD k false = true → (listed.setIfInBounds j true).getD k false = true := by
    intro k hk; rw [hset]; split <;> first | rfl | exact hk
  have hdown : ∀ x ∈ es, (listed.setIfInBounds j true).getD x.i false = listed.getD x.i false := by
    intro x hx; rw [hset, if_neg (hne x hx).1]
  have hlen := h.ch.len
  refine ⟨es ++ [⟨j, o, chainT T0 es, H, v, H', none, ms⟩], Chain.snoc h.ch rfl rfl ⟨⟨ho, hkn⟩, fun h1 => ?_, hun, fun h1 => ?_, hp.len, fun id h1 h2 => hp.same id h1 h2⟩, by rw [← h.ord]; simp, fun x hx hx2 => ?_, fun i hi2 => ?_, h.post.trans (hp.weaken (by omega) (fun id h1 h2 => hms id h1 h2)),
    by rw [put_size]; exact h.size, fun x hx hl t ht => ?_, fun t ht hn => ?_, fun x hx hl hc hw => ?_, ?_, fun y hy x hrd => ?_, fun k hk i hd => ?_, by simp [h.lsz], by rw [put_defers]; exact h.dn, by rw [chainT_snoc]; exact hk⟩
  · rw [show hotOp o = true from hh] at h1; cases h1
  · rw [show hotOp o = true from hh] at h1; cases h1
  · simp only [List.mem_append, List.mem_singleton] at hx
    rcases hx with hx | rfl
    · exact hup _ (h.hot x hx hx2)
    · rw [hset, if_pos rfl]
  · rw [hset, if_neg]
    · exact h.un i (List.mem_cons_of_mem _ hi2)
    · intro e
      obtain ⟨r1, r2, hr⟩ := List.append_of_mem hi2
      exact (hord.pair (es.map (·.i)) j r1 i r2 (by rw [← h.ord, hr])).ne e.symm
  · simp only [List.mem_append, List.mem_singleton] at hx
    rcases hx with hx | rfl
    · rw [hdown x hx] at hl
      rw [getD_put_other ((hne x hx).2 t ht)]
      exact (h.tA x hx hl t ht).mono hp.ext
    · have ht' : o.dst = some t := ht
      rw [ht', getD_put_same (by rw [h.size]; exact hdst t ht')]
      exact hv
  · rw [getD_put_other (hn ⟨j, o, chainT T0 es, H, v, H', none, ms⟩ (by simp) (by rw [hset, if_pos rfl]))]
    exact (h.tB t ht (fun x hx hl => hn x (by simp [hx]) (hup _ hl))).mono hp.ext
  · simp only [List.mem_append, List.mem_singleton] at hx
    rcases hx with hx | rfl
    · rw [hdown x hx] at hl
      have hno := h.al x hx hl hc hw
      cases hq : ρ' x.H.length with
      | none => rfl
      | some r =>
        have h1 := hp.new _ r hq hno
        obtain ⟨p1, p2, hs⟩ := List.append_of_mem hx
        obtain ⟨ok, _, _, h3, _⟩ := h.ch.split p1 x p2 hs
        have hcold : hotOp x.o = false := by unfold hotOp; rw [hc]
        rcases ok.2.1 hcold hw with ⟨_, _, _, _, k4⟩ | ⟨ob2, _, k2, _, _⟩
        · rw [k4] at hc; cases hc
        · rw [k2] at h3; simp at h3; omega
    · have hc' : oclass o.op = .alloc := hc
      unfold hotOp at hh
      rw [hc'] at hh; cases hh
  · intro pre y post hsp z hz hhot hdep x hrd
    rcases List.eq_nil_or_concat post with rfl | ⟨post', q, rfl⟩
    · cases hz
    · have he2 : es ++ [⟨j, o, chainT T0 es, H, v, H', none, ms⟩] = (pre ++ y :: post') ++ [q] := by rw [hsp]; simp
      obtain ⟨h1, h2⟩ := List.append_inj' he2 (by simp)
      simp at h2; subst h2
      simp only [List.concat_eq_append, List.mem_append, List.mem_singleton] at hz
      rcases hz with hz | rfl
      · exact h.loose pre y post' h1 z hz hhot hdep x hrd
      · exact hlo _ (h.lg y (by rw [h1]; simp) x hrd) hdep x rfl
  · simp only [List.mem_append, List.mem_singleton] at hy
    rcases hy with hy | rfl
    · exact h.lg y hy x hrd
    · cases hrd
  · rw [hset] at hk
    split at hk
    · rename_i hkj; subst hkj; exact hup _ (dep_listed h hi i hd)
    · exact hup _ (h.cl k hk i hd)

theorem Inv.hotStep (hok : ∀ o ∈ l, opOk N P.globals.size o = true) (hord : OrdOk l ord) (hbase : base ≤ H0.length) {j : Nat} {is : List Nat} (h : Inv P B base N M l ord T0 ρ0 H0 w0 ds Q es (j :: is) H log ρ a w listed) {o : Oper} (ho : l.toArray[j]? = some o) (hh : hotOp o = true)
    (hi : j ∈ Region.ready .any l.toArray listed) {ro : Option Nat} {Qr : Exit → Act → World → Prop} {K : Act → World → Prop}
    (hK : ∀ es' H' log' ρ' a' w', Inv P B base N M l ord T0 ρ0 H0 w0 ds Q es' is H' log' ρ' a' w' (listed.setIfInBounds j true) → K a' w') : wpOpIn (Fw ro) 0 P l.toArray Qr j K a w := by
  have hmem : o ∈ l := by simp at ho; exact List.mem_of_getElem? ho
  have hlk := h.looks2 hord rfl ho hi
  have hdst : ∀ o ∈ l.toArray, ∀ d, o.dst = some d → d < N := fun o ho d hd => opOk_dst (hok o (by simpa using ho)) d hd
  have hk := h.k
  simp only [KOpsL, ho] at hk
  obtain ⟨hkn, hk⟩ := hk
  have hw := wanted_sim' (ρ := ρ) (T := chainT T0 es) (ops := l.toArray) h.size hdst (o := o) hlk hkn
  have hlen := h.ch.len
  unfold wpOpIn
  rw [ho]
  simp only [hw]
  cases hwt : kwanted o l.toArray (chainT T0 es) with
  | false =>
    rw [hwt] at hk
    simp only [Bool.false_eq_true, if_false] at hk ⊢
    refine ⟨fun _ _ => trivial, ?_⟩
    obtain ⟨es', h'⟩ := h.doneHot hord hbase ho hh hi (v := undef) (v' := undef) (ms := []) (Post.refl h.post.rel) (fun _ h => by cases h) (VR.undef ρ) (Loose.nil _ _ _) (fun _ => rfl) hkn (fun d hd => opOk_dst (hok _ hmem) d hd) hk
    exact hK _ _ _ _ _ _ h'
  | true =>
    rw [hwt] at hk
    simp only [if_true] at hk ⊢
    have hev := ev_sim' (ops := l.toArray) h.post.rel hlk (hok _ hmem)
    have fin : ∀ (v v' : Value) (ρ' : Ren) (H' : Heap) (w' : World) (ms : List Nat), Post P B H.length ms ρ H w ρ' H' w' → (∀ id ∈ ms, id < base → id ∈ M) → VR ρ' v v' → Loose (befs l []) j log ms → KOpsL P base M (befs l []) l.toArray is (put (chainT T0 es) o.dst v) H' log Q → K (a.put o.dst v') w' := by
      intro v v' ρ' H' w' ms h1 h2 h3 h4 h5
      obtain ⟨es', h'⟩ := h.doneHot hord hbase ho hh hi h1 h2 h3 h4 (fun hf => by rw [hwt] at hf; cases hf) hkn (fun d hd => opOk_dst (hok _ hmem) d hd) h5
      exact hK _ _ _ _ _ _ h'
    refine ⟨fun _ _ => trivial, ?_⟩
    show o.uponIn (Fw ro) 0 P a K Qr ((o.semAt ro a.eval).run P w)
    rw [semAt_exec (hok _ hmem)]
    unfold KStepL at hk
    unfold hotOp at hh
    split at hk
    · rename_i hc; rw [hc] at hh; cases hh
    · rename_i hc; rw [hc] at hh; cases hh
    · obtain ⟨v, H', wr, h1, h2, h3, h4⟩ := hk
      obtain ⟨v', w', ρ', g1, g2, g3⟩ := kwrite_sim (base := H.length) (M := wr) h1 hev h.post.rel (fun id hid _ => hid) (Nat.le_refl _)
      rcases g1 with g1 | ⟨g1, g4⟩
      · rw [g1]; exact fin v v' ρ' H' w' wr g3 h2 g2 h3 h4
      · rw [g1]; rw [g4] at g2; exact fin v undef ρ' H' w' wr g3 h2 g2 h3 h4
    · split at hk
      · rename_i f args tys hop
        obtain ⟨Mc, h1, h2, h3⟩ := hk
        have hrun : execOp a.eval o = (do let d ← Deferred.ofValue (a.eval f) (args.map a.eval); invoke d.target d.args : Sem Next) := by
          obtain ⟨dst, op, ty, pos, after, guard⟩ := o
          simp only at hop
          subst hop
          rfl
        have hop2 : ∀ x, x ∈ (#[f] ++ args) → x ∈ o.op.operands := by
          intro x hx
          obtain ⟨dst, op, ty, pos, after, guard⟩ := o
          simp only at hop
          subst hop
          simpa [Op.operands, Call.operands] using hx
        have := h1 B ρ w (a.eval f) (args.map a.eval) h.post.rel (hev f (hop2 f (by simp))) (by
          rw [Array.toList_map]
          exact map_rel (fun x hx => hev x (hop2 x (by simp [Array.mem_toList_iff.1 hx]))))
        rw [hrun]
        generalize ((do let d ← Deferred.ofValue (a.eval f) (args.map a.eval); invoke d.target d.args : Sem Next)).run P w = r at this
        unfold Hands at this
        split at this
        · rename_i g xs w1
          refine ⟨fun h => by simp [Fw, Fence.wide] at h, ?_⟩
          show CallsIn (Fw ro) 0 P g xs w1 _
          refine CallsIn.mono (F := Fw ro) this ?_
          rintro e w' ⟨v, v', ρ', H', rfl, g2, g3, g4⟩
          exact fin v v' ρ' H' w' Mc g3 h2 g2 h3 g4
        · rename_i q g tm asg bd w1
          refine ⟨fun h => by simp [Fw, Fence.wide] at h, ?_⟩
          show RoundIn (Fw ro) 0 P q g tm asg bd w1 _
          refine RoundIn.mono (F := Fw ro) this ?_
          rintro e w' ⟨v, v', ρ', H', rfl, g2, g3, g4⟩
          exact fin v v' ρ' H' w' Mc g3 h2 g2 h3 g4
        · exact this.elim
      · exact hk.elim
    · exact hk.elim

theorem any_sound (hok : ∀ o ∈ l, opOk N P.globals.size o = true) (hord : OrdOk l ord) (hbase : base ≤ H0.length) {ro : Option Nat} {Qr : Exit → Act → World → Prop}
    (hQ : ∀ ρ' T' H' w' a', Post P B base M ρ0 H0 w0 ρ' H' w' → TR ρ' N T' a'.tmps → a'.defers = ds → Q T' H' → Qr .normal a' w') :
    ∀ (fuel : Nat) (u : List Nat) {es : List Ent} {rest : List Nat} {H : Heap} {log : List (Nat × Option Nat)} {ρ : Ren} {a : Act} {w : World} {listed : Array Bool}, u.length ≤ fuel → (∀ i, i < l.length → listed.getD i false = false → i ∈ u) →
      Inv P B base N M l ord T0 ρ0 H0 w0 ds Q es rest H log ρ a w listed → wpAnyIn (Fw ro) 0 P .any l.toArray Qr fuel listed a w := by
  intro fuel
  induction fuel with
  | zero =>
    intro u es rest H log ρ a w listed hu hcov h
    obtain rfl : u = [] := List.length_eq_zero_iff.1 (by omega)
    obtain ⟨es', rest', H', log', h', hhead⟩ := h.advance hbase
    have hall : ∀ i, i < l.length → listed.getD i false = true := by
      intro i hi
      cases hl : listed.getD i false with
      | true => rfl
      | false => have := hcov i hi hl; cases this
    have hrest : rest' = [] := by
      cases rest' with
      | nil => rfl
      | cons i is =>
        have h1 := h'.un i (List.mem_cons_self ..)
        have h2 := hall i (hord.lt i (by rw [← h'.ord]; simp))
        rw [h1] at h2; cases h2
    subst hrest
    refine ⟨?_, ?_⟩
    · cases hr : Region.ready .any l.toArray listed with
      | nil => rfl
      | cons i is =>
        have hi : i ∈ Region.ready .any l.toArray listed := by rw [hr]; simp
        obtain ⟨h1, o, ho, _⟩ := mem_ready.1 hi
        have hlt : i < l.length := by have := (Array.getElem?_eq_some_iff.1 ho).1; simpa using this
        have h2 := hall i hlt
        rw [unlisted (by rw [h.lsz]; exact hlt) h1] at h2; cases h2
    · have hk := h'.k
      simp only [KOpsL] at hk
      refine hQ ρ (chainT T0 es') H' w a h'.post ⟨h'.size, fun t ht => ?_⟩ h'.dn hk
      have hld : ∀ e ∈ es', listed.getD e.i false = true := fun e he => hall e.i (hord.lt e.i (by rw [← h'.ord]; simp only [List.append_nil, List.mem_map]; exact ⟨e, he, rfl⟩))
      by_cases hw : ∃ y ∈ es', y.o.dst = some t
      · obtain ⟨y, hy, hd⟩ := hw
        obtain ⟨p1, p2, hs⟩ := List.append_of_mem hy
        have : chainT T0 es' t = y.v := by
          rw [hs]
          refine chainT_some hd (fun x hx => ?_)
          obtain ⟨q1, q2, rfl⟩ := List.append_of_mem hx
          exact (h'.pair1 hord hs).ssa y.o x.o t (h'.ent hy) (h'.ent (by rw [hs]; simp)) hd
        rw [this]
        exact h'.tA y hy (hld y hy) t hd
      · rw [chainT_none (fun x hx hd => hw ⟨x, hx, hd⟩)]
        exact h'.tB t ht (fun x hx _ hd => hw ⟨x, hx, hd⟩)
  | succ fuel ih =>
    intro u es rest H log ρ a w listed hu hcov h
    obtain ⟨es', rest', H', log', h', hhead⟩ := h.advance hbase
    -- whatever is left has something that is ready
    have hready : Region.ready .any l.toArray listed = [] → ∀ i, i < l.length → listed.getD i false = true := by
      intro hnil
      have key : ∀ (pre post : List Nat), ord = pre ++ post → ∀ i ∈ pre, listed.getD i false = true := by
        intro pre
        induction pre using snoc_ind with
        | h0 => intro post _ i hi; cases hi
        | h1 pre j ihp =>
          intro post he i hi
          have hpre := ihp (j :: post) (by rw [he]; simp)
          simp only [List.mem_append, List.mem_singleton] at hi
          rcases hi with hi | rfl
          · exact hpre i hi
          · cases hl : listed.getD i false with
            | true => rfl
            | false =>
              exfalso
              have hlt : i < l.length := hord.lt i (by rw [he]; simp)
              have : i ∈ Region.ready .any l.toArray listed := by
                refine mem_ready.2 ⟨?_, l[i], by simp [hlt], fun e hee hb => ?_⟩
                · have hls : i < listed.size := by rw [h.lsz]; exact hlt
                  simpa [Array.getD, hls] using hl
                · have hol : l[i]? = some l[i] := List.getElem?_eq_getElem hlt
                  have hon := hord.edges i _ hol e hee hb
                  have hdep := befs_on hol hee hb
                  have hin := hord.all e.on hon
                  rw [he] at hin
                  simp only [List.append_assoc, List.mem_append, List.mem_singleton] at hin
                  rcases hin with hin | hin | hin
                  · exact hpre _ hin
                  · rw [hin] at hdep; rw [hord.irr i hlt] at hdep; cases hdep
                  · obtain ⟨r1, r2, rfl⟩ := List.append_of_mem hin
                    have := (hord.pair pre i r1 e.on r2 (by rw [he]; simp)).order
                    rw [this] at hdep; cases hdep
              rw [hnil] at this; cases this
      intro i hi
      exact key ord [] (by simp) i (hord.all i hi)
    refine ⟨fun hnil => ?_, fun i hi => ?_⟩
    · have hall := hready hnil
      have := ih [] (by simp) (fun i hi hl => by rw [hall i hi] at hl; cases hl) h
      -- nothing is left: as at the end
      cases fuel with
      | zero => exact this.2
      | succ f => exact this.1 hnil
    · obtain ⟨h1, o, ho, _⟩ := mem_ready.1 hi
      have hlt : i < l.length := by have := (Array.getElem?_eq_some_iff.1 ho).1; simpa using this
      have hun := unlisted (by rw [h.lsz]; exact hlt) h1
      have hset := getD_set_listed (show i < listed.size by rw [h.lsz]; exact hlt)
      have hnext : (u.erase i).length ≤ fuel := by
        have hm := hcov i hlt hun
        rw [List.length_erase_of_mem hm]; omega
      have hcov' : ∀ k, k < l.length → (listed.setIfInBounds i true).getD k false = false → k ∈ u.erase i := by
        intro k hk hl
        rw [hset] at hl
        split at hl
        · cases hl
        · rename_i hne
          exact (List.mem_erase_of_ne hne).2 (hcov k hk hl)
      have hin : i ∈ es'.map (·.i) ++ rest' := by rw [h'.ord]; exact hord.all i hlt
      simp only [List.mem_append, List.mem_map] at hin
      rcases hin with ⟨e, he, rfl⟩ | hin
      · exact h'.late hok hord hbase he hi hun (fun ρ' a' w' hI => ih _ hnext hcov' hI)
      · cases rest' with
        | nil => cases hin
        | cons j is =>
          obtain ⟨oj, hoj, hhot⟩ := hhead j is rfl
          have hij : i = j := by
            rcases List.mem_cons.1 hin with rfl | hin
            · rfl
            · exfalso
              obtain ⟨r1, r2, rfl⟩ := List.append_of_mem hin
              have pk := hord.pair (es'.map (·.i)) j r1 i r2 h'.ord.symm
              have hd := pk.hot oj hoj hhot
              have := dep_listed h' hi j hd
              rw [h'.un j (List.mem_cons_self ..)] at this; cases this
          subst hij
          exact h'.hotStep hok hord hbase hoj hhot hi (fun es2 H2 log2 ρ2 a2 w2 hI => ih _ hnext hcov' hI)
end

theorem KW.draw {ro : Option Nat} {N base : Nat} {M : List Nat} {T : Tm} {H : Heap} {Q : Exit → Tm → Heap → Prop} {id : Nat} {l : List Oper} (hm : P.follows .mixedOrders = true) (hok : l.all (opOk N P.globals.size) = true) (ord : List Nat) (hord : ordOk l ord = true)
    (h : KOpsL P base M (befs l []) l.toArray ord T H [] (fun T' H' => Q .normal T' H')) : KW P ro N base M (.region id l.toArray true) T H Q := by
  intro B ρ w a n0 h1 h2 h3 h4 h5
  refine wpIn_region_any hm ?_
  rw [List.all_eq_true] at hok
  have hos := ordOk_spec hord
  have hfalse : ∀ j, (Array.replicate l.toArray.size false).getD j false = false := by intro j; simp [Array.getD]
  refine any_sound (B := B) (base := base) (N := N) (M := M) (T0 := T) (ρ0 := ρ) (H0 := H) (w0 := w) (ds := a.defers) (Q := fun T' H' => Q .normal T' H') (fun o ho => hok o ho) hos h2 ?_ l.toArray.size (List.range l.length) (es := []) (rest := ord) (H := H) (log := []) (ρ := ρ) (by simp) (fun i hi _ => by simpa using hi) ?_
  · intro ρ' T' H' w' a' hp hT hd hq
    exact ⟨ρ', T', H', hp, hT, by rw [hd]; exact DOK.post h1 h5 hp, hq⟩
  · refine ⟨Chain.nil, by simp, fun e he => (by cases he), fun i _ => hfalse i, Post.drew h1, h3.1, fun e he => (by cases he), fun t ht _ => h3.2 t ht, fun e he => (by cases he), fun pre e post he => (by simp at he), fun e he => (by cases he), fun j hj => ?_, by simp, rfl, h⟩
    rw [hfalse j] at hj; cases hj
end Go.K
