/- DriftInside: a wider chart, wider flows. No condition. -/
import Derived.Test.YtkkgnalgmebfjaaGA4xI1g
import Derived.Test.YtkkgnalgmebfjaaRows
import Derived.JoinedCond
import Derived.Test.YtkkgnalgmebfjaaGK27xK32
namespace Go.Proofs.Ytkkgnalgmebfjaa
open Go Go.K
set_option maxRecDepth 100000
set_option linter.unusedVariables false
set_option linter.unusedSimpArgs false
noncomputable section
/-! ## Piles -/
def plLe (p q : Pl) : Prop := p.s ≤ q.s ∧ p.t ≤ q.t ∧ p.r ≤ q.r
def icLe (x y : Ice) : Prop := x.conc ≤ y.conc ∧ x.thick ≤ y.thick ∧ x.ridge ≤ y.ridge ∧ x.press ≤ y.press
theorem plLe.refl (p : Pl) : plLe p p := ⟨Int.le_refl _, Int.le_refl _, Int.le_refl _⟩
theorem plLe.trans {p q r : Pl} (h : plLe p q) (k : plLe q r) : plLe p r := ⟨Int.le_trans h.1 k.1, Int.le_trans h.2.1 k.2.1, Int.le_trans h.2.2 k.2.2⟩
theorem addP_up {q : Pl} {y : Ice} (h : 0 ≤ y.conc) : plLe q (addP q y) := by
  unfold addP
  split
  · exact plLe.refl q
  · exact ⟨by show q.s ≤ q.s + y.conc; omega, Int.le_max_left .., Int.le_max_left ..⟩
theorem addP_mono {p q : Pl} {x y : Ice} (h : plLe p q) (hx : 0 ≤ x.conc) (hxy : icLe x y) : plLe (addP p x) (addP q y) := by
  by_cases h0 : x.conc = 0
  · rw [show addP p x = p from if_pos h0]
    exact h.trans (addP_up (by have := hxy.1; omega))
  · have h1 : ¬ y.conc = 0 := by have := hxy.1; omega
    rw [show addP p x = ⟨p.s + x.conc, max p.t x.thick, max p.r x.ridge⟩ from if_neg h0, show addP q y = ⟨q.s + y.conc, max q.t y.thick, max q.r y.ridge⟩ from if_neg h1]
    obtain ⟨a, b, c⟩ := h
    obtain ⟨d, e, f, _⟩ := hxy
    refine ⟨?_, ?_, ?_⟩ <;> dsimp only
    · omega
    · exact Int.max_le.2 ⟨Int.le_trans b (Int.le_max_left ..), Int.le_trans e (Int.le_max_right ..)⟩
    · exact Int.max_le.2 ⟨Int.le_trans c (Int.le_max_left ..), Int.le_trans f (Int.le_max_right ..)⟩
theorem tdiv_mono {a b d : Int} (h : 0 ≤ a) (hab : a ≤ b) (hd : 0 < d) : Int.tdiv a d ≤ Int.tdiv b d := by
  rw [Int.tdiv_eq_ediv_of_nonneg h, Int.tdiv_eq_ediv_of_nonneg (by omega)]
  exact Int.ediv_le_ediv hd hab
theorem tell_mono {p q : Pl} (h : plLe p q) : icLe (tellP p) (tellP q) := by
  obtain ⟨a, b, c⟩ := h
  have ho : overP p ≤ overP q := by unfold overP; omega
  have h0 : 0 ≤ overP p := by unfold overP; omega
  have d1 := tdiv_mono h0 ho (d := 10) (by decide)
  have d2 := tdiv_mono h0 ho (d := 5) (by decide)
  have d3 := tdiv_mono (a := overP p + 25 - 1) (b := overP q + 25 - 1) (d := 25) (by omega) (by omega) (by decide)
  refine ⟨?_, ?_, ?_, ?_⟩
  · show p.s - overP p ≤ q.s - overP q
    unfold overP; omega
  · show min _ 400 ≤ min _ 400
    omega
  · show min _ 100 ≤ min _ 100
    omega
  · show min _ 3 ≤ min _ 3
    omega
theorem tell_right {m : Nat} {p : Pl} (h : plOk m p) : rightI (tellP p) := by
  obtain ⟨⟨a, b⟩, ⟨c, d⟩, e, f⟩ := h
  have h0 : 0 ≤ overP p := by unfold overP; omega
  have d1 := tdiv_bd (d := 10) h0 (by decide)
  have d2 := tdiv_bd (d := 5) h0 (by decide)
  have d3 := tdiv_bd (o := overP p + 25 - 1) (d := 25) (by omega) (by decide)
  refine ⟨⟨?_, ?_⟩, ⟨?_, ?_⟩, ⟨?_, ?_⟩, ?_, ?_⟩
  · show 0 ≤ p.s - overP p; unfold overP; omega
  · show p.s - overP p ≤ 100; unfold overP; omega
  · show 0 ≤ min _ 400; omega
  · show min _ 400 ≤ 400; omega
  · show 0 ≤ min _ 100; omega
  · show min _ 100 ≤ 100; omega
  · show 0 ≤ min _ 3; omega
  · show min _ 3 ≤ 3; omega
/-! ## Flows -/
def widF (f g : Flow) : Prop := (g.x.lo ≤ f.x.lo ∧ f.x.hi ≤ g.x.hi) ∧ (g.y.lo ≤ f.y.lo ∧ f.y.hi ≤ g.y.hi)
theorem inMv_mem {f : Flow} (hf : rightF f) {m : Move} (h : inMv f m = true) : m ∈ movesF f := by
  unfold inMv at h
  simp only [Bool.and_eq_true, decide_eq_true_eq] at h
  obtain ⟨⟨h1, h2⟩, h3, h4⟩ := h
  have key : ∀ j : Nat, (m.dy - (endA f).dy).toNat < j → m ∈ mvTo f j := by
    intro j
    induction j with
    | zero => intro h; omega
    | succ j ih =>
      intro h
      rcases Nat.lt_or_ge (m.dy - (endA f).dy).toNat j with q | q
      · exact List.mem_append.2 (.inl (ih q))
      · refine List.mem_append.2 (.inr ?_)
        unfold mvRow tabP
        refine List.mem_map.2 ⟨(m.dx - (endA f).dx).toNat, ?_, ?_⟩
        · rw [List.mem_range]; unfold nxF; omega
        · obtain ⟨dx, dy⟩ := m
          have e1 : (endA f).dx + (((dx - (endA f).dx).toNat : Nat) : Int) = dx := by dsimp only at *; omega
          have e2 : (endA f).dy + ((j : Nat) : Int) = dy := by dsimp only at *; omega
          rw [e1, e2]
  exact key (nyF f) (by unfold nyF; omega)
theorem moves_wid {f g : Flow} (hf : rightF f) (hg : rightF g) (h : widF f g) {m : Move} (hm : m ∈ movesF f) : m ∈ movesF g := by
  have := movesF_in hf m hm
  refine inMv_mem hg ?_
  unfold inMv at this ⊢
  simp only [Bool.and_eq_true, decide_eq_true_eq] at this ⊢
  unfold endA endZ at this ⊢
  unfold widF at h
  dsimp only at *
  omega
theorem TG_wid {w h : Int} {a : List Bool} {l l' : List Flow} {k : Nat} (b : BasOk w h a.length) (hc : 0 ≤ (k : Int) ∧ (k : Int) < w * h) (hf : rightF (l.getD k zeroF)) (hg : rightF (l'.getD k zeroF)) (hw : widF (l.getD k zeroF) (l'.getD k zeroF)) {t : Int} (ht : t ∈ TG w h a l k) : t ∈ TG w h a l' k := by
  obtain ⟨m, h1, h2⟩ := (TG_mem b hc).1 ht
  exact (TG_mem b hc).2 ⟨m, moves_wid hf hg hw h1, h2⟩
theorem TG_ne {w h : Int} {a : List Bool} {l : List Flow} {k : Nat} (b : BasOk w h a.length) (hc : 0 ≤ (k : Int) ∧ (k : Int) < w * h) (hf : rightF (l.getD k zeroF)) : TG w h a l k ≠ [] := fun q => by
  have hm := movesF_bd hf
  have := (TG_mem (a := a) (l := l) b hc (t := targ w h a (k : Int) ((movesF (l.getD k zeroF)).getD 0 zeroM))).2 ⟨_, getD_mem (by omega), rfl⟩
  rw [q] at this; cases this
/-! ## Charts -/
theorem may_get {w h : Int} {a : List Bool} {l : List Flow} {cs : List Cell} (b : BasOk w h a.length) {k : Nat} (ha : a.getD k false = false) (T : Nat) :
    (mayTo w h a l cs (k + 1)).getD T zeroP = if (T : Int) ∈ TG w h a l k then addP ((mayTo w h a l cs k).getD T zeroP) (hiI (cs.getD k zeroC)) else (mayTo w h a l cs k).getD T zeroP := by
  have e1 : mayTo w h a l cs (k + 1) = addTo (mayTo w h a l cs k) (TG w h a l k) (hiI (cs.getD k zeroC)) := if_neg (by rw [ha]; exact Bool.false_ne_true)
  rw [e1]
  exact addTo_get TG_lt (fun s hs => by rw [mayTo_len]; exact TG_bd b hs)
theorem must_get {w h : Int} {a : List Bool} {l : List Flow} {cs : List Cell} (b : BasOk w h a.length) {k : Nat} (ha : a.getD k false = false) (hne : TG w h a l k ≠ []) (T : Nat) :
    (mustTo w h a l cs (k + 1)).getD T zeroP = if (TG w h a l k).length = 1 ∧ (TG w h a l k).getD 0 0 = (T : Int) then addP ((mustTo w h a l cs k).getD T zeroP) (loI (cs.getD k zeroC)) else (mustTo w h a l cs k).getD T zeroP := by
  have e1 : mustTo w h a l cs (k + 1) = if (TG w h a l k).length = 1 then addAt (mustTo w h a l cs k) ((TG w h a l k).getD 0 0) (loI (cs.getD k zeroC)) else mustTo w h a l cs k := if_neg (by rw [ha]; exact Bool.false_ne_true)
  rw [e1]
  by_cases q : (TG w h a l k).length = 1
  · have hm : (TG w h a l k).getD 0 0 ∈ TG w h a l k := getD_mem (by omega)
    have hb := TG_bd b hm
    rw [if_pos q]
    unfold addAt
    rw [getD_set (by rw [mustTo_len]; omega)]
    by_cases q2 : T = Int.toNat ((TG w h a l k).getD 0 0)
    · rw [if_pos q2, if_pos ⟨q, by omega⟩, q2]
    · rw [if_neg q2, if_neg (fun h => q2 (by omega))]
  · rw [if_neg q, if_neg (fun h => q h.1)]
theorem lo_ok {c : Cell} (h : rightC c) : 0 ≤ (loI c).conc := h.1.1
theorem hi_ok {c : Cell} (h : rightC c) : 0 ≤ (hiI c).conc := by
  obtain ⟨a1, a2, a3, a4⟩ := h.1
  unfold hiI; dsimp only; omega
theorem must_may {w h : Int} {a : List Bool} {l : List Flow} {cs : List Cell} (o : StepOk w h a l cs) (T : Nat) : ∀ {k : Nat}, k ≤ cs.length → plLe ((mustTo w h a l cs k).getD T zeroP) ((mayTo w h a l cs k).getD T zeroP)
  | 0, _ => plLe.refl _
  | k + 1, hk => by
    have ih := must_may o T (k := k) (by omega)
    have hn := o.b.n1
    have := o.n
    have hc : 0 ≤ (k : Int) ∧ (k : Int) < w * h := by omega
    cases ha : a.getD k false with
    | true => rw [show mustTo w h a l cs (k + 1) = mustTo w h a l cs k from if_pos ha, show mayTo w h a l cs (k + 1) = mayTo w h a l cs k from if_pos ha]; exact ih
    | false =>
      have hce := o.ce (k := k) (by omega)
      rw [may_get o.b ha, must_get o.b ha (TG_ne o.b hc (o.fl (by omega)))]
      by_cases q : (TG w h a l k).length = 1 ∧ (TG w h a l k).getD 0 0 = (T : Int)
      · have hm : (T : Int) ∈ TG w h a l k := by rw [← q.2]; exact getD_mem (by omega)
        rw [if_pos q, if_pos hm]
        obtain ⟨⟨a1, a2, a3, a4⟩, ⟨b1, b2, b3, b4⟩, ⟨c1, c2, c3, c4⟩, ⟨d1, d2, d3, d4⟩⟩ := hce
        exact addP_mono ih a1 ⟨a3, b3, c3, d3⟩
      · rw [if_neg q]
        split
        · exact ih.trans (addP_up (hi_ok hce))
        · exact ih
theorem may_wid {w h : Int} {a : List Bool} {l l' : List Flow} {cs cs' : List Cell} (o : StepOk w h a l cs) (o' : StepOk w h a l' cs') (hf : ∀ k, k < a.length → widF (l.getD k zeroF) (l'.getD k zeroF)) (hi : ∀ k, k < a.length → insC (cs.getD k zeroC) (cs'.getD k zeroC)) (T : Nat) : ∀ {k : Nat}, k ≤ cs.length →
    plLe ((mayTo w h a l cs k).getD T zeroP) ((mayTo w h a l' cs' k).getD T zeroP)
  | 0, _ => plLe.refl _
  | k + 1, hk => by
    have ih := may_wid o o' hf hi T (k := k) (by omega)
    have hn := o.b.n1
    have h1 := o.n
    have h2 := o'.n
    have hc : 0 ≤ (k : Int) ∧ (k : Int) < w * h := by omega
    cases ha : a.getD k false with
    | true => rw [show mayTo w h a l cs (k + 1) = mayTo w h a l cs k from if_pos ha, show mayTo w h a l' cs' (k + 1) = mayTo w h a l' cs' k from if_pos ha]; exact ih
    | false =>
      have hce := o.ce (k := k) (by omega)
      have hce' := o'.ce (k := k) (by omega)
      rw [may_get o.b ha, may_get o.b ha]
      obtain ⟨⟨i1, i2⟩, ⟨i3, i4⟩, ⟨i5, i6⟩, ⟨i7, i8⟩⟩ := hi k (by omega)
      by_cases q : (T : Int) ∈ TG w h a l k
      · rw [if_pos q, if_pos (TG_wid o.b hc (o.fl (by omega)) (o'.fl (by omega)) (hf k (by omega)) q)]
        exact addP_mono ih (hi_ok hce) ⟨i2, i4, i6, i8⟩
      · rw [if_neg q]
        split
        · exact ih.trans (addP_up (hi_ok hce'))
        · exact ih
theorem must_wid {w h : Int} {a : List Bool} {l l' : List Flow} {cs cs' : List Cell} (o : StepOk w h a l cs) (o' : StepOk w h a l' cs') (hf : ∀ k, k < a.length → widF (l.getD k zeroF) (l'.getD k zeroF)) (hi : ∀ k, k < a.length → insC (cs.getD k zeroC) (cs'.getD k zeroC)) (T : Nat) : ∀ {k : Nat}, k ≤ cs.length →
    plLe ((mustTo w h a l' cs' k).getD T zeroP) ((mustTo w h a l cs k).getD T zeroP)
  | 0, _ => plLe.refl _
  | k + 1, hk => by
    have ih := must_wid o o' hf hi T (k := k) (by omega)
    have hn := o.b.n1
    have h1 := o.n
    have h2 := o'.n
    have hc : 0 ≤ (k : Int) ∧ (k : Int) < w * h := by omega
    cases ha : a.getD k false with
    | true => rw [show mustTo w h a l cs (k + 1) = mustTo w h a l cs k from if_pos ha, show mustTo w h a l' cs' (k + 1) = mustTo w h a l' cs' k from if_pos ha]; exact ih
    | false =>
      have hce := o.ce (k := k) (by omega)
      have hce' := o'.ce (k := k) (by omega)
      have hne := TG_ne (a := a) o.b hc (o.fl (by omega))
      have hne' := TG_ne (a := a) o.b hc (o'.fl (by omega))
      rw [must_get o.b ha hne, must_get o.b ha hne']
      obtain ⟨⟨i1, i2⟩, ⟨i3, i4⟩, ⟨i5, i6⟩, ⟨i7, i8⟩⟩ := hi k (by omega)
      by_cases q : (TG w h a l' k).length = 1 ∧ (TG w h a l' k).getD 0 0 = (T : Int)
      · have q' : (TG w h a l k).length = 1 ∧ (TG w h a l k).getD 0 0 = (T : Int) := (one_TG TG_lt hne).1 fun s hs => (one_TG TG_lt hne').2 q s (TG_wid o.b hc (o.fl (by omega)) (o'.fl (by omega)) (hf k (by omega)) hs)
        rw [if_pos q, if_pos q']
        exact addP_mono ih (lo_ok hce') ⟨i1, i3, i5, i7⟩
      · rw [if_neg q]
        split
        · exact ih.trans (addP_up (lo_ok hce))
        · exact ih
theorem step_right {w h : Int} {a : List Bool} {l : List Flow} {cs : List Cell} (o : StepOk w h a l cs) (k : Nat) : rightC (stepC w h a l cs k) := by
  have h1 := tell_mono (must_may o k (Nat.le_refl cs.length))
  have h2 := tell_right (mustTo_ok o (Nat.le_refl cs.length) k)
  have h3 := tell_right (mayTo_ok o (Nat.le_refl cs.length) k)
  obtain ⟨a1, a2, a3, a4⟩ := h1
  obtain ⟨b1, b2, b3, b4⟩ := h2
  obtain ⟨c1, c2, c3, c4⟩ := h3
  exact ⟨⟨b1.1, b1.2, a1, c1.2⟩, ⟨b2.1, b2.2, a2, c2.2⟩, ⟨b3.1, b3.2, a3, c3.2⟩, b4.1, b4.2, a4, c4.2⟩
theorem step_ins {w h : Int} {a : List Bool} {l l' : List Flow} {cs cs' : List Cell} (o : StepOk w h a l cs) (o' : StepOk w h a l' cs') (hf : ∀ k, k < a.length → widF (l.getD k zeroF) (l'.getD k zeroF)) (hi : ∀ k, k < a.length → insC (cs.getD k zeroC) (cs'.getD k zeroC)) (k : Nat) : insC (stepC w h a l cs k) (stepC w h a l' cs' k) := by
  have hl : cs.length = cs'.length := by rw [o.n, o'.n]
  have h1 := tell_mono (must_wid o o' hf hi k (Nat.le_refl cs.length))
  have h2 := tell_mono (may_wid o o' hf hi k (Nat.le_refl cs.length))
  unfold stepC
  rw [← hl]
  exact ⟨⟨h1.1, h2.1⟩, ⟨h1.2.1, h2.2.1⟩, ⟨h1.2.2.1, h2.2.2.1⟩, h1.2.2.2, h2.2.2.2⟩
/-! ## What is made wider -/
theorem chg_0 {r h : Int} (hr : 0 ≤ r) (hh : 0 ≤ h) : 0 ≤ chg r h := by
  unfold chg
  have := Int.mul_nonneg hr hh
  omega
theorem ageS_ok {s : Span} {u d h m : Int} (hs : rightSp s m) (hu : 0 ≤ u) (hd : 0 ≤ d) (hh : 0 ≤ h) : rightSp (ageS s u d h m) m ∧ insS s (ageS s u d h m) := by
  have h1 := chg_0 hu hh
  have h2 := chg_0 hd hh
  unfold ageS rightSp insS at *
  dsimp only
  omega
theorem ageC_ok {c : Cell} {m : Rates} {h : Int} (hc : rightC c) (hm : rightR m) (hh : 0 ≤ h) : rightC (ageC c m h) ∧ insC c (ageC c m h) := by
  obtain ⟨c1, c2, c3, c4⟩ := hc
  obtain ⟨⟨u1, u2, u3, u4⟩, d1, d2, d3, d4⟩ := hm
  have r1 := ageS_ok c1 u1.1 d1.1 hh
  have r2 := ageS_ok c2 u2.1 d2.1 hh
  have r3 := ageS_ok c3 u3.1 d3.1 hh
  have r4 := ageS_ok c4 u4.1 d4.1 hh
  exact ⟨⟨r1.1, r2.1, r3.1, r4.1⟩, r1.2, r2.2, r3.2, r4.2⟩
theorem iRt_ok (W : List Int) (n : Int) : rightR (iRt W n) := by
  have h1 := dN_bd W n (m := 500) (by decide)
  have h2 := dN_bd W (n + 1) (m := 900) (by decide)
  have h3 := dN_bd W (n + 1 + 1) (m := 500) (by decide)
  have h4 := dN_bd W (n + 1 + 1 + 1) (m := 30) (by decide)
  have h5 := dN_bd W (n + 1 + 1 + 1 + 1) (m := 500) (by decide)
  have h6 := dN_bd W (n + 1 + 1 + 1 + 1 + 1) (m := 900) (by decide)
  have h7 := dN_bd W (n + 1 + 1 + 1 + 1 + 1 + 1) (m := 500) (by decide)
  have h8 := dN_bd W (n + 1 + 1 + 1 + 1 + 1 + 1 + 1) (m := 30) (by decide)
  unfold rightR rateI iRt
  dsimp only
  omega
theorem iCl_ok (W : List Int) (n : Int) {c : Cell} (hc : rightC c) : rightC (iCl W n c) ∧ insC c (iCl W n c) :=
  ageC_ok hc (iRt_ok W n) (dN_bd W _ (by decide)).1
theorem iFl_ok (W : List Int) (n : Int) {f : Flow} (hf : rightF f) : rightF (iFl W n f) ∧ widF f (iFl W n f) := by
  obtain ⟨⟨a1, a2, a3⟩, b1, b2, b3⟩ := hf
  have m1 := mulNN (dN_bd W n (m := 3) (by decide)) (dN_bd W (n + 1) (m := 300) (by decide))
  have m2 := mulNN (dN_bd W (n + 1 + 1) (m := 3) (by decide)) (dN_bd W (n + 1 + 1 + 1) (m := 300) (by decide))
  have m3 := mulNN (dN_bd W (n + 1 + 1 + 1 + 1) (m := 3) (by decide)) (dN_bd W (n + 1 + 1 + 1 + 1 + 1) (m := 300) (by decide))
  have m4 := mulNN (dN_bd W (n + 1 + 1 + 1 + 1 + 1 + 1) (m := 3) (by decide)) (dN_bd W (n + 1 + 1 + 1 + 1 + 1 + 1 + 1) (m := 300) (by decide))
  unfold iFl rightF rightS widF
  dsimp only
  omega
theorem insC_refl (c : Cell) : insC c c := ⟨⟨Int.le_refl _, Int.le_refl _⟩, ⟨Int.le_refl _, Int.le_refl _⟩, ⟨Int.le_refl _, Int.le_refl _⟩, Int.le_refl _, Int.le_refl _⟩
theorem widF_refl (f : Flow) : widF f f := ⟨⟨Int.le_refl _, Int.le_refl _⟩, Int.le_refl _, Int.le_refl _⟩
theorem iS_1 {L W : List Int} {k : Nat} (h : (kA L).getD k false = true) : iS L W (k + 1) = ((iS L W k).1 ++ [(tC L).getD k zeroC], (iS L W k).2.1 ++ [iFl W (iS L W k).2.2 ((tF L).getD k zeroF)], (iS L W k).2.2 + 1 + 1 + 1 + 1 + 1 + 1 + 1 + 1) := if_pos h
theorem iS_2 {L W : List Int} {k : Nat} (h : (kA L).getD k false = false) : iS L W (k + 1) = ((iS L W k).1 ++ [iCl W (iS L W k).2.2 ((tC L).getD k zeroC)], (iS L W k).2.1 ++ [iFl W ((iS L W k).2.2 + 1 + 1 + 1 + 1 + 1 + 1 + 1 + 1 + 1) ((tF L).getD k zeroF)], (iS L W k).2.2 + 1 + 1 + 1 + 1 + 1 + 1 + 1 + 1 + 1 + 1 + 1 + 1 + 1 + 1 + 1 + 1 + 1) := if_neg (by rw [h]; exact Bool.false_ne_true)
theorem iS_ok (L W : List Int) : ∀ k, k ≤ (kA L).length → ((iS L W k).1.length = k ∧ (iS L W k).2.1.length = k) ∧ (0 ≤ (iS L W k).2.2 ∧ (iS L W k).2.2 ≤ 17 * (k : Int)) ∧
    ∀ j, j < k → (rightC ((iS L W k).1.getD j zeroC) ∧ insC ((tC L).getD j zeroC) ((iS L W k).1.getD j zeroC) ∧ ((kA L).getD j false = true → (iS L W k).1.getD j zeroC = zeroC)) ∧ rightF ((iS L W k).2.1.getD j zeroF) ∧ widF ((tF L).getD j zeroF) ((iS L W k).2.1.getD j zeroF)
  | 0, _ => ⟨⟨rfl, rfl⟩, ⟨Int.le_refl 0, Int.le_refl 0⟩, fun j h => by omega⟩
  | k + 1, hk => by
    obtain ⟨⟨i1, i2⟩, i3, i4⟩ := iS_ok L W k (by omega)
    obtain ⟨c1, c2⟩ := tC_ok L
    obtain ⟨f1, f2⟩ := tF_ok L
    have hf := f2 _ (getD_mem (d := zeroF) (show k < (tF L).length by omega))
    obtain ⟨q1, _, q3⟩ := c2 k (by omega)
    cases ha : (kA L).getD k false with
    | true =>
      rw [iS_1 ha]
      refine ⟨⟨by rw [List.length_append, i1]; rfl, by rw [List.length_append, i2]; rfl⟩, by dsimp only; omega, fun j hj => ?_⟩
      dsimp only
      rw [getD_snoc i1 hj, getD_snoc i2 hj]
      split
      · exact i4 j (by omega)
      · obtain rfl : j = k := by omega
        exact ⟨⟨q1, insC_refl _, fun _ => q3 ha⟩, iFl_ok W _ hf⟩
    | false =>
      rw [iS_2 ha]
      refine ⟨⟨by rw [List.length_append, i1]; rfl, by rw [List.length_append, i2]; rfl⟩, by dsimp only; omega, fun j hj => ?_⟩
      dsimp only
      rw [getD_snoc i1 hj, getD_snoc i2 hj]
      split
      · exact i4 j (by omega)
      · obtain rfl : j = k := by omega
        have := iCl_ok W (iS L W j).2.2 q1
        exact ⟨⟨this.1, this.2, fun h => by rw [ha] at h; cases h⟩, iFl_ok W _ hf⟩
theorem sL_len (L : List Int) (fs : List Flow) (cs : List Cell) : (sL L fs cs).length = (kA L).length := tabP_len _ _
/-- A step of flows and a chart that are right. -/
theorem sL_step (L : List Int) {fs : List Flow} {cs : List Cell} (h1 : fs.length = (kA L).length) (h2 : ∀ f ∈ fs, rightF f) (h3 : cs.length = (kA L).length) (h4 : ∀ k, k < (kA L).length → rightC (cs.getD k zeroC) ∧ ((kA L).getD k false = true → cs.getD k zeroC = zeroC)) :
    StepOk (kW L) (kH L) (kA L) fs cs ∧ fStep (kW L) (kH L) (kA L) fs (kW L) (kH L) (tHr L) cs = (⟨kW L, kH L, tHr L + 1, sL L fs cs⟩, 0) := by
  obtain ⟨b1, b2, b3, b4⟩ := kB_ok L
  obtain ⟨_, _, b5⟩ := t_bd L
  have e1 : errFlows (kW L) (kH L) (kA L).length fs = 0 := flows_ok (wat_ok L 0) h1 h2
  have e2 := fits_0 (t := tHr L) ⟨b1, b2, b3, by omega⟩ b4 h3 h4
  refine ⟨(stepOk e1 e2).1, ?_⟩
  unfold fStep
  rw [if_pos e1, if_pos e2, if_neg (by omega)]; rfl
theorem sL_chart (L : List Int) {fs : List Flow} {cs : List Cell} (o : StepOk (kW L) (kH L) (kA L) fs cs) : errChart (kW L) (kH L) (tHr L + 1) (sL L fs cs) = 0 := by
  obtain ⟨b1, b2, b3, b4⟩ := kB_ok L
  obtain ⟨_, _, b5⟩ := t_bd L
  have hl := sL_len L fs cs
  unfold errChart
  rw [first2_2 (errSize_iff.2 ⟨b1, b2, b3, by omega⟩), if_pos (by omega)]
  refine errs_all fun c hm => ?_
  obtain ⟨k, hk, rfl⟩ := mem_getD (d := zeroC) hm
  have e : (sL L fs cs).getD k zeroC = stepC (kW L) (kH L) (kA L) fs cs k := tabP_get (by omega)
  rw [e]
  exact errCell_iff.2 (step_right o k)
theorem sL_ins (L : List Int) {fs fs' : List Flow} {cs cs' : List Cell} (o : StepOk (kW L) (kH L) (kA L) fs cs) (o' : StepOk (kW L) (kH L) (kA L) fs' cs') (hf : ∀ k, k < (kA L).length → widF (fs.getD k zeroF) (fs'.getD k zeroF)) (hi : ∀ k, k < (kA L).length → insC (cs.getD k zeroC) (cs'.getD k zeroC)) :
    fInsC (kW L) (kH L) (tHr L + 1) (sL L fs cs) (kW L) (kH L) (tHr L + 1) (sL L fs' cs') = (true, 0) := by
  have h1 := sL_chart L o
  have h2 := sL_chart L o'
  have e : errPair (kW L) (kH L) (tHr L + 1) (sL L fs cs) (kW L) (kH L) (tHr L + 1) (sL L fs' cs') = 0 := by
    unfold errPair
    rw [first2_2 h1, if_pos h2, if_pos ⟨rfl, rfl, rfl⟩]
  unfold fInsC
  rw [if_pos e]
  have : insTo (sL L fs cs) (sL L fs' cs') (sL L fs cs).length := fun k hk => by
    rw [sL_len] at hk
    have e1 : (sL L fs cs).getD k zeroC = stepC (kW L) (kH L) (kA L) fs cs k := tabP_get hk
    have e2 : (sL L fs' cs').getD k zeroC = stepC (kW L) (kH L) (kA L) fs' cs' k := tabP_get hk
    rw [e1, e2]
    exact step_ins o o' hf hi k
  simp only [this, decide_true]
end
end Go.Proofs.Ytkkgnalgmebfjaa
/- DriftInside returns true. No condition. -/
namespace Go.Proofs.Ytkkgnalgmebfjaa
open Go Go.K
set_option maxRecDepth 100000
set_option linter.unusedVariables false
set_option linter.unusedSimpArgs false
noncomputable section
attribute [local irreducible] vF
theorem fAge_0 {c : Cell} {m : Rates} {h : Int} (hc : rightC c) (hm : rightR m) (hh : 0 ≤ h ∧ h ≤ 10000) : fAge c m h = (ageC c m h, 0) := by
  unfold fAge
  rw [first2_2 (errCell_iff.2 hc), if_pos (errRates_iff.2 hm), if_pos hh]
set_option maxHeartbeats 4000000 in
theorem kInsideLaw (L W : List Int) (H : Heap) : KCall prog F.polynyalaw02_DriftInside [.iface (L.length + 1) (.agg ⟨L.flatMap intC⟩), .iface (W.length + 1) (.agg ⟨W.flatMap intC⟩)] H [] (Is (.bool true) H) := by
  refine valK 40 (fun σ => ?_) rfl (Eq.mpr (EInsideLaw (.bool true) L W) ?_) H
  · have := (rnCl (σ := σ) (d := 2) (l := [.iface (L.length + 1) (.agg ⟨L.flatMap intC⟩), .iface (W.length + 1) (.agg ⟨W.flatMap intC⟩)]) (by
      show ((L.flatMap intC).all (belowD 0) && ((W.flatMap intC).all (belowD 0) && true)) = true
      rw [all_belowD, all_belowD]; rfl)).1
    exact this
  unfold RInsideLaw
  obtain ⟨⟨b1, b2⟩, b3, b4⟩ := k_bd L
  obtain ⟨u1, u2, u3⟩ := t_bd L
  obtain ⟨x1, x2⟩ := kX_ok L
  obtain ⟨f1, f2⟩ := tF_ok L
  obtain ⟨c1, c2⟩ := tC_ok L
  refine ⟨⟨rfl, trivial⟩, fun H' hl hd => kWaters L 0 (by omega) hl hd.1, ⟨rfl, rfl, trivial⟩, fun H' hl hd => (kField L (k1 L) (by omega) (kW L) (kH L) (kA L) (by omega) hl hd.1 hd.2.1 (by decide)).wkA ⟨wk_refl _, wk_aggL ⟨wk_refl _, wk_refl _, wk_QR, trivial⟩, trivial⟩,
    ⟨rfl, rfl, rfl, trivial⟩, fun H' hl hd => (kHolding L (k2 L) (by omega) (kW L) (kH L) (kA L) (kX L) x1 (by omega) (fun k hk => x2 k (by omega)) hl hd.1 hd.2.1 hd.2.2.1 (by decide)).wkA ⟨wk_refl _, wk_aggL ⟨wk_refl _, wk_refl _, wk_QR, trivial⟩, wk_QR, trivial⟩,
    ⟨rfl, rfl, trivial⟩, fun H' hl hd => (kCurrents L (t3 L) (by omega) (kW L) (kH L) (kA L) (by omega) hl hd.1 hd.2.1 (by decide)).wkA ⟨wk_refl _, wk_aggL ⟨wk_refl _, wk_refl _, wk_QR, trivial⟩, trivial⟩, rfl, Nat.zero_le _, ?_, fun _ => rfl, ?_⟩
  · repeat' first | exact plainC _ _ | exact plainFL _ _ | exact digO _ _ _ | exact trivial | exact rfl | exact wk_refl _ | refine wkO_cells ?_ | refine wks_cons ?_ ?_ | exact wks_nil | exact wk_nil _ _ _ (.inl rfl) | (exact wk_Q (by omega)) | refine wk_tupL ?_ | refine wk_aggL ?_ | refine joinMax ?_ ?_ ?_ | refine joinMin ?_ ?_ ?_ | refine toMax ?_ | refine toMin ?_ | refine ⟨rfl, ?_⟩ | refine ⟨trivial, ?_⟩ | (refine forkD (fun h => ?_) (fun h => ?_)) | (refine forkNe (fun h => ?_) (fun h => ?_)) | (refine forkEq (fun h => ?_) (fun h => ?_)) | refine forkNot ?_ | (refine ⟨vI64 (by omega), ?_⟩) | (refine And.intro (by omega) ?_) | apply And.intro | (exact iEq (by omega)) | (exact vI64 (by omega))
  intro x hx
  obtain ⟨⟨i1, i2⟩, i3, i4⟩ := iS_ok L W x (by omega)
  refine forkD (fun k => ?_) (fun k => ?_)
  · have hxx : x < (tC L).length := by omega
    have hr := f2 _ (getD_mem (d := zeroF) (show x < (tF L).length by omega))
    obtain ⟨q1, _, q3⟩ := c2 x (by omega)
    have c1' := flat_le cellC_len (iS L W x).1
    have c2' := flat_le flowC_len (iS L W x).2.1
    rw [i1] at c1'
    rw [i2] at c2'
    have mk1 : ∀ {y : Cell} {M : List Cell} {c : List Value}, M = (iS L W x).1 ++ [y] → cellC y = c → (some (KObj.cells true 8 (List.take (x * 8) (List.drop 0 ((iS L W x).1.flatMap cellC)) ++ List.take (1 * 8) (List.drop 0 c))) : Option KObj) = some (.cells true 8 (M.flatMap cellC)) := fun {y M c} hM hc => by
      have := ob_snoc (own := true) cellC_len hM hc
      rw [i1] at this; exact this
    have mk2 : ∀ {y : Flow} {M : List Flow} {c : List Value}, M = (iS L W x).2.1 ++ [y] → flowC y = c → (some (KObj.cells true 4 (List.take (x * 4) (List.drop 0 ((iS L W x).2.1.flatMap flowC)) ++ List.take (1 * 4) (List.drop 0 c))) : Option KObj) = some (.cells true 4 (M.flatMap flowC)) := fun {y M c} hM hc => by
      have := ob_snoc (own := true) flowC_len hM hc
      rw [i2] at this; exact this
    obtain ⟨⟨r1, r2, r3⟩, r4, r5, r6⟩ := hr
    refine ⟨by omega, partCell hxx, by omega, boolAt (by omega) (by omega), fun q => ?_, fun q => ?_⟩
    · have hs := iS_2 (L := L) (W := W) (notB q)
      have h2 : (iS L W (x + 1)).2.2 = (iS L W x).2.2 + 1 + 1 + 1 + 1 + 1 + 1 + 1 + 1 + 1 + 1 + 1 + 1 + 1 + 1 + 1 + 1 + 1 := by rw [hs]
      have hob1 := @mk1 (iCl W (iS L W x).2.2 ((tC L).getD x zeroC)) (iS L W (x + 1)).1
      have hob2 := @mk2 (iFl W ((iS L W x).2.2 + 1 + 1 + 1 + 1 + 1 + 1 + 1 + 1 + 1) ((tF L).getD x zeroF)) (iS L W (x + 1)).2.1
      replace hob1 := fun {c} => @hob1 c (by rw [hs])
      replace hob2 := fun {c} => @hob2 c (by rw [hs])
      clear hs mk1 mk2
      generalize (iS L W x).2.2 = m at *
      have hA := fAge_0 (c := (tC L).getD x zeroC) (m := iRt W m) (h := dN W (m + 1 + 1 + 1 + 1 + 1 + 1 + 1 + 1) 3) q1 (iRt_ok W m) (by have := dN_bd W (m + 1 + 1 + 1 + 1 + 1 + 1 + 1 + 1) (m := 3) (by decide); omega)
      refine ⟨⟨rfl, trivial⟩, fun H' _ hd => kNext _ _ _ (by omega) (by decide) hd.1, ⟨rfl, trivial⟩, fun H' _ hd => kNext _ _ _ (by omega) (by decide) hd.1, ⟨rfl, trivial⟩, fun H' _ hd => kNext _ _ _ (by omega) (by decide) hd.1, ⟨rfl, trivial⟩, fun H' _ hd => kNext _ _ _ (by omega) (by decide) hd.1,
        ⟨rfl, trivial⟩, fun H' _ hd => kNext _ _ _ (by omega) (by decide) hd.1, ⟨rfl, trivial⟩, fun H' _ hd => kNext _ _ _ (by omega) (by decide) hd.1, ⟨rfl, trivial⟩, fun H' _ hd => kNext _ _ _ (by omega) (by decide) hd.1, ⟨rfl, trivial⟩, fun H' _ hd => kNext _ _ _ (by omega) (by decide) hd.1,
        ⟨rfl, trivial⟩, fun H' _ hd => kNext _ _ _ (by omega) (by decide) hd.1, (iCl W m ((tC L).getD x zeroC), 0), trivial, fun H' _ _ => ?_, forkNe (fun q => absurd rfl q) (fun _ => ⟨⟨by omega, by decide, ⟨Nat.le_refl _, c1'⟩, ⟨Nat.le_refl _, Nat.le_refl _⟩, rfl⟩, rfl, by omega, partFlow (by omega), ?_⟩)⟩
      · have := kAge ((tC L).getD x zeroC) (iRt W m) (dN W (m + 1 + 1 + 1 + 1 + 1 + 1 + 1 + 1) 3) H'
        rw [hA] at this; exact this
      have m1 := mulNN (dN_bd W (m + 1 + 1 + 1 + 1 + 1 + 1 + 1 + 1 + 1) (m := 3) (by decide)) (dN_bd W (m + 1 + 1 + 1 + 1 + 1 + 1 + 1 + 1 + 1 + 1) (m := 300) (by decide))
      have m2 := mulNN (dN_bd W (m + 1 + 1 + 1 + 1 + 1 + 1 + 1 + 1 + 1 + 1 + 1) (m := 3) (by decide)) (dN_bd W (m + 1 + 1 + 1 + 1 + 1 + 1 + 1 + 1 + 1 + 1 + 1 + 1) (m := 300) (by decide))
      have m3 := mulNN (dN_bd W (m + 1 + 1 + 1 + 1 + 1 + 1 + 1 + 1 + 1 + 1 + 1 + 1 + 1) (m := 3) (by decide)) (dN_bd W (m + 1 + 1 + 1 + 1 + 1 + 1 + 1 + 1 + 1 + 1 + 1 + 1 + 1 + 1) (m := 300) (by decide))
      have m4 := mulNN (dN_bd W (m + 1 + 1 + 1 + 1 + 1 + 1 + 1 + 1 + 1 + 1 + 1 + 1 + 1 + 1 + 1) (m := 3) (by decide)) (dN_bd W (m + 1 + 1 + 1 + 1 + 1 + 1 + 1 + 1 + 1 + 1 + 1 + 1 + 1 + 1 + 1 + 1) (m := 300) (by decide))
      repeat' first | (refine ⟨⟨rfl, trivial⟩, fun H' _ hd => kNext _ _ _ (by omega) (by decide) hd.1, ?_⟩) | (refine ⟨vI64 (by omega), ?_⟩) | (refine ⟨x + 1, by omega, by omega, rfl, ?_⟩) | exact plainC _ _ | exact plainFL _ _ | exact c1' | exact c2' | exact Nat.le_refl _ | exact digO _ _ _ | rw [h2] | exact hob1 rfl | (exact hob2 (by unfold iFl flowC; dsimp only; simp only [← ite_max, ← ite_min])) | exact trivial | exact rfl | exact wk_refl _ | refine wkO_cells ?_ | refine wks_cons ?_ ?_ | exact wks_nil | exact wk_nil _ _ _ (.inl rfl) | (exact wk_Q (by omega)) | refine wk_tupL ?_ | refine wk_aggL ?_ | refine joinMax ?_ ?_ ?_ | refine joinMin ?_ ?_ ?_ | refine toMax ?_ | refine toMin ?_ | refine ⟨rfl, ?_⟩ | refine ⟨trivial, ?_⟩ | (refine forkD (fun h => ?_) (fun h => ?_)) | (refine forkNe (fun h => ?_) (fun h => ?_)) | (refine forkEq (fun h => ?_) (fun h => ?_)) | refine forkNot ?_ | (refine ⟨vI64 (by omega), ?_⟩) | (refine And.intro (by omega) ?_) | apply And.intro | (exact iEq (by omega)) | (exact vI64 (by omega))
    · have hs := iS_1 (L := L) (W := W) (notB2 q)
      have h2 : (iS L W (x + 1)).2.2 = (iS L W x).2.2 + 1 + 1 + 1 + 1 + 1 + 1 + 1 + 1 := by rw [hs]
      have hob1 := @mk1 ((tC L).getD x zeroC) (iS L W (x + 1)).1
      have hob2 := @mk2 (iFl W (iS L W x).2.2 ((tF L).getD x zeroF)) (iS L W (x + 1)).2.1
      replace hob1 := fun {c} => @hob1 c (by rw [hs])
      replace hob2 := fun {c} => @hob2 c (by rw [hs])
      clear hs mk1 mk2
      generalize (iS L W x).2.2 = m at *
      have m1 := mulNN (dN_bd W m (m := 3) (by decide)) (dN_bd W (m + 1) (m := 300) (by decide))
      have m2 := mulNN (dN_bd W (m + 1 + 1) (m := 3) (by decide)) (dN_bd W (m + 1 + 1 + 1) (m := 300) (by decide))
      have m3 := mulNN (dN_bd W (m + 1 + 1 + 1 + 1) (m := 3) (by decide)) (dN_bd W (m + 1 + 1 + 1 + 1 + 1) (m := 300) (by decide))
      have m4 := mulNN (dN_bd W (m + 1 + 1 + 1 + 1 + 1 + 1) (m := 3) (by decide)) (dN_bd W (m + 1 + 1 + 1 + 1 + 1 + 1 + 1) (m := 300) (by decide))
      refine ⟨⟨by omega, by decide, ⟨Nat.le_refl _, c1'⟩, ⟨Nat.le_refl _, Nat.le_refl _⟩, rfl⟩, rfl, by omega, partFlow (by omega), ?_⟩
      repeat' first | (refine ⟨⟨rfl, trivial⟩, fun H' _ hd => kNext _ _ _ (by omega) (by decide) hd.1, ?_⟩) | (refine ⟨vI64 (by omega), ?_⟩) | (refine ⟨x + 1, by omega, by omega, rfl, ?_⟩) | exact plainC _ _ | exact plainFL _ _ | exact c1' | exact c2' | exact Nat.le_refl _ | exact digO _ _ _ | rw [h2] | exact hob1 rfl | (exact hob2 (by unfold iFl flowC; dsimp only; simp only [← ite_max, ← ite_min])) | exact trivial | exact rfl | exact wk_refl _ | refine wkO_cells ?_ | refine wks_cons ?_ ?_ | exact wks_nil | exact wk_nil _ _ _ (.inl rfl) | (exact wk_Q (by omega)) | refine wk_tupL ?_ | refine wk_aggL ?_ | refine joinMax ?_ ?_ ?_ | refine joinMin ?_ ?_ ?_ | refine toMax ?_ | refine toMin ?_ | refine ⟨rfl, ?_⟩ | refine ⟨trivial, ?_⟩ | (refine forkD (fun h => ?_) (fun h => ?_)) | (refine forkNe (fun h => ?_) (fun h => ?_)) | (refine forkEq (fun h => ?_) (fun h => ?_)) | refine forkNot ?_ | (refine ⟨vI64 (by omega), ?_⟩) | (refine And.intro (by omega) ?_) | apply And.intro | (exact iEq (by omega)) | (exact vI64 (by omega))
  · obtain rfl : x = (tC L).length := by omega
    have hfs : ∀ f ∈ (iS L W (tC L).length).2.1, rightF f := fun f hm => by
      obtain ⟨k, hk, rfl⟩ := mem_getD (d := zeroF) hm
      exact (i4 k (by omega)).2.1
    obtain ⟨o1, s1⟩ := sL_step L f1 f2 c1 fun k hk => ⟨(c2 k hk).1, (c2 k hk).2.2⟩
    obtain ⟨o2, s2⟩ := sL_step L (cs := (iS L W (tC L).length).1) f1 f2 (by omega) fun k hk => ⟨(i4 k (by omega)).1.1, (i4 k (by omega)).1.2.2⟩
    obtain ⟨o3, s3⟩ := sL_step L (fs := (iS L W (tC L).length).2.1) (cs := (iS L W (tC L).length).1) (by omega) hfs (by omega) fun k hk => ⟨(i4 k (by omega)).1.1, (i4 k (by omega)).1.2.2⟩
    have g1 := sL_ins L o1 o2 (fun k hk => widF_refl _) (fun k hk => (i4 k (by omega)).1.2.1)
    have g2 := sL_ins L o2 o3 (fun k hk => (i4 k (by omega)).2.2) (fun k hk => insC_refl _)
    have wkc : ∀ (id id2 id3 : Nat) (n m p : Nat) (t : Int), wks [.agg #[.int .i64 (kW L), .int .i64 (kH L), .slice (some ⟨id, 0, some 1⟩) n n], .slice (some ⟨id2, 0, some 1⟩) m m, .agg #[.int .i64 (kW L), .int .i64 (kH L), .int .i64 t, .slice (some ⟨id3, 0, some 1⟩) p p]] [.agg #[.int .i64 (kW L), .int .i64 (kH L), .slice (some ⟨id, 0, some 2⟩) n n], .slice (some ⟨id2, 0, some 2⟩) m m, .agg #[.int .i64 (kW L), .int .i64 (kH L), .int .i64 t, .slice (some ⟨id3, 0, some 2⟩) p p]] :=
      fun id id2 id3 n m p t => ⟨wk_aggL ⟨wk_refl _, wk_refl _, wk_QR, trivial⟩, wk_QR, wk_aggL ⟨wk_refl _, wk_refl _, wk_refl _, wk_QR, trivial⟩, trivial⟩
    have wkd : ∀ (id id3 : Nat) (n p : Nat) (t : Int), wks [.agg #[.int .i64 (kW L), .int .i64 (kH L), .int .i64 t, .slice (some ⟨id, 0, some 1⟩) n n], .agg #[.int .i64 (kW L), .int .i64 (kH L), .int .i64 t, .slice (some ⟨id3, 0, some 1⟩) p p]] [.agg #[.int .i64 (kW L), .int .i64 (kH L), .int .i64 t, .slice (some ⟨id, 0, some 2⟩) n n], .agg #[.int .i64 (kW L), .int .i64 (kH L), .int .i64 t, .slice (some ⟨id3, 0, some 2⟩) p p]] :=
      fun id id3 n p t => ⟨wk_aggL ⟨wk_refl _, wk_refl _, wk_refl _, wk_QR, trivial⟩, wk_aggL ⟨wk_refl _, wk_refl _, wk_refl _, wk_QR, trivial⟩, trivial⟩
    refine ⟨⟨rfl, rfl, rfl, trivial⟩, fun H' hl hd => ?_, ⟨rfl, rfl, rfl, trivial⟩, fun H' hl hd => ?_, ⟨rfl, rfl, rfl, trivial⟩, fun H' hl hd => ?_, forkNe (fun q => absurd rfl q) (fun _ => ⟨bEq rfl, bEq rfl, ⟨rfl, rfl, trivial⟩, fun H' hl hd => ?_, ⟨rfl, rfl, trivial⟩, fun H' hl hd => ?_, forkEq (fun _ => ⟨bEq rfl, trivial, fun H' _ _ => kAwake H', rfl⟩) (fun q => absurd rfl q)⟩)⟩
    · have := kStep (kW L) (kH L) (kA L) (tF L) (by omega) (kW L) (kH L) (tHr L) (tC L) hl hd.1 hd.2.1 hd.2.2.1
      rw [s1] at this
      exact this.wkA (wkc _ _ _ _ _ _ _)
    · have := kStep (kW L) (kH L) (kA L) (tF L) (by omega) (kW L) (kH L) (tHr L) (iS L W (tC L).length).1 hl hd.1 hd.2.1 hd.2.2.1
      rw [s2, i1] at this
      exact this.wkA (wkc _ _ _ _ _ _ _)
    · have := kStep (kW L) (kH L) (kA L) (iS L W (tC L).length).2.1 (by omega) (kW L) (kH L) (tHr L) (iS L W (tC L).length).1 hl hd.1 hd.2.1 hd.2.2.1
      rw [s3, i1, i2] at this
      exact this.wkA (wkc _ _ _ _ _ _ _)
    · have := kInsideChart (kW L) (kH L) (tHr L + 1) (sL L (tF L) (tC L)) (kW L) (kH L) (tHr L + 1) (sL L (tF L) (iS L W (tC L).length).1) hd.1 hd.2.1
      rw [g1] at this
      exact this.wkA (wkd _ _ _ _ _)
    · have := kInsideChart (kW L) (kH L) (tHr L + 1) (sL L (tF L) (iS L W (tC L).length).1) (kW L) (kH L) (tHr L + 1) (sL L (iS L W (tC L).length).2.1 (iS L W (tC L).length).1) hd.1 hd.2.1
      rw [g2] at this
      exact this.wkA (wkd _ _ _ _ _)
end
end Go.Proofs.Ytkkgnalgmebfjaa
/- How laws' arguments are read. No condition. -/
namespace Go.Proofs.Ytkkgnalgmebfjaa
set_option linter.unusedSimpArgs false
open Go Go.K Go.ChangeShapes Go.WideShapes Go.ChangeAt Go.RowKit
set_option maxRecDepth 100000
set_option linter.unusedVariables false
noncomputable section
theorem own : ownKnob Try.prog.godebug = none := by kernel_rfl
theorem sized : slicesSized Try.prog = true := by kernel_rfl
abbrev known (t : TypeId) : Prop := t < Try.prog.types.size
theorem kids : Kids Try.prog known := kids_rows (by kernel_rfl) (by kernel_rfl)
end
end Go.Proofs.Ytkkgnalgmebfjaa
/- Arguments that are read: lists within lists by their values. No condition. -/
namespace Go.K
set_option linter.unusedSimpArgs false
open Go Go.RowKit Go.ChangeAt Go.WideShapes
set_option linter.unusedVariables false
variable {P : Program} {HH : Type} {enc : TypeId × Value → HH}

/-- Plain cells, whose lists are said by their values. -/
def GoodD (P : Program) : Nat → TypeId → List Value → Prop
  | 0, _, _ => False
  | n + 1, t, cs => match P.underlying t with
    | some .bool => ∃ b, cs = [.bool b]
    | some (.int k) => ∃ x, cs = [.int k x] ∧ k.min ≤ x ∧ x ≤ k.max
    | some .string => ∃ s, cs = [.string s]
    | some (.struct fs) => GoodL (GoodD P n) (fs.toList.map (·.type)) cs
    | some (.slice e) => ∃ len ds, cs = [.iface (len + 1) (.agg ⟨ds⟩)] ∧ ds.length = len * P.cellsOf e ∧ len ≤ maxLen ∧ GoodL (GoodD P n) (List.replicate len e) ds
    | _ => False
/-- Plain cells, whose lists lie in blocks, and the lists within these are said by their values. -/
def Good2 (P : Program) (H : Heap) : Nat → TypeId → List Value → Prop
  | 0, _, _ => False
  | n + 1, t, cs => match P.underlying t with
    | some .bool => ∃ b, cs = [.bool b]
    | some (.int k) => ∃ x, cs = [.int k x] ∧ k.min ≤ x ∧ x ≤ k.max
    | some .string => ∃ s, cs = [.string s]
    | some (.struct fs) => GoodL (Good2 P H n) (fs.toList.map (·.type)) cs
    | some (.slice e) => cs = [.slice none 0 0] ∨ cs = [.slice (some ⟨0, 0, some 0⟩) 0 0] ∨
        ∃ id len ds, cs = [.slice (some ⟨id, 0, none⟩) len len] ∧ H[id]? = some (.cells false 0 ds) ∧ ds.length = len * P.cellsOf e ∧ len ≤ maxLen ∧ GoodL (GoodD P n) (List.replicate len e) ds
    | _ => False
theorem Good2.mono {H K : Heap} : ∀ {n : Nat} {t : TypeId} {cs : List Value}, Good2 P H n t cs → Good2 P (H ++ K) n t cs := by
  intro n
  induction n with
  | zero => intro t cs h; exact h
  | succ n ih =>
    intro t cs h
    unfold Good2 at h ⊢
    split at h
    · exact h
    · exact h
    · exact h
    · exact GoodL.mono (fun _ _ => ih) h
    · rcases h with h | h | ⟨id, len, cs', h1, h2, h3, h4, h5⟩
      · exact .inl h
      · exact .inr (.inl h)
      · exact .inr (.inr ⟨id, len, cs', h1, by rw [List.getElem?_append_left (List.getElem?_eq_some_iff.1 h2).1]; exact h2, h3, h4, h5⟩)
    · exact h
/-- Nobody writes below B: what lies there is known. -/
def Low (B : Nat) (ρ : Ren) (W : World) : Prop := (∀ b m ty fz, b < B → W.heap[b]? = some (.cells m ty fz) → ρ.mem b = some m) ∧ ∀ id r, ρ id = some r → r.b < B

theorem deepenL {B : Nat} {ρ : Ren} {H : Heap} {W : World} {n : Nat} (IH : ∀ (t : TypeId) (cs cs' : List Value), Good P H n t cs → VRl ρ cs cs' → ∃ ds, VRl ρ ds cs' ∧ GoodD P n t ds) :
    ∀ (ts : List TypeId) (cs cs' : List Value), GoodL (Good P H n) ts cs → VRl ρ cs cs' → ∃ ds, VRl ρ ds cs' ∧ GoodL (GoodD P n) ts ds := by
  intro ts
  induction ts with
  | nil => intro cs cs' h hv; rw [show cs = [] from h] at hv; exact ⟨[], hv, rfl⟩
  | cons t ts ih =>
    rintro cs cs' ⟨c, rest, rfl, h1, h2⟩ hv
    have hl : (c ++ rest).length = cs'.length := hv.1
    rw [List.length_append] at hl
    have v1 : VRl ρ c (cs'.take c.length) := ⟨by rw [List.length_take]; omega, fun i v v' a b => by
      have hi := (List.getElem?_eq_some_iff.1 a).1
      rw [List.getElem?_take, if_pos hi] at b
      exact hv.2 i v v' (by rw [List.getElem?_append_left hi]; exact a) b⟩
    have v2 : VRl ρ rest (cs'.drop c.length) := ⟨by rw [List.length_drop]; omega, fun i v v' a b => by
      rw [List.getElem?_drop] at b
      exact hv.2 (c.length + i) v v' (by rw [List.getElem?_append_right (by omega), Nat.add_sub_cancel_left]; exact a) b⟩
    obtain ⟨d1, w1, g1⟩ := IH t c _ h1 v1
    obtain ⟨d2, w2, g2⟩ := ih rest _ h2 v2
    refine ⟨d1 ++ d2, ?_, d1, d2, rfl, g1, g2⟩
    have := VRl.append w1 w2
    rw [List.take_append_drop] at this
    exact this
theorem row_reals {ρ : Ren} {r : RI} {cs : List Value} {W : World} (h : ObjRel ρ r (.cells false 0 cs) W) : ∃ m ty fz, W.heap[r.b]? = some (.cells m ty fz) ∧ (cs.length = 0 ∨ cs.length + r.s ≤ m.size) ∧ VRl ρ cs ((m.toList.drop r.s).take cs.length) ∧ m.size = r.n := by
  obtain ⟨_, _, m, ty, fz, hb, hsz, _, hcs⟩ := h
  have hle : cs.length = 0 ∨ cs.length + r.s ≤ m.size := by
    rcases Nat.eq_zero_or_pos cs.length with h0 | h0
    · exact .inl h0
    · right
      obtain ⟨v', g1, _⟩ := hcs (cs.length - 1) _ (List.getElem?_eq_getElem (by omega))
      have := (Array.getElem?_eq_some_iff.1 g1).1
      omega
  refine ⟨m, ty, fz, hb, hle, ⟨?_, fun i v v' a b => ?_⟩, hsz⟩
  · have e : m.toList.length = m.size := Array.length_toList
    rw [List.length_take, List.length_drop, e]
    rcases hle with h | h <;> omega
  · obtain ⟨v2, g1, g2⟩ := hcs i v a
    have hi := (List.getElem?_eq_some_iff.1 a).1
    rw [List.getElem?_take, if_pos hi, List.getElem?_drop, Array.getElem?_toList, Nat.add_comm, g1] at b
    cases b; exact g2
theorem deepen {B : Nat} {ρ : Ren} {H : Heap} {W : World} (hr : Rel P B ρ H W) (hlow : Low B ρ W) : ∀ (n : Nat) (t : TypeId) (cs cs' : List Value), Good P H n t cs → VRl ρ cs cs' → ∃ ds, VRl ρ ds cs' ∧ GoodD P n t ds := by
  intro n
  induction n with
  | zero => intro t cs cs' h; exact h.elim
  | succ n ih =>
    intro t cs cs' h hv
    have single : ∀ v, cs = [v] → ∃ x, cs' = [x] ∧ VR ρ v x := by
      rintro v rfl
      have hl : cs'.length = 1 := hv.1.symm
      obtain ⟨x, rfl⟩ := List.length_eq_one_iff.1 hl
      exact ⟨x, rfl, hv.2 0 v x rfl rfl⟩
    unfold Good at h
    split at h
    · rename_i hu; exact ⟨cs, hv, by unfold GoodD; rw [hu]; exact h⟩
    · rename_i k hu; exact ⟨cs, hv, by unfold GoodD; rw [hu]; exact h⟩
    · rename_i hu; exact ⟨cs, hv, by unfold GoodD; rw [hu]; exact h⟩
    · rename_i fs hu
      obtain ⟨ds, w, g⟩ := deepenL (B := B) (W := W) ih _ cs cs' h hv
      exact ⟨ds, w, by unfold GoodD; rw [hu]; exact g⟩
    · rename_i e hu
      have nilD : ∀ x, (∃ a c, x = .slice a 0 c) → ∃ ds, VRl ρ ds [x] ∧ GoodD P (n + 1) t ds := by
        rintro x ⟨a, c, rfl⟩
        refine ⟨[.iface 1 (.agg ⟨[]⟩)], .cons .deep0 (.nil ρ), ?_⟩
        unfold GoodD
        rw [hu]
        exact ⟨0, [], rfl, by simp, by simp [maxLen], rfl⟩
      rcases h with h | h | ⟨id, len, csi, h1, h2, h3, h4, h5⟩
      · obtain ⟨x, rfl, hx⟩ := single _ h
        cases hx; exact nilD _ ⟨_, _, rfl⟩
      · obtain ⟨x, rfl, hx⟩ := single _ h
        refine nilD _ ?_
        generalize hz : (Value.slice (some ⟨0, 0, some 0⟩) 0 0) = z at hx
        cases hx <;> cases hz
        exact ⟨_, _, rfl⟩
      · obtain ⟨x, rfl, hx⟩ := single _ h1
        rcases Nat.eq_zero_or_pos len with h0 | h0
        · subst h0
          refine nilD _ ?_
          cases hx with
          | slice h hl hc _ => exact ⟨_, _, rfl⟩
          | slice0 h => exact ⟨_, _, rfl⟩
        · obtain ⟨r, cap', hid, hc, rfl⟩ : ∃ r cap', ρ id = some r ∧ len ≤ cap' ∧ x = .slice (some ⟨r.b, 0 + r.s, none⟩) len cap' := by
            generalize hz : (Value.slice (some ⟨id, 0, none⟩) len len) = z at hx
            cases hx <;> cases hz
            · exact ⟨_, _, ‹_›, by omega, rfl⟩
            · exact absurd h0 (Nat.lt_irrefl 0)
          obtain ⟨m, ty, fz, hb, hle, hvr, _⟩ := row_reals (hr.obj id r _ hid h2)
          have hm := hlow.1 r.b m ty fz (hlow.2 id r hid) hb
          obtain ⟨ds, w, g⟩ := deepenL (B := B) (W := W) ih _ csi _ h5 hvr
          have hdl : ds.length = csi.length := by
            have e1 := w.1
            have e2 := hvr.1
            omega
          refine ⟨[.iface (len + 1) (.agg ⟨ds⟩)], .cons ?_ (.nil ρ), ?_⟩
          · rw [Nat.zero_add]
            refine .deep hm h0 hc (by show ds.length = 0 ∨ ds.length + r.s ≤ m.size; rw [hdl]; exact hle) (fun i v v' a b => ?_)
            have hi : i < ds.length := by have := (Array.getElem?_eq_some_iff.1 a).1; simpa using this
            refine w.2 i v v' (by simpa using a) ?_
            rw [List.getElem?_take, if_pos (by omega), List.getElem?_drop, Array.getElem?_toList, Nat.add_comm]; exact b
          · unfold GoodD
            rw [hu]
            exact ⟨len, ds, rfl, by rw [hdl]; exact h3, h4, g⟩
    · exact h.elim
theorem Low.set {B : Nat} {ρ : Ren} {W : World} (h : Low B ρ W) {id : Nat} {ri : RI} (hb : ri.b < B) : Low B (ρ.set id ri) W := by
  refine ⟨h.1, fun i r hi => ?_⟩
  by_cases e : i = id
  · subst e; rw [Ren.set_same] at hi; cases hi; exact hb
  · rw [Ren.set_other e] at hi; exact h.2 i r hi
def GoodV2 (P : Program) (H : Heap) (n : Nat) (t : TypeId) (v : Value) : Prop :=
  match P.underlying t with
  | some (.struct _) => ∃ cs : List Value, v = .agg ⟨cs⟩ ∧ Good2 P H n t cs
  | _ => Good2 P H n t [v]
theorem GoodV2.mono {H K : Heap} {n : Nat} {t : TypeId} {v : Value} (h : GoodV2 P H n t v) : GoodV2 P (H ++ K) n t v := by
  unfold GoodV2 at h ⊢
  split at h
  · obtain ⟨cs, h1, h2⟩ := h; exact ⟨cs, h1, h2.mono⟩
  · exact h.mono
end Go.K
/- Laws whose arguments are said by their values. No condition. -/
namespace Go.K
set_option linter.unusedSimpArgs false
open Go Go.ChangeShapes Go.WideShapes Go.ChangeAt Go.RowKit
set_option linter.unusedVariables false
variable {P : Program} {HH : Type} {enc : TypeId × Value → HH}

def GoodVD (P : Program) (n : Nat) (t : TypeId) (v : Value) : Prop :=
  match P.underlying t with
  | some (.struct _) => ∃ cs : List Value, v = .agg ⟨cs⟩ ∧ GoodD P n t cs
  | _ => GoodD P n t [v]
def GoodAD (P : Program) (n : Nat) : List TypeId → List Value → Prop
  | [], [] => True
  | t :: ts, v :: vs => GoodVD P n t v ∧ GoodAD P n ts vs
  | _, _ => False
theorem bringVD {B : Nat} {W : World} {n : Nat} {t : TypeId} {v v' : Value} {ρ : Ren} {H : Heap} (h : GoodV P H n t v) (hv : VR ρ v v') (hr : Rel P B ρ H W) (hlow : Low B ρ W) : ∃ v2, VR ρ v2 v' ∧ GoodVD P n t v2 := by
  unfold GoodV at h
  split at h
  · rename_i fs hu
    obtain ⟨cs, rfl, h⟩ := h
    cases hv with
    | @agg _ cs' h1 h2 =>
      obtain ⟨ds, w, g⟩ := deepen hr hlow n t cs cs'.toList h ⟨by simpa using h1, fun i a b c d => h2 i a b (by simpa using c) (by simpa using d)⟩
      refine ⟨.agg ⟨ds⟩, .agg (by have := w.1; simpa using this) (fun i a b c d => w.2 i a b (by simpa using c) (by simpa using d)), ?_⟩
      unfold GoodVD; rw [hu]; exact ⟨ds, rfl, g⟩
  · rename_i hns
    obtain ⟨ds, w, g⟩ := deepen hr hlow n t [v] [v'] h (.cons hv (.nil ρ))
    have hl : ds.length = 1 := w.1
    obtain ⟨v2, rfl⟩ := List.length_eq_one_iff.1 hl
    refine ⟨v2, w.2 0 v2 v' rfl rfl, ?_⟩
    unfold GoodVD
    split
    · rename_i fs hu; exact absurd hu (hns fs)
    · exact g
theorem bringAD {B : Nat} {W : World} {n : Nat} {ρ : Ren} {H : Heap} (hr : Rel P B ρ H W) (hlow : Low B ρ W) : ∀ (ts : List TypeId) (vs vs' : List Value), GoodA P H n ts vs → VRl ρ vs vs' → ∃ ws, VRl ρ ws vs' ∧ GoodAD P n ts ws := by
  intro ts
  induction ts with
  | nil =>
    intro vs vs' h hv
    match vs, h with
    | [], _ => exact ⟨[], hv, trivial⟩
  | cons t ts ih =>
    intro vs vs' h hv
    match vs, h with
    | v :: vs, ⟨h1, h2⟩ =>
      match vs', hv with
      | [], hv => exact absurd hv.1 (by simp)
      | v' :: vs', hv =>
        obtain ⟨w1, r1, g1⟩ := bringVD h1 (hv.2 0 v v' rfl rfl) hr hlow
        obtain ⟨ws, r2, g2⟩ := ih vs vs' h2 (show VRl ρ vs vs' from ⟨by have := hv.1; simpa using this, fun i a b c d => hv.2 (i + 1) a b (by simpa using c) (by simpa using d)⟩)
        exact ⟨w1 :: ws, .cons r1 r2, g1, g2⟩
/-- A law's contract in the canonical heap is its contract in every world; arguments are said by their values. -/
theorem law_calls3 {N n b0 : Nat} {ts : List TypeId} {args : Array Value} {W : World} {ds : List (DataW HH)} {ps : List MemPlace} {held : Bool} (hG : P.globals.size ≤ W.heap.size) (hplain : ts.all (plainT P n) = true)
    (hok : ∀ (j : Nat) (t : TypeId) (v : Value), ts[j]? = some t → args.toList[j]? = some v → Value.okWide P W .any b0 t v) (h : DataW.TrodAll enc P W 0 (fun _ => true) held ts args.toList ds ps)
    (hlaw : ∀ (H : Heap) (vs : List Value), GoodAD P n ts vs → KCall P N vs H [] (fun v _ => v = .bool true)) :
    Calls P N args W fun e W' => e = .returned (.bool true) ∧ RowKit.Below W.heap.size W W' := by
  have hr : Rel P W.heap.size ⟨fun g => if g < P.globals.size then some ⟨g, 0, 0, 0, false⟩ else none, fun b => match W.heap[b]? with | some (.cells m _ _) => some m | _ => none, fun _ _ => none⟩ (List.replicate P.globals.size .dead) W := by
    have hdead : ∀ (id : Nat) (o : KObj), (List.replicate P.globals.size KObj.dead)[id]? = some o → o = .dead := fun id o ho => by
      rw [List.getElem?_replicate] at ho
      split at ho
      · cases ho; rfl
      · cases ho
    refine ⟨Nat.le_refl _, fun g hg => ⟨_, if_pos hg, rfl, rfl⟩, fun id r h1 => ?_, fun id r h1 => ?_, fun id r o h1 h2 => ?_, fun id r o h1 h2 h3 => ?_, fun id id' r r' o o' h1 h1' h2 h2' h3 _ _ => ?_, fun b m hm => ⟨?_, fun id r o h1 h2 h3 => ?_⟩, FRel.nofam (fun _ _ _ h => by cases h) (fun _ _ _ h => by cases h) (fun F z cs h => by have := hdead F _ h; cases this)⟩
    · dsimp only at h1
      split at h1
      · simpa using ‹id < _›
      · cases h1
    · dsimp only at h1
      split at h1
      · cases h1; exact Nat.lt_of_lt_of_le ‹id < _› hG
      · cases h1
    · rw [hdead id o h2]; trivial
    · rw [hdead id o h2] at h3; cases h3
    · rw [hdead id o h2] at h3; cases h3
    · dsimp only at hm
      split at hm
      · rename_i m' ty fz e; cases hm; exact ⟨ty, fz, e⟩
      · cases hm
    · rw [hdead id o h2] at h3; cases h3
  have hlow0 : Low W.heap.size ⟨fun g => if g < P.globals.size then some ⟨g, 0, 0, 0, false⟩ else none, fun b => match W.heap[b]? with | some (.cells m _ _) => some m | _ => none, fun _ _ => none⟩ W := by
    refine ⟨fun b m ty fz _ hb => by show (match W.heap[b]? with | some (.cells m _ _) => some m | _ => none) = _; rw [hb], fun id r h1 => ?_⟩
    dsimp only at h1
    split at h1
    · cases h1; exact Nat.lt_of_lt_of_le ‹id < _› hG
    · cases h1
  obtain ⟨ρ', H', vs', e, hv, g⟩ := bring_args rfl ts args.toList ds ps _ _ hplain hok h hr
  have hlow1 : Low W.heap.size ρ' W := ⟨fun b m ty fz h1 h2 => e.le.mem b m (hlow0.1 b m ty fz h1 h2), fun id r h1 => e.rel.lt id r h1⟩
  obtain ⟨ws, hv2, g2⟩ := bringAD e.rel hlow1 ts vs' args.toList g hv
  refine callsIn_wide.1 (((hlaw H' ws g2).2 _ ρ' W args e.rel hv2).mono ?_)
  rintro en w' ⟨v, v', ρ3, H3, rfl, h1, h2, rfl⟩
  cases h1
  exact ⟨rfl, h2.below e.rel⟩
end Go.K
/- How laws' numbers are read. No condition. -/
namespace Go.Proofs.Ytkkgnalgmebfjaa
set_option linter.unusedSimpArgs false
open Go Go.K Go.ChangeShapes Go.WideShapes Go.ChangeAt Go.RowKit
set_option maxRecDepth 100000
set_option linter.unusedVariables false
noncomputable section
theorem goodAD_cons {n : Nat} {t : TypeId} {ts : List TypeId} {vs : List Value} (h : GoodAD Try.prog n (t :: ts) vs) : ∃ v vs', vs = v :: vs' ∧ GoodVD Try.prog n t v ∧ GoodAD Try.prog n ts vs' := by
  cases vs with
  | nil => exact h.elim
  | cons v vs => exact ⟨v, vs, rfl, h.1, h.2⟩
theorem goodAD_nil {n : Nat} {vs : List Value} (h : GoodAD Try.prog n [] vs) : vs = [] := by
  cases vs with
  | nil => rfl
  | cons v vs => exact h.elim
theorem goodD_i64 {n : Nat} {c : List Value} (h : GoodD Try.prog (n + 1) 3 c) : ∃ x : Int, c = [.int .i64 x] ∧ inI x := by
  unfold GoodD at h
  rw [show Try.prog.underlying 3 = some (.int .i64) by kernel_rfl] at h
  obtain ⟨x, rfl, h1, h2⟩ := h
  refine ⟨x, rfl, ?_⟩
  simp only [IntKind.min, IntKind.max, IntKind.signed, IntKind.bits] at h1 h2
  unfold inI
  simp at h1 h2
  omega
/-- A list of numbers. -/
theorem goodD_ints {v : Value} (h : GoodVD Try.prog 6 22 v) : ∃ L : List Int, v = .iface (L.length + 1) (.agg ⟨L.flatMap intC⟩) ∧ L.length ≤ maxLen ∧ ∀ x ∈ L, inI x := by
  unfold GoodVD at h
  rw [show Try.prog.underlying 22 = some (.slice 3) by kernel_rfl] at h
  unfold GoodD at h
  rw [show Try.prog.underlying 22 = some (.slice 3) by kernel_rfl] at h
  obtain ⟨len, ds, h1, h2, h3, h4⟩ := h
  obtain ⟨xs, e1, e2, e3⟩ := goodL_list (f := intC) (q := inI) (fun c hc => goodD_i64 (n := 4) hc) len ds h4
  subst e1 e2
  exact ⟨xs, by simpa using h1, h3, e3⟩
end
end Go.Proofs.Ytkkgnalgmebfjaa
