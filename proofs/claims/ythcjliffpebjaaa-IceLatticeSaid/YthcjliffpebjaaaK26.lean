/- A law's row out of its contract in the canonical heap. No condition. -/
import Derived.Test.YthcjliffpebjaaaK25
import Derived.ProofKit
import Derived.OpenShut
namespace Go.K
open Go Go.RowKit Go.ChangeAt Go.WideShapes
set_option linter.unusedVariables false
variable {P : Program} {HH : Type} {enc : TypeId × Value → HH}

def GoodV (P : Program) (H : Heap) (n : Nat) (t : TypeId) (v : Value) : Prop :=
  match P.underlying t with
  | some (.struct _) => ∃ cs : List Value, v = .agg ⟨cs⟩ ∧ Good P H n t cs
  | _ => Good P H n t [v]
def GoodA (P : Program) (H : Heap) (n : Nat) : List TypeId → List Value → Prop
  | [], [] => True
  | t :: ts, v :: vs => GoodV P H n t v ∧ GoodA P H n ts vs
  | _, _ => False
theorem GoodV.mono {H K : Heap} {n : Nat} {t : TypeId} {v : Value} (h : GoodV P H n t v) : GoodV P (H ++ K) n t v := by
  unfold GoodV at h ⊢
  split at h
  · obtain ⟨cs, h1, h2⟩ := h; exact ⟨cs, h1, h2.mono⟩
  · exact h.mono

theorem bring_value {W : World} {B b0 m n : Nat} {t : TypeId} {v : Value} {d : DataW HH} {ps : List MemPlace} {held : Bool} {ρ : Ren} {H : Heap} (hbase : B = W.heap.size) (hp : plainT P n t = true) (hok : Value.okWide P W .any b0 t v)
    (h : DataW.Trod enc P W 0 (fun _ => true) held t v d ps) (hr : Rel P B ρ H W) : ∃ ρ' H' v', Ext P B W ρ H ρ' H' ∧ VR ρ' v' v ∧ GoodV P H' n t v' := by
  obtain ⟨m, h⟩ := h
  obtain ⟨ρ', H', cs', e, hv, g⟩ := bring hbase m n t _ _ ρ H hp h hr
  have single : (∀ fs, P.underlying t ≠ some (.struct fs)) → (v.cells = #[v]) → ∃ ρ' H' v', Ext P B W ρ H ρ' H' ∧ VR ρ' v' v ∧ GoodV P H' n t v' := by
    intro hns hc
    rw [hc] at hv
    have hl : cs'.length = 1 := hv.1
    obtain ⟨v', rfl⟩ := List.length_eq_one_iff.1 hl
    refine ⟨ρ', H', v', e, hv.2 0 v' v rfl rfl, ?_⟩
    unfold GoodV
    split
    · rename_i fs hu; exact absurd hu (hns fs)
    · exact g
  cases n with
  | zero => simp [plainT] at hp
  | succ n =>
    unfold plainT at hp
    split at hp
    · rename_i hu
      refine single (fun fs h => by rw [hu] at h; cases h) ?_
      cases v <;> simp [Value.okWide, Cell.okWide, Cell.ok, hu] at hok <;> rfl
    · rename_i k hu
      refine single (fun fs h => by rw [hu] at h; cases h) ?_
      cases v <;> simp [Value.okWide, Cell.okWide, Cell.ok, hu] at hok <;> rfl
    · rename_i hu
      refine single (fun fs h => by rw [hu] at h; cases h) ?_
      cases v <;> simp [Value.okWide, Cell.okWide, Cell.ok, hu] at hok <;> rfl
    · rename_i fs hu
      simp only [Value.okWide, hu] at hok
      obtain ⟨cs, rfl, _, _⟩ := hok
      refine ⟨ρ', H', .agg ⟨cs'⟩, e, .agg (by have := hv.1; simpa [Value.cells] using this) (fun i a b x y => hv.2 i a b (by simpa using x) (by simpa [Value.cells] using y)), ?_⟩
      simp only [GoodV, hu]
      exact ⟨cs', rfl, g⟩
    · rename_i e' hu
      refine single (fun fs h => by rw [hu] at h; cases h) ?_
      cases v <;> simp [Value.okWide, Cell.okWide, Cell.ok, hu] at hok <;> rfl
    · cases hp

theorem bring_args {W : World} {B b0 n : Nat} {held : Bool} (hbase : B = W.heap.size) : ∀ (ts : List TypeId) (vs : List Value) (ds : List (DataW HH)) (ps : List MemPlace) (ρ : Ren) (H : Heap), ts.all (plainT P n) = true →
    (∀ (j : Nat) (t : TypeId) (v : Value), ts[j]? = some t → vs[j]? = some v → Value.okWide P W .any b0 t v) → DataW.TrodAll enc P W 0 (fun _ => true) held ts vs ds ps → Rel P B ρ H W →
      ∃ ρ' H' vs', Ext P B W ρ H ρ' H' ∧ VRl ρ' vs' vs ∧ GoodA P H' n ts vs' := by
  intro ts
  induction ts with
  | nil =>
    intro vs ds ps ρ H _ _ h hr
    obtain ⟨rfl, _, _⟩ := Go.ChangeShapes.trodAll_nil h
    exact ⟨ρ, H, [], Ext.refl hr, .nil ρ, trivial⟩
  | cons t ts ih =>
    intro vs ds ps ρ H hp hok h hr
    obtain ⟨v, vs1, d, ds1, p, q, rfl, rfl, rfl, h1, h2⟩ := Go.ChangeShapes.trodAll_cons h
    simp only [List.all_cons, Bool.and_eq_true] at hp
    obtain ⟨ρ1, H1, v1, e1, r1, g1⟩ := bring_value (m := 0) hbase hp.1 (hok 0 t v rfl rfl) h1 hr
    obtain ⟨ρ2, H2, vs2, e2, r2, g2⟩ := ih vs1 ds1 q ρ1 H1 hp.2 (fun j a b x y => hok (j + 1) a b x y) h2 e1.rel
    refine ⟨ρ2, H2, v1 :: vs2, e1.trans e2, .cons (r1.mono e2.le) r2, ?_, g2⟩
    obtain ⟨K, rfl⟩ := e2.pre
    exact g1.mono

/-- A law's contract in the canonical heap is its contract in every world. -/
theorem law_calls {N n b0 : Nat} {ts : List TypeId} {args : Array Value} {W : World} {ds : List (DataW HH)} {ps : List MemPlace} {held : Bool} (hG : P.globals.size ≤ W.heap.size) (hplain : ts.all (plainT P n) = true)
    (hok : ∀ (j : Nat) (t : TypeId) (v : Value), ts[j]? = some t → args.toList[j]? = some v → Value.okWide P W .any b0 t v) (h : DataW.TrodAll enc P W 0 (fun _ => true) held ts args.toList ds ps)
    (hlaw : ∀ (H : Heap) (vs : List Value), GoodA P H n ts vs → KCall P N vs H [] (fun v _ => v = .bool true)) :
    Calls P N args W fun e W' => e = .returned (.bool true) ∧ RowKit.Below W.heap.size W W' := by
  have hr : Rel P W.heap.size (fun g => if g < P.globals.size then some ⟨g, 0, 0, 0, false⟩ else none) (List.replicate P.globals.size .dead) W := by
    have hdead : ∀ (id : Nat) (o : KObj), (List.replicate P.globals.size KObj.dead)[id]? = some o → o = .dead := fun id o ho => by
      rw [List.getElem?_replicate] at ho
      split at ho
      · cases ho; rfl
      · cases ho
    refine ⟨Nat.le_refl _, fun g hg => ⟨_, if_pos hg, rfl, rfl⟩, fun id r h1 => ?_, fun id r h1 => ?_, fun id r o h1 h2 => ?_, fun id r o h1 h2 h3 => ?_, fun id id' r r' o o' h1 h1' h2 h2' h3 _ _ => ?_⟩
    · split at h1
      · simpa using ‹id < _›
      · cases h1
    · split at h1
      · cases h1; exact Nat.lt_of_lt_of_le ‹id < _› hG
      · cases h1
    · rw [hdead id o h2]; trivial
    · rw [hdead id o h2] at h3; cases h3
    · rw [hdead id o h2] at h3; cases h3
  obtain ⟨ρ', H', vs', e, hv, g⟩ := bring_args rfl ts args.toList ds ps _ _ hplain hok h hr
  refine callsIn_wide.1 (((hlaw H' vs' g).2 _ ρ' W args e.rel hv).mono ?_)
  rintro en w' ⟨v, v', ρ2, H2, rfl, h1, h2, rfl⟩
  cases h1
  exact ⟨rfl, h2.below e.rel⟩

theorem trodAll_stays {W W' : World} {sp : Nat → Bool} {T : TypeId → Prop} (K : Kids P T) (hsz : ∀ {t e : TypeId}, T t → P.underlying t = some (.slice e) → 0 < P.cellsOf e) :
    ∀ (ts : List TypeId) (vs : List Value) (ds : List (DataW HH)) (ps : List MemPlace), (∀ t ∈ ts, T t) → DataW.TrodAll enc P W 0 (fun _ => true) true ts vs ds ps → (∀ p ∈ ps, W.sameAt W' p) → (∀ p ∈ ps, sp p.block = true) →
      DataW.TrodAll enc P W' 0 sp true ts vs ds ps := by
  intro ts
  induction ts with
  | nil => intro vs ds ps _ h _ _; obtain ⟨rfl, rfl, rfl⟩ := Go.ChangeShapes.trodAll_nil h; exact rfl
  | cons t ts ih =>
    intro vs ds ps hT h hs hp
    obtain ⟨v, vs1, d, ds1, p, q, rfl, rfl, rfl, ⟨n, h1⟩, h2⟩ := Go.ChangeShapes.trodAll_cons h
    refine ⟨p, q, ⟨n, DataW.trod_stays K hsz (fun h => by cases h) (hT t (List.mem_cons_self ..)) h1 (fun x hx => hs x (List.mem_append_left _ hx)) (fun x hx => hp x (List.mem_append_left _ hx))⟩, ?_, rfl⟩
    exact ih vs1 ds1 q (fun t ht => hT t (List.mem_cons_of_mem _ ht)) h2 (fun x hx => hs x (List.mem_append_right _ hx)) (fun x hx => hp x (List.mem_append_right _ hx))

def slicesSized (P : Program) : Bool := (List.range P.types.size).all fun t => match P.underlying t with | some (.slice e) => decide (0 < P.cellsOf e) | _ => true
theorem slicesSized_spec (h : slicesSized P = true) : ∀ {t e : TypeId}, t < P.types.size → P.underlying t = some (.slice e) → 0 < P.cellsOf e := by
  intro t e ht hu
  unfold slicesSized at h
  rw [List.all_eq_true] at h
  have := h t (List.mem_range.2 ht)
  rw [hu] at this
  simpa using this

/-- What a law's row asks behind the call, where nothing below has turned and the arguments read as they did. -/
theorem post_of_below {f : Func} {s : ChangeSpec} {apart fresh handsOn again : Bool} {W W' : World} {args : Array Value} {ds gs : List (DataW HH)} {before : List MemPlace} {tb : TypeId} {T : TypeId → Prop}
    (K : Kids P T) (hsz : ∀ {t e : TypeId}, T t → P.underlying t = some (.slice e) → 0 < P.cellsOf e) (hT : ∀ t ∈ f.params.toList, T t)
    (hW : DataW.Whole enc P f.params.toList s.vars apart W args.toList ds gs before) (hvars : s.vars = []) (hb : RowKit.Below W.heap.size W W') (hrt : f.resultTypes = #[tb]) (htb : P.underlying tb = some .bool)
    (hs : s.fn HH ds = { results := [.lit (.bool true)], args := ds }) : s.post enc P f apart fresh handsOn again W args (.bool true) W' := by
  have hlt := hW.lt
  have hW' := hW
  obtain ⟨p, q, hA, hV, rfl, hz, hn⟩ := hW
  rw [hvars] at hV
  obtain ⟨rfl, rfl⟩ := Go.ChangeShapes.trodVars_none hV
  have hA' : ∀ sp : Nat → Bool, (∀ x ∈ p, sp x.block = true) → DataW.TrodAll enc P W' 0 sp true f.params.toList args.toList ds p := fun sp hsp =>
    trodAll_stays K hsz _ _ _ _ hT hA (fun x hx => hb.same (hlt x (by simpa using hx))) hsp
  have hres : ∀ (b : Nat) (sp : Nat → Bool) (hd : Bool), DataW.TrodAll enc P W' b sp hd f.resultTypes.toList ((Value.bool true).resultList f.resultTypes.size) [.lit (.bool true)] [] := by
    intro b sp hd
    rw [hrt]
    exact trodAll_cons_mk (Go.RowKit.shut_bool htb true) Go.ChangeShapes.trodAll_mk0
  have hs' : s.fn HH (ds ++ []) = { results := [.lit (.bool true)], args := ds } := by simpa using hs
  refine ⟨ds, [], p ++ [], [], p, [], hW', ?_, ?_, ?_, ?_, fun _ => ?_⟩
  · rw [hs']; exact hres _ _ _
  · rw [hs']; exact hA' _ (fun x hx => by simpa using hlt x (by simpa using hx))
  · rw [hs', hvars]; rfl
  · exact World.keptBut_mono (fun x hx => ⟨by simpa using hx, .inr (by simpa using hx)⟩) (hb.frame (· ∈ p))
  · refine ⟨Go.RowKit.ok_one hrt rfl (Go.RowKit.okWide_bool_mk htb true), _, [], ([] ++ p) ++ [], ⟨[] ++ p, [], Go.ChangeShapes.trodAll_append (hA' _ (fun _ _ => rfl)) (hres _ _ _), by rw [hvars]; rfl, rfl, ?_, ?_⟩, ?_⟩
    · intro b off hx
      have hx' : MemPlace.cell b off ∈ p := by simpa using hx
      rw [hb.frozen (p := ⟨b, off, none⟩) (hlt (.cell b off) (by simpa using hx'))]
      exact hz b off (by simpa using hx')
    · intro ha
      have := hn ha
      simpa using this
    · intro x hx _
      simpa using hx
end Go.K
