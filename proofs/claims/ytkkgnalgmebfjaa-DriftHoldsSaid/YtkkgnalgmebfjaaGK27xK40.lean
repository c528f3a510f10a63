/- Small steps that texts about functions share. No condition. -/
import Derived.Test.YtkkgnalgmebfjaaGV10xV14
namespace Go.K
set_option linter.unusedSimpArgs false
open Go
set_option linter.unusedVariables false
noncomputable section
theorem forkD {p A B : Prop} [Decidable p] (h1 : p → A) (h2 : ¬ p → B) : (decide p = true → A) ∧ (decide p = false → B) :=
  ⟨fun h => h1 (of_decide_eq_true h), fun h => h2 (of_decide_eq_false h)⟩
theorem forkNe {a b : Int} {A B : Prop} (h1 : a ≠ b → A) (h2 : a = b → B) : ((a != b) = true → A) ∧ ((a != b) = false → B) :=
  ⟨fun h => h1 (by simpa using h), fun h => h2 (by simpa using h)⟩
theorem forkEq {a b : Int} {A B : Prop} (h1 : a = b → A) (h2 : a ≠ b → B) : ((a == b) = true → A) ∧ ((a == b) = false → B) :=
  ⟨fun h => h1 (by simpa using h), fun h => h2 (by simpa using h)⟩
theorem forkNot {b : Bool} {A B : Prop} (h : (b = true → B) ∧ (b = false → A)) : ((!b) = true → A) ∧ ((!b) = false → B) := by
  cases b
  · exact ⟨fun _ => h.2 rfl, fun h => by cases h⟩
  · exact ⟨fun h => (by cases h), fun _ => h.1 rfl⟩
theorem forkB {b : Bool} {A B : Prop} (h1 : b = true → A) (h2 : b = false → B) : (b = true → A) ∧ (b = false → B) := ⟨h1, h2⟩
theorem forkF {b : Bool} {A B : Prop} (hb : b = false) (h1 : B) : (b = true → A) ∧ (b = false → B) := ⟨fun h => (by rw [hb] at h; cases h), fun _ => h1⟩
theorem iEq {k : IntKind} {a b : Int} (h : a = b) : (Value.int k a) = .int k b := by rw [h]
theorem bEq {a b : Bool} (h : a = b) : (Value.bool a) = .bool b := by rw [h]
theorem wI64 {n : Int} (h : -9223372036854775808 ≤ n ∧ n ≤ 9223372036854775807) : IntKind.wrap .i64 n = n := IntWalk.i64_in n h
theorem vI64 {n : Int} (h : -9223372036854775808 ≤ n ∧ n ≤ 9223372036854775807) : (Value.int .i64 (IntKind.wrap .i64 n)) = .int .i64 n := by rw [wI64 h]
theorem ite_max (a b : Int) : (if b > a then b else a) = max a b := by split <;> omega
theorem ite_min (a b : Int) : (if b < a then b else a) = min a b := by split <;> omega
theorem toMax {k : IntKind} {a b : Int} {Q : Int → Prop} (h : Q (max a b)) : ∃ y : Int, (Value.int k (if b > a then b else a)) = .int k y ∧ Q y := ⟨max a b, by rw [ite_max], h⟩
theorem toMin {k : IntKind} {a b : Int} {Q : Int → Prop} (h : Q (min a b)) : ∃ y : Int, (Value.int k (if b < a then b else a)) = .int k y ∧ Q y := ⟨min a b, by rw [ite_min], h⟩
/-- Branches that come together: the greater, the less. -/
theorem joinI {c : Bool} {v1 v2 : Int} {S1 S2 R : Int → Prop} (h1 : c = true → S1 v1) (h2 : c = false → S2 v2) (hr : ∀ x, x = (if c = true then v1 else v2) → R x) :
    (true = true ∧ (c = true → ∃ x' : Int, ((c = true ∧ x' = v1 ∧ True) ∨ (c = false ∧ x' = v2 ∧ True)) ∧ S1 x') ∧ (c = false → ∃ x' : Int, ((c = true ∧ x' = v1 ∧ True) ∨ (c = false ∧ x' = v2 ∧ True)) ∧ S2 x') ∧
      ∀ x : Int, ((c = true ∧ x = v1 ∧ True) ∨ (c = false ∧ x = v2 ∧ True)) → R x) := by
  refine ⟨rfl, fun h => ⟨v1, .inl ⟨h, rfl, trivial⟩, h1 h⟩, fun h => ⟨v2, .inr ⟨h, rfl, trivial⟩, h2 h⟩, fun x hx => hr x ?_⟩
  rcases hx with ⟨h, rfl, _⟩ | ⟨h, rfl, _⟩
  · rw [if_pos h]
  · rw [if_neg (by rw [h]; decide)]
theorem joinMax {a b : Int} {S1 S2 R : Int → Prop} (h1 : S1 b) (h2 : S2 a) (hr : R (max a b)) :
    (true = true ∧ (decide (a < b) = true → ∃ x' : Int, ((decide (a < b) = true ∧ x' = b ∧ True) ∨ (decide (a < b) = false ∧ x' = a ∧ True)) ∧ S1 x') ∧ (decide (a < b) = false → ∃ x' : Int, ((decide (a < b) = true ∧ x' = b ∧ True) ∨ (decide (a < b) = false ∧ x' = a ∧ True)) ∧ S2 x') ∧
      ∀ x : Int, ((decide (a < b) = true ∧ x = b ∧ True) ∨ (decide (a < b) = false ∧ x = a ∧ True)) → R x) :=
  joinI (fun _ => h1) (fun _ => h2) fun x hx => by
    have : x = max a b := by rw [hx]; simp only [decide_eq_true_eq]; split <;> omega
    rw [this]; exact hr
theorem joinMin {a b : Int} {S1 S2 R : Int → Prop} (h1 : S1 b) (h2 : S2 a) (hr : R (min a b)) :
    (true = true ∧ (decide (b < a) = true → ∃ x' : Int, ((decide (b < a) = true ∧ x' = b ∧ True) ∨ (decide (b < a) = false ∧ x' = a ∧ True)) ∧ S1 x') ∧ (decide (b < a) = false → ∃ x' : Int, ((decide (b < a) = true ∧ x' = b ∧ True) ∨ (decide (b < a) = false ∧ x' = a ∧ True)) ∧ S2 x') ∧
      ∀ x : Int, ((decide (b < a) = true ∧ x = b ∧ True) ∨ (decide (b < a) = false ∧ x = a ∧ True)) → R x) :=
  joinI (fun _ => h1) (fun _ => h2) fun x hx => by
    have : x = min a b := by rw [hx]; simp only [decide_eq_true_eq]; split <;> omega
    rw [this]; exact hr
theorem wks_cons {a b : Value} {r s : List Value} (h : wk a b) (hr : wks r s) : wks (a :: r) (b :: s) := ⟨h, hr⟩
theorem wks_nil : wks [] [] := trivial
theorem KCall.wkA {P : Program} {f : FuncId} {args args2 : List Value} {H : Heap} {M : List Nat} {Q : Value → Heap → Prop} (h : KCall P f args2 H M Q) (ha : wks args args2) : KCall P f args H M Q :=
  KCall.weakArgs [] (by rw [List.append_nil]; exact h) (wks_spec ha).1 (wks_spec ha).2
end
end Go.K
/- Functions that write one block that holds numbers and values alone, and read others: their contracts in every memory. No condition. -/
namespace Go.K
set_option linter.unusedSimpArgs false
open Go
set_option linter.unusedVariables false
noncomputable section
variable {P : Program}

theorem rn_VRw {ρ ρ' : Ren} {σ : Nat → Option Nat} (hσ : ∀ id id' r, σ id = some id' → ρ' id' = some r → ∃ r', ρ id = some r' ∧ r'.b = r.b ∧ r'.s = r.s ∧ (r'.own = false ∨ r' = r)) (hm : ∀ b m, ρ'.mem b = some m → ρ.mem b = some m) (hg : ∀ F F' k r, σ F = some F' → ρ'.g F' k = some r → ρ.g F k = some r) : ∀ (d : Nat) {v r : Value}, VR ρ' (rn σ d v) r → VR ρ v r := by
  intro d
  induction d with
  | zero => intro v r h; exact (VR.bad h).elim
  | succ d ih =>
    have ptr : ∀ {id id' off : Nat} {r : RI}, σ id = some id' → ρ' id' = some r → VR ρ (.pointer (some ⟨id, off, none⟩)) (.pointer (some ⟨r.b, off + r.s, none⟩)) := by
      intro id id' off r g k
      obtain ⟨r', a1, a2, a3, _⟩ := hσ _ _ _ g k
      rw [← a2, ← a3]; exact .ptr a1
    have slc : ∀ {id id' off len cap cap' : Nat} {r : RI}, σ id = some id' → ρ' id' = some r → len ≤ cap → cap ≤ cap' → (r.own = true → r.z ≠ 0 → off + r.s + cap' * r.z ≤ r.n) → VR ρ (.slice (some ⟨id, off, none⟩) len cap) (.slice (some ⟨r.b, off + r.s, none⟩) len cap') := by
      intro id id' off len cap cap' r g k hl hc ho
      obtain ⟨r', a1, a2, a3, a4⟩ := hσ _ _ _ g k
      rcases a4 with a4 | rfl
      · rw [← a2, ← a3]; exact .slice a1 hl hc (fun h => by rw [a4] at h; cases h)
      · exact .slice a1 hl hc ho
    have slQ : ∀ {id id' off len cap cap' : Nat} {r : RI}, σ id = some id' → ρ' id' = some r → 0 < len → len ≤ cap → cap ≤ cap' → (r.own = true → r.z ≠ 0 → off + r.s + cap' * r.z ≤ r.n) → VR ρ (.slice (some ⟨id, off, some 1⟩) len cap) (.slice (some ⟨r.b, off + r.s, none⟩) len cap') := by
      intro id id' off len cap cap' r g k hp hl hc ho
      obtain ⟨r', a1, a2, a3, a4⟩ := hσ _ _ _ g k
      rcases a4 with a4 | rfl
      · rw [← a2, ← a3]; exact .sliceQ a1 hp hl hc (fun h => by rw [a4] at h; cases h)
      · exact .sliceQ a1 hp hl hc ho
    have slR : ∀ {id id' off len cap cap' : Nat} {r : RI}, σ id = some id' → ρ' id' = some r → 0 < len → len ≤ cap → cap ≤ cap' → (r.own = true → r.z ≠ 0 → off + r.s + cap' * r.z ≤ r.n) → VR ρ (.slice (some ⟨id, off, some 2⟩) len cap) (.slice (some ⟨r.b, off + r.s, none⟩) len cap') := by
      intro id id' off len cap cap' r g k hp hl hc ho
      obtain ⟨r', a1, a2, a3, a4⟩ := hσ _ _ _ g k
      rcases a4 with a4 | rfl
      · rw [← a2, ← a3]; exact .sliceR a1 hp hl hc (fun h => by rw [a4] at h; cases h)
      · exact .sliceR a1 hp hl hc ho
    intro v r h
    unfold rn at h
    split at h
    · split at h
      · rename_i g; cases h with | ptr k => exact ptr g k
      · exact (VR.bad h).elim
    · split at h
      · rename_i g; cases h with | fptr k => exact .fptr (hg _ _ _ _ g k)
      · exact (VR.bad h).elim
    · split at h
      · rename_i g
        cases h with
        | slice k hl hc ho => exact slc g k hl hc ho
        | slice0 k => obtain ⟨r', a1, a2, a3, _⟩ := hσ _ _ _ g k; rw [← a2]; exact .slice0 a1
      · exact (VR.bad h).elim
    · split at h
      · rename_i g
        cases h with
        | sliceQn => exact .sliceQn
        | sliceQe => exact .sliceQe
        | sliceQ k hp hl hc ho => exact slQ g k hp hl hc ho
        | sliceRe => exact .sliceRe
        | sliceR k hp hl hc ho => exact slR g k hp hl hc ho
      · split at h
        · cases h with
          | sliceQn => exact .sliceQn
          | sliceQe => exact .sliceQe
          | sliceQ k hp hl hc ho => exact absurd hp (Nat.lt_irrefl 0)
          | sliceRe => exact .sliceRe
          | sliceR k hp hl hc ho => exact absurd hp (Nat.lt_irrefl 0)
        · exact (VR.bad h).elim
    · split at h
      · rename_i g; cases h with | map k => obtain ⟨r', a1, a2, _⟩ := hσ _ _ _ g k; rw [← a2]; exact .map a1
      · exact (VR.bad h).elim
    · split at h
      · rename_i g; cases h with | yield k => obtain ⟨r', a1, a2, _⟩ := hσ _ _ _ g k; rw [← a2]; exact .yield a1
      · exact (VR.bad h).elim
    · cases h with
      | func h1 h2 h3 h4 =>
        obtain ⟨a1, a2⟩ := arr_map ih h1 h2
        obtain ⟨b1, b2⟩ := arr_map ih h3 h4
        exact .func a1 a2 b1 b2
    · exact (VR.bad h).elim
    · cases h with | agg h1 h2 => obtain ⟨a1, a2⟩ := arr_map ih h1 h2; exact .agg a1 a2
    · cases h with | tuple h1 h2 => obtain ⟨a1, a2⟩ := arr_map ih h1 h2; exact .tuple a1 a2
    · cases h with
      | deep g1 g2 g3 g4 g5 => obtain ⟨a1, a2⟩ := deep_map ih g4 g5; exact .deep (hm _ _ g1) g2 g3 a1 a2
      | deep0 => exact .deep0
    · cases h with | deepP g1 g2 g3 => obtain ⟨a1, a2⟩ := deep_map ih g2 g3; exact .deepP (hm _ _ g1) a1 a2
    · rename_i n1 n1f n2 n2q n3 n4 n5 n6 n7 n8 n9 n10
      cases h with
      | junk => exact .junk _
      | bool b => exact .bool b
      | int k n => exact .int k n
      | float k n => exact .float k n
      | string s => exact .string s
      | ptrNil => exact .ptrNil
      | ptr k => exact absurd rfl (n1 _ _)
      | fptr k => exact absurd rfl (n1f _ _ _)
      | sliceNil => exact .sliceNil
      | slice k hl hc ho => exact absurd rfl (n2 _ _ _ _)
      | slice0 k => exact absurd rfl (n2 _ _ _ _)
      | sliceE => exact .sliceE
      | sliceQn => exact .sliceQn
      | sliceQe => exact .sliceQe
      | sliceQ => exact absurd rfl (n2q _ _ _ _ _)
      | sliceRe => exact .sliceRe
      | sliceR => exact absurd rfl (n2q _ _ _ _ _)
      | mapNil => exact .mapNil
      | map k => exact absurd rfl (n3 _)
      | nilFunc => exact .nilFunc
      | nilIface => exact .nilIface
      | func h1 h2 h3 h4 => exact absurd rfl (n5 _ _ _)
      | yield k => exact absurd rfl (n4 _)
      | agg h1 h2 => exact absurd rfl (n7 _)
      | tuple h1 h2 => exact absurd rfl (n8 _)
      | deep => exact absurd rfl (n9 _ _)
      | deep0 => exact absurd rfl (n9 _ _)
      | deepP => exact absurd rfl (n10 _ _)

/-- Blocks that are read; one that is written. -/
structure ReadsW (P : Program) (H0 H : Heap) (σ : Nat → Option Nat) (d k D z : Nat) (c0 : List Value) : Prop where
  glob : ∀ g, g < P.globals.size → σ g = some g
  dom : ∀ id id', σ id = some id' → id < H0.length
  len : P.globals.size ≤ H0.length
  k0 : H0[k]? = some (.cells true z c0)
  hk : σ k = some D
  hD : H[D]? = some (.cells true z c0)
  pl : c0.all (belowC 0) = true
  obj : ∀ (id : Nat) (o : KObj), id ≠ k → H0[id]? = some o → o = .dead ∨ ∃ cs, o = .cells false 0 cs
  ne : ∀ (id : Nat) (cs : List Value), H0[id]? = some (.cells false 0 cs) → σ id ≠ some D
  rd : ∀ (id id' : Nat) (cs : List Value), σ id = some id' → H0[id]? = some (.cells false 0 cs) → ∃ own z, H[id']? = some (.cells own z (cs.map (rn σ d)))
theorem plain_obj {ρ ρ' : Ren} {r : RI} {own : Bool} {z : Nat} {cs : List Value} {w : World} (hm : ∀ b m, ρ.mem b = some m → ρ'.mem b = some m) (hp : cs.all (belowC 0) = true) (h : ObjRel ρ r (.cells own z cs) w) : ObjRel ρ' r (.cells own z cs) w := by
  obtain ⟨h1, h2, cs', ty, fz, h3, h4, h5, h6⟩ := h
  refine ⟨h1, h2, cs', ty, fz, h3, h4, h5, fun i v hv => ?_⟩
  obtain ⟨v', g1, g2⟩ := h6 i v hv
  rw [List.all_eq_true] at hp
  exact ⟨v', g1, belowC_VR (ρ := ρ') (ρ' := ρ) (fun i r hi => absurd hi (Nat.not_lt_zero _)) hm (hp v (List.mem_of_getElem? hv)) g2⟩
theorem KCall.writes {f : FuncId} {args : List Value} {H0 H new : Heap} {v : Value} {σ : Nat → Option Nat} {d k D z : Nat} {c0 c1 : List Value} (hp : ReadsW P H0 H σ d k D z c0) (h : KCall P f args H0 [k] (Is v (H0.set k (.cells true z c1) ++ new)))
    (h1p : c1.all (belowC 0) = true) (hv : rnOk d v = true) (hv2 : rn (sgOnly H0.length) d v = v) (hn : new.all (fun o => rnoOk d o && o.owned) = true) (hn2 : new.map (rno (sgOnly H0.length) d) = new) :
    KCall P f (args.map (rn σ d)) H [D] (Is (rn (sgUp H0.length H.length) d v) (H.set D (.cells true z c1) ++ new.map (rno (sgUp H0.length H.length) d))) := by
  refine ⟨h.1, fun B ρ w args' hr ha => ?_⟩
  let ρs : Ren := ⟨fun id => (σ id).bind fun id' => (ρ id').map fun r => if id = k then r else ⟨r.b, r.s, r.n, 0, false⟩, ρ.mem, fun F k => (σ F).bind fun F' => ρ.g F' k⟩
  have hσ : ∀ id id' r, σ id = some id' → ρ id' = some r → ρs id = some (if id = k then r else ⟨r.b, r.s, r.n, 0, false⟩) := by
    intro id id' r h1 h2; show Option.bind _ _ = _; rw [h1]; show Option.map _ _ = _; rw [h2]; rfl
  have hσd : ∀ id id' r, σ id = some id' → ρ id' = some r → ∃ r', ρs id = some r' ∧ r'.b = r.b ∧ r'.s = r.s ∧ (r'.own = false ∨ r' = r) := fun id id' r h1 h2 => by
    refine ⟨_, hσ _ _ _ h1 h2, ?_⟩
    split
    · exact ⟨rfl, rfl, .inr rfl⟩
    · exact ⟨rfl, rfl, .inl rfl⟩
  have hσg : ∀ F F' k r, σ F = some F' → ρ.g F' k = some r → ρs.g F k = some r := by intro F F' k r h1 h2; show Option.bind _ _ = _; rw [h1]; exact h2
  have hsomeg : ∀ {F k r}, ρs.g F k = some r → ∃ F', σ F = some F' ∧ ρ.g F' k = some r := fun h => Option.bind_eq_some_iff.1 h
  have hnf : ∀ {F k r z cs}, FM ρs H0 F k r z cs → False := fun {F k' r z' cs} m => by
    by_cases e : F = k
    · have := m.h; rw [e, hp.k0] at this; cases this
    · rcases hp.obj F _ e m.h with h | ⟨_, h⟩ <;> cases h
  have hsome : ∀ {id r}, ρs id = some r → ∃ id' r0, σ id = some id' ∧ ρ id' = some r0 ∧ r = if id = k then r0 else ⟨r0.b, r0.s, r0.n, 0, false⟩ := by
    intro id r h
    obtain ⟨id', h1, h2⟩ := Option.bind_eq_some_iff.1 h
    obtain ⟨r0, h3, h4⟩ := Option.map_eq_some_iff.1 h2
    exact ⟨id', r0, h1, h3, h4.symm⟩
  have hsk : ∀ {r}, ρs k = some r → ρ D = some r := fun {r} h => by
    obtain ⟨id', r0, h1, h2, h3⟩ := hsome h
    rw [if_pos rfl] at h3
    subst h3
    rw [hp.hk] at h1; cases h1; exact h2
  have hown : ∀ (id : Nat) (o : KObj), H0[id]? = some o → o.owned = true → id = k := by
    intro id o h1 h2
    by_cases e : id = k
    · exact e
    · rcases hp.obj id o e h1 with rfl | ⟨cs, rfl⟩ <;> cases h2
  have hDo : (KObj.cells true z c0).owned = true := rfl
  -- other names lie elsewhere
  have hoth : ∀ {id r o rD}, id ≠ k → ρs id = some r → H0[id]? = some o → o.alive = true → ρ D = some rD → rD.b ≠ r.b := fun {id r o rD} e h1 h2 h3 h4 => by
    rcases hp.obj id o e h2 with rfl | ⟨cs, rfl⟩
    · cases h3
    · obtain ⟨id', r0, k1, k2, rfl⟩ := hsome h1
      obtain ⟨own, z', g⟩ := hp.rd id id' cs k1 h2
      rw [if_neg e]
      exact hr.sep D id' rD r0 _ _ h4 k2 hp.hD g hDo rfl (fun q => hp.ne id cs h2 (by rw [k1, q]))
  have hr0 : Rel P B ρs H0 w := by
    refine ⟨hr.bsize, fun g hg => ?_, fun id r h => ?_, fun id r h => ?_, fun id r o h1 h2 => ?_, fun id r o h1 h2 h3 => ?_, fun id1 id2 r1 r2 o1 o2 h1 h2 g1 g2 k1 k2 hne => ?_, fun b m hb => ⟨(hr.mem b m hb).1, fun id r o h1 h2 h3 => ?_⟩,
      ⟨fun F k r h => by obtain ⟨F', k1, _⟩ := hsomeg h; exact hp.dom _ _ k1, fun F k r h => by obtain ⟨F', _, k2⟩ := hsomeg h; exact hr.fam.lt _ _ _ k2, fun _ _ _ _ _ m => (hnf m).elim, fun _ _ _ _ _ m => (hnf m).elim, fun _ _ _ _ _ _ _ _ _ _ m => (hnf m).elim, fun _ _ _ _ _ _ _ _ m => (hnf m).elim, fun _ _ _ _ _ _ _ m => (hnf m).elim⟩⟩
    · obtain ⟨r, k1, k2, k3⟩ := hr.glob g hg
      refine ⟨_, hσ g g r (hp.glob g hg) k1, ?_⟩
      split
      · exact ⟨k2, k3⟩
      · exact ⟨k2, k3⟩
    · obtain ⟨id', r0, h1, _, _⟩ := hsome h; exact hp.dom _ _ h1
    · obtain ⟨id', r0, _, h2, rfl⟩ := hsome h
      have := hr.lt id' r0 h2
      split <;> exact this
    · by_cases e : id = k
      · subst e
        rw [hp.k0] at h2; cases h2
        exact plain_obj (ρ := ρ) (ρ' := ρs) (fun _ _ h => h) hp.pl (hr.obj D r _ (hsk h1) hp.hD)
      · obtain ⟨id', r0, k1, k2, rfl⟩ := hsome h1
        rw [if_neg e]
        rcases hp.obj id o e h2 with rfl | ⟨cs, rfl⟩
        · trivial
        · obtain ⟨own, z, g⟩ := hp.rd id id' cs k1 h2
          obtain ⟨e1, e2, cs', ty, fz, hb, hnz, hfz, hcs⟩ := hr.obj _ _ _ k2 g
          refine ⟨rfl, rfl, cs', ty, fz, hb, hnz, fun h => (by cases h), fun i x hx => ?_⟩
          obtain ⟨x', y1, y2⟩ := hcs i (rn σ d x) (by rw [List.getElem?_map, hx]; rfl)
          exact ⟨x', y1, rn_VRw hσd (fun _ _ h => h) hσg d y2⟩
    · obtain rfl := hown id o h2 h3
      exact hr.base D r _ (hsk h1) hp.hD hDo
    · obtain rfl := hown id1 o1 g1 k1
      exact hoth (Ne.symm hne) h2 g2 k2 (hsk h1)
    · obtain rfl := hown id o h2 h3
      exact (hr.mem b m hb).2 D r _ (hsk h1) hp.hD hDo
  have ha0 : VRl ρs args args'.toList := ⟨by have := ha.1; simpa using this, fun i x x' a b => rn_VRw hσd (fun _ _ h => h) hσg d (ha.2 i (rn σ d x) x' (by rw [List.getElem?_map, a]; rfl) b)⟩
  refine (h.2 B ρs w args' hr0 ha0).mono ?_
  rintro e w' ⟨v1, v', ρ1, H1, rfl, hv', hpost, rfl, rfl⟩
  have hkl : k < H0.length := (List.getElem?_eq_some_iff.1 hp.k0).1
  have hDl : D < H.length := (List.getElem?_eq_some_iff.1 hp.hD).1
  have h1k : (H0.set k (.cells true z c1) ++ new)[k]? = some (.cells true z c1) := by
    rw [List.getElem?_append_left (by simpa using hkl), List.getElem?_set_self hkl]
  have h1o : ∀ i, i < H0.length → i ≠ k → (H0.set k (.cells true z c1) ++ new)[i]? = H0[i]? := fun i hi e => by
    rw [List.getElem?_append_left (by simpa using hi), List.getElem?_set_ne (Ne.symm e)]
  have h1n : ∀ i, H0.length ≤ i → (H0.set k (.cells true z c1) ++ new)[i]? = new[i - H0.length]? := fun i hi => by
    rw [List.getElem?_append_right (by simpa using hi)]; simp
  have hOBk : ∀ b, OB ρs H0 b → ∃ rD, ρ D = some rD ∧ ρs k = some rD ∧ rD.b = b := fun b h => h.elim (fun ⟨id, r, o, h1, h2, h3, h4⟩ => by
      obtain rfl := hown id o h2 h3
      exact ⟨r, hsk h1, h1, h4⟩) (fun ⟨_, _, _, _, _, m, _⟩ => (hnf m).elim)
  have hOB : ∀ b, OB ρs H0 b → OB ρ H b := fun b h => by
    obtain ⟨rD, h1, _, h2⟩ := hOBk b h
    exact .inl ⟨D, rD, _, h1, hp.hD, hDo, h2⟩
  let ρ2 : Ren := ⟨fun id => if id < H.length then ρ id else ρ1 (H0.length + (id - H.length)), ρ1.mem, fun F k => if F < H.length then ρ.g F k else ρ1.g (H0.length + (F - H.length)) k⟩
  let ρn : Ren := ⟨fun id => if id < H0.length then none else ρ1 id, ρ1.mem, fun F k => if F < H0.length then none else ρ1.g F k⟩
  have hn1 : ∀ id id' r, sgOnly H0.length id = some id' → ρ1 id' = some r → ρn id = some r := by
    intro id id' r h1 h2
    unfold sgOnly at h1
    split at h1
    · cases h1
    · rename_i hlt; cases h1; show (if _ then _ else _) = _; rw [if_neg hlt]; exact h2
  have hn1g : ∀ F F' k r, sgOnly H0.length F = some F' → ρ1.g F' k = some r → ρn.g F k = some r := by
    intro F F' k r h1 h2
    unfold sgOnly at h1
    split at h1
    · cases h1
    · rename_i hlt; cases h1; show (if _ then _ else _) = _; rw [if_neg hlt]; exact h2
  have hfwdg : ∀ F k r, ρn.g F k = some r → ∃ F', sgUp H0.length H.length F = some F' ∧ ρ2.g F' k = some r := by
    intro F k r h1
    have h1' : (if F < H0.length then none else ρ1.g F k) = some r := h1
    split at h1'
    · cases h1'
    · rename_i hlt
      refine ⟨_, if_neg hlt, ?_⟩
      show (if _ then _ else _) = _
      rw [if_neg (by omega), show H0.length + (H.length + (F - H0.length) - H.length) = F by omega]; exact h1'
  have hfwd : ∀ id r, ρn id = some r → ∃ id', sgUp H0.length H.length id = some id' ∧ ρ2 id' = some r := by
    intro id r h1
    have h1' : (if id < H0.length then none else ρ1 id) = some r := h1
    split at h1'
    · cases h1'
    · rename_i hlt
      refine ⟨_, if_neg hlt, ?_⟩
      show (if _ then _ else _) = _
      rw [if_neg (by omega), show H0.length + (H.length + (id - H0.length) - H.length) = id by omega]; exact h1'
  have hext : Ren.le ρ ρ2 := ⟨fun id r h1 => by
    show (if _ then _ else _) = _
    rw [if_pos (hr.dom _ _ h1)]; exact h1, hpost.ext.mem, fun F k r h1 => by
    show (if _ then _ else _) = _
    rw [if_pos (hr.fam.dom _ _ _ h1)]; exact h1⟩
  have hnew : ∀ (k : Nat) (o : KObj), new[k]? = some o → rnoOk d o = true ∧ o.owned = true ∧ rno (sgOnly H0.length) d o = o := by
    intro k o hk
    rw [List.all_eq_true] at hn
    have := hn o (List.mem_of_getElem? hk)
    simp only [Bool.and_eq_true] at this
    refine ⟨this.1, this.2, ?_⟩
    have h3 : (new.map (rno (sgOnly H0.length) d))[k]? = some o := by rw [hn2]; exact hk
    rw [List.getElem?_map, hk] at h3
    exact Option.some.inj h3
  have hoa : ∀ o : KObj, o.owned = true → o.alive = true := by intro o ho; cases o <;> first | rfl | cases ho
  have hfresh : ∀ id r o, H0.length ≤ id → ρ1 id = some r → new[id - H0.length]? = some o → w.heap.size ≤ r.b := by
    intro id r o hid h1 h2
    have ho : o.owned = true := (hnew _ _ h2).2.1
    rcases Nat.lt_or_ge r.b w.heap.size with hlt | hge
    · obtain ⟨rD, k1, k2, k3⟩ := hOBk _ (hpost.ob r.b hlt (.inl ⟨id, r, o, h1, by rw [h1n id hid]; exact h2, ho, rfl⟩))
      exact absurd k3 (hpost.rel.sep k id rD r _ o (hpost.ext _ _ k2) h1 h1k (by rw [h1n id hid]; exact h2) rfl (hoa _ ho) (by omega))
    · exact hge
  have hgetD : (H.set D (.cells true z c1) ++ new.map (rno (sgUp H0.length H.length) d))[D]? = some (.cells true z c1) := by
    rw [List.getElem?_append_left (by simpa using hDl), List.getElem?_set_self hDl]
  have hgeto : ∀ id, id < H.length → id ≠ D → (H.set D (.cells true z c1) ++ new.map (rno (sgUp H0.length H.length) d))[id]? = H[id]? := fun id hid e => by
    rw [List.getElem?_append_left (by simpa using hid), List.getElem?_set_ne (Ne.symm e)]
  have hback : ∀ id o, id < H.length → (H.set D (.cells true z c1) ++ new.map (rno (sgUp H0.length H.length) d))[id]? = some o → ∃ o', H[id]? = some o' ∧ o'.owned = o.owned ∧ o'.alive = o.alive := fun id o hid h2 => by
    by_cases e : id = D
    · subst e
      rw [hgetD] at h2; cases h2
      exact ⟨_, hp.hD, rfl, rfl⟩
    · rw [hgeto id hid e] at h2; exact ⟨o, h2, rfl, rfl⟩
  have hgetn : ∀ id o', H.length ≤ id → (H.set D (.cells true z c1) ++ new.map (rno (sgUp H0.length H.length) d))[id]? = some o' → ∃ o, new[id - H.length]? = some o ∧ o' = rno (sgUp H0.length H.length) d o ∧ rnoOk d o = true ∧ o.owned = true ∧ rno (sgOnly H0.length) d o = o := by
    intro id o' hid h2
    rw [List.getElem?_append_right (by simpa using hid), List.getElem?_map, List.length_set] at h2
    obtain ⟨o, a1, rfl⟩ := Option.map_eq_some_iff.1 h2
    obtain ⟨x1, x2, x3⟩ := hnew _ _ a1
    exact ⟨o, a1, rfl, x1, x2, x3⟩
  have hvn : VR ρn v1 v' := by
    have : VR ρ1 (rn (sgOnly H0.length) d v1) v' := by rw [hv2]; exact hv'
    exact rn_VR hn1 (fun _ _ h => h) hn1g d this
  refine ⟨_, v', ρ2, _, rfl, VR_rn hfwd (fun _ _ h => h) hfwdg d hv hvn, ?_, rfl, rfl⟩
  have fr : ∀ id r o, ¬ id < H.length → ρ1 (H0.length + (id - H.length)) = some r → (H.set D (.cells true z c1) ++ new.map (rno (sgUp H0.length H.length) d))[id]? = some o → w.heap.size ≤ r.b := by
    intro id r o hid a b
    obtain ⟨o0, a1, _, _, _, _⟩ := hgetn id o (by omega) b
    exact hfresh _ r o0 (by omega) a (by rw [show H0.length + (id - H.length) - H0.length = id - H.length by omega]; exact a1)
  have u : ∀ id, ρ2 id = if id < H.length then ρ id else ρ1 (H0.length + (id - H.length)) := fun _ => rfl
  have hnob : ∀ id r o, ρ id = some r → H[id]? = some o → o.alive = true → id ≠ D → ¬ OB ρs H0 r.b := fun id r o a b c e q => by
    obtain ⟨rD, k1, _, k3⟩ := hOBk _ q
    exact hr.sep D id rD r _ o k1 a hp.hD b hDo c (Ne.symm e) k3
  have hfm : ∀ {F k r z' cs}, FM ρ2 (H.set D (.cells true z c1) ++ new.map (rno (sgUp H0.length H.length) d)) F k r z' cs → FM ρ H F k r z' cs := fun {F k r z' cs} m => by
    have h1 : (if F < H.length then ρ.g F k else ρ1.g (H0.length + (F - H.length)) k) = some r := m.g
    rcases Nat.lt_or_ge F H.length with h | h
    · rw [if_pos h] at h1
      refine ⟨h1, ?_⟩
      by_cases e : F = D
      · have := m.h; rw [e, hgetD] at this; cases this
      · rw [← hgeto F h e]; exact m.h
    · obtain ⟨o, _, e, g1, g2, _⟩ := hgetn F _ h m.h
      cases o <;> first | (cases g1; done) | (cases g2; done) | (cases e; done)
  have hfam : FRel B ρ2 (H.set D (.cells true z c1) ++ new.map (rno (sgUp H0.length H.length) d)) w' := by
    refine ⟨fun F k r h1 => ?_, fun F k r h1 => ?_, fun F k r z cs m => hr.fam.base _ _ _ _ _ (hfm m), fun F k r z cs m => (hr.fam.obj _ _ _ _ _ (hfm m)).mono hext (hpost.keep _ (hr.fam.lt _ _ _ (hfm m).g) (fun q => ?_)),
      fun F k r z cs F' k' r' z' cs' m m' => hr.fam.sep _ _ _ _ _ _ _ _ _ _ (hfm m) (hfm m'), fun F k r z cs id r' o m h1 h2 h3 => ?_, fun F k r z cs b m' m hb => ?_⟩
    · have h1 : (if F < H.length then ρ.g F k else ρ1.g (H0.length + (F - H.length)) k) = some r := h1
      rcases Nat.lt_or_ge F H.length with h | h
      · simp; omega
      · rw [if_neg (by omega)] at h1
        have := hpost.rel.fam.dom _ _ _ h1
        simp at this ⊢; omega
    · have h1 : (if F < H.length then ρ.g F k else ρ1.g (H0.length + (F - H.length)) k) = some r := h1
      rcases Nat.lt_or_ge F H.length with h | h
      · rw [if_pos h] at h1
        exact Nat.lt_of_lt_of_le (hr.fam.lt _ _ _ h1) hpost.size
      · rw [if_neg (by omega)] at h1
        exact hpost.rel.fam.lt _ _ _ h1
    · obtain ⟨rD, k1, _, k3⟩ := hOBk _ q
      exact hr.fam.sep2 _ _ _ _ _ D rD _ (hfm m) k1 hp.hD rfl k3
    · rw [u] at h1
      rcases Nat.lt_or_ge id H.length with h | h
      · rw [if_pos h] at h1
        obtain ⟨o', b1, _, b3⟩ := hback id o h h2
        exact hr.fam.sep2 _ _ _ _ _ id r' o' (hfm m) h1 b1 (by rw [b3]; exact h3)
      · rw [if_neg (by omega)] at h1
        have := fr id r' o (by omega) h1 h2
        have := hr.fam.lt _ _ _ (hfm m).g
        omega
    · have hb : ρ1.mem b = some m' := hb
      rcases hpost.frz b m' hb with g | g | g
      · exact hr.fam.mem _ _ _ _ _ b m' (hfm m) g
      · have := hr.fam.lt _ _ _ (hfm m).g; omega
      · obtain ⟨rD, k1, _, k3⟩ := hOBk _ g
        exact fun q => hr.fam.sep2 _ _ _ _ _ D rD _ (hfm m) k1 hp.hD rfl (k3.trans q.symm)
  refine ⟨⟨Nat.le_trans hr.bsize hpost.size, fun g hg => ?_, fun id r h1 => ?_, fun id r h1 => ?_, fun id r o h1 h2 => ?_, fun id r o h1 h2 h3 => ?_, fun id1 id2 r1 r2 o1 o2 h1 h2 g1 g2 k1 k2 hne => ?_, fun b m hb => ⟨(hpost.rel.mem b m hb).1, fun id r o h1 h2 h3 => ?_⟩, hfam⟩, hext, fun id r h1 h2 => ?_, by simp, fun id h1 h2 => hgeto id h1 (fun e => h2 (by rw [e]; exact List.mem_singleton.2 rfl)), hpost.size, fun b h1 h2 => hpost.keep b h1 (fun q => h2 (hOB b q)), fun b h1 h2 => ?_, hpost.os, hpost.tape, hpost.output, fun b m hb => (hpost.frz b m hb).imp id fun h => h.imp id (hOB b), hpost.drawn, fun F k r h1 h2 => .inl (by
    have h1 : (if F < H.length then ρ.g F k else ρ1.g (H0.length + (F - H.length)) k) = some r := h1
    rcases Nat.lt_or_ge F H.length with h | h
    · rw [if_pos h, h2] at h1; cases h1
    · exact h)⟩
  · obtain ⟨r, k1, k2, k3⟩ := hr.glob g hg; exact ⟨r, hext _ _ k1, k2, k3⟩
  · rw [u] at h1
    split at h1
    · rw [List.length_append, List.length_set]; omega
    · rename_i hid
      have := hpost.rel.dom _ _ h1
      rw [List.length_append, List.length_set] at this
      rw [List.length_append, List.length_map, List.length_set]; omega
  · rw [u] at h1
    split at h1
    · exact Nat.lt_of_lt_of_le (hr.lt _ _ h1) hpost.size
    · exact hpost.rel.lt _ _ h1
  · rw [u] at h1
    split at h1
    · rename_i hid
      by_cases e : id = D
      · subst e
        rw [hgetD] at h2; cases h2
        have hk1 : ρs k = some r := by have := hσ _ _ _ hp.hk h1; rw [if_pos rfl] at this; exact this
        exact plain_obj (ρ := ρ1) (ρ' := ρ2) (fun _ _ h => h) h1p (hpost.rel.obj k r _ (hpost.ext _ _ hk1) h1k)
      · rw [hgeto id hid e] at h2
        cases hal : o.alive with
        | true => exact (hr.obj _ _ _ h1 h2).mono hext (hpost.keep _ (hr.lt _ _ h1) (hnob id r o h1 h2 hal e))
        | false => cases o <;> first | trivial | cases hal
    · rename_i hid
      obtain ⟨o0, a1, rfl, a3, a4, a5⟩ := hgetn id o (by omega) h2
      have h6 := hpost.rel.obj _ _ _ h1 (show _ = some o0 by rw [h1n _ (by omega), show H0.length + (id - H.length) - H0.length = id - H.length by omega]; exact a1)
      rw [← a5] at h6
      have hd : rno (sgOnly H0.length) d o0 = .dead → o0 = .dead := fun he => by rw [a5] at he; exact he
      exact rel_rno hfwd (fun _ _ h => h) hfwdg a3 (rno_rel hn1 (fun _ _ h => h) hn1g h6 hd)
  · rw [u] at h1
    split at h1
    · rename_i hid
      obtain ⟨o', b1, b2, _⟩ := hback id o hid h2
      exact hr.base _ _ _ h1 b1 (by rw [b2]; exact h3)
    · rename_i hid
      obtain ⟨o0, a1, _, a3, a4, _⟩ := hgetn id o (by omega) h2
      exact hpost.rel.base _ _ _ h1 (show _ = some o0 by rw [h1n _ (by omega), show H0.length + (id - H.length) - H0.length = id - H.length by omega]; exact a1) a4
  · rw [u] at h1 h2
    by_cases c1' : id1 < H.length
    · rw [if_pos c1'] at h1
      obtain ⟨p1, b1, b2, _⟩ := hback id1 o1 c1' g1
      by_cases c2 : id2 < H.length
      · rw [if_pos c2] at h2
        obtain ⟨p2, d1, _, d3⟩ := hback id2 o2 c2 g2
        exact hr.sep id1 id2 r1 r2 p1 p2 h1 h2 b1 d1 (by rw [b2]; exact k1) (by rw [d3]; exact k2) hne
      · rw [if_neg c2] at h2
        have := hr.lt _ _ h1
        have := fr id2 r2 o2 c2 h2 g2
        omega
    · rw [if_neg c1'] at h1
      have f1 := fr id1 r1 o1 c1' h1 g1
      by_cases c2 : id2 < H.length
      · rw [if_pos c2] at h2
        have := hr.lt _ _ h2
        omega
      · rw [if_neg c2] at h2
        obtain ⟨p1, a1, _, _, a4, _⟩ := hgetn id1 o1 (by omega) g1
        obtain ⟨p2, b1, _, _, b4, _⟩ := hgetn id2 o2 (by omega) g2
        exact hpost.rel.sep _ _ r1 r2 p1 p2 h1 h2 (by rw [h1n _ (by omega), show H0.length + (id1 - H.length) - H0.length = id1 - H.length by omega]; exact a1) (by rw [h1n _ (by omega), show H0.length + (id2 - H.length) - H0.length = id2 - H.length by omega]; exact b1) a4 (hoa _ b4) (by omega)
  · rw [u] at h1
    split at h1
    · rename_i hid
      obtain ⟨o', b1, b2, _⟩ := hback id o hid h2
      intro he
      rcases hpost.frz b m hb with g | g | g
      · exact (hr.mem b m g).2 id r o' h1 b1 (by rw [b2]; exact h3) he
      · have := hr.lt _ _ h1; omega
      · obtain ⟨rD, k1, k2, k3⟩ := hOBk _ g
        exact (hpost.rel.mem b m hb).2 k rD _ (hpost.ext _ _ k2) h1k rfl k3
    · rename_i hid
      obtain ⟨o0, a1, _, a3, a4, _⟩ := hgetn id o (by omega) h2
      exact (hpost.rel.mem b m hb).2 _ r o0 h1 (by rw [h1n _ (by omega), show H0.length + (id - H.length) - H0.length = id - H.length by omega]; exact a1) a4
  · rw [u] at h1
    split at h1
    · rw [h2] at h1; cases h1
    · omega
  · rcases h2 with ⟨id, r, o, k1, k2, k3, k4⟩ | ⟨F, k, r, z, cs, m, e⟩
    · rw [u] at k1
      split at k1
      · rename_i hid
        obtain ⟨o', b1, b2, _⟩ := hback id o hid k2
        exact .inl ⟨id, r, o', k1, b1, by rw [b2]; exact k3, k4⟩
      · rename_i hid
        have := fr id r o hid k1 k2
        omega
    · exact .inr ⟨F, k, r, z, cs, hfm m, e⟩
end
end Go.K
/- Functions that write one block, run by the kernel. No condition. -/
namespace Go.K
set_option linter.unusedSimpArgs false
open Go
set_option linter.unusedVariables false
noncomputable section
attribute [local irreducible] vF
variable {P : Program}
/-- A function that writes block k and answers with new blocks. -/
def newKW (n0 d k : Nat) (o : KObj) (v : Value) (new : List (Bool × KObj)) : KV := fun v' H' h' =>
  match h' with
  | .again σ => sgOk n0 (n0 + new.length) [(k, true, o)] σ = true ∧ wk v' (rn (sg n0 σ) d v) ∧ chgOk H' n0 (sg n0 σ) d [(k, true, o)] ∧ newOk H' n0 (sg n0 σ) d n0 new
  | _ => False
theorem KCall.packW {f : FuncId} {args : List Value} {H0 : HT} {v : Value} {new : List (Bool × KObj)} {d k : Nat} {o : KObj} (hk : k < H0.n)
    (h : KCall P f args H0.list [k] (fun v' H' => ∃ (H2 : HT) (σ : List (Nat × Nat)), H' = H2.list ∧ sgOk H0.n (H0.n + new.length) [(k, true, o)] σ = true ∧ wk v' (rn (sg H0.n σ) d v) ∧ chgOk H2 H0.n (sg H0.n σ) d [(k, true, o)] ∧ newOk H2 H0.n (sg H0.n σ) d H0.n new)) :
    KCall P f args H0.list [k] (Is v (H0.list.set k o ++ new.map (·.2))) := by
  refine ⟨h.1, fun B ρ w args' hr ha => (h.2 B ρ w args' hr ha).mono ?_⟩
  rintro e w' ⟨v', r, ρ', H', rfl, hv, hp, H2, σ, rfl, hs, hw, hc, hn⟩
  have hm : memB k [k] = true := by unfold memB; rw [Nat.beq_refl]; rfl
  have hb : Nat.blt k H0.n = true := Nat.ble_eq_true_of_le hk
  have hh : headOk 0 ⟨fun _ => junk, .leaf⟩ H2 H0 d [k] σ [] [(k, true, o)] new [] := by
    refine ⟨?_, trivial, hc, hn, trivial⟩
    simp only [Bool.and_eq_true]
    refine ⟨hs, ?_, rfl, ?_⟩
    · show cond (memB k [k]) (cond (Nat.blt k H0.n) true false) false = true
      rw [hm, hb]; rfl
    · show cond (cond (Nat.beq k k || false) true (List.any [] _)) true false = true
      rw [Nat.beq_refl]; rfl
  have he := headOk_emb hh
  have hlist : (headH H0 [(k, true, o)] new []).list = H0.list.set k o ++ new.map (·.2) := by
    have key : ∀ (l : List (Bool × KObj)) (H : HT), (l.foldl (fun H p => H.push p.2) H).list = H.list ++ l.map (·.2) := by
      intro l
      induction l with
      | nil => intro H; simp
      | cons p l ih => intro H; rw [List.foldl_cons, ih, HT.list_push]; simp
    have := key new (H0.set k o)
    rw [HT.list_set] at this
    exact this
  rw [hlist] at he
  obtain ⟨q1, _⟩ := he.post hr hp
  refine ⟨v, r, renBy ρ' (sg H0.n σ), _, rfl, ?_, q1, rfl, rfl⟩
  have hσ : ∀ id id' r, sg H0.n σ id = some id' → ρ' id' = some r → (renBy ρ' (sg H0.n σ)) id = some r := fun id id' r h1 h2 => by show Option.bind _ _ = _; rw [h1]; exact h2
  exact rn_VR (ρ' := ρ') (ρ := renBy ρ' (sg H0.n σ)) hσ (fun _ _ h => h) (fun F F' k r h1 h2 => by show Option.bind _ _ = _; rw [h1]; exact h2) d (hw _ _ hv)
/-- A memory of one block that is written, and some that are read. -/
def readsW (G z : Nat) (c0 : List Value) (css : List (List Value)) : HT := css.foldl (fun H cs => H.push (.cells false 0 cs)) (HT.push ⟨G, .leaf⟩ (.cells true z c0))
def sgRW (G D : Nat) (ids : List Nat) (i : Nat) : Option Nat := if i < G then some i else if i = G then some D else ids[i - G - 1]?
theorem readsW_n (G z : Nat) (c0 : List Value) (css : List (List Value)) : (readsW G z c0 css).n = G + 1 + css.length := (readsT_get G css (HT.push ⟨G, .leaf⟩ (.cells true z c0)) 0).1
theorem readsW_list (G z : Nat) (c0 : List Value) (css : List (List Value)) (id : Nat) : (readsW G z c0 css).list[id]? = if id < G then some .dead else if id = G then some (.cells true z c0) else (css[id - G - 1]?).map (fun cs => KObj.cells false 0 cs) := by
  rw [show (readsW G z c0 css).list[id]? = _ from (readsT_get G css (HT.push ⟨G, .leaf⟩ (.cells true z c0)) id).2]
  show (if id < G + 1 then _ else _) = _
  have hl : (HT.list ⟨G, .leaf⟩).length = G := HT.length _
  have h0 : ∀ i, i < G → (HT.list ⟨G, .leaf⟩)[i]? = some .dead := fun i hi => by
    have := readsT_list G [] i
    rw [if_pos hi] at this
    exact this
  rw [HT.list_push]
  by_cases h : id < G
  · rw [if_pos (by omega), if_pos h, List.getElem?_append_left (by omega)]
    exact h0 id h
  · rw [if_neg h]
    by_cases e : id = G
    · subst e
      rw [if_pos (by omega), if_pos rfl, List.getElem?_append_right (by omega), hl, Nat.sub_self]; rfl
    · rw [if_neg (by omega), if_neg e]
      show Option.map _ css[id - (G + 1)]? = _
      rw [show id - (G + 1) = id - G - 1 by omega]
theorem vcW {mixed : Bool} {mask : Nat} {dm : Value → MS} {rounds : Nat} (hmask : MaskOk P mixed mask) (hmix : mixed = true → P.follows .mixedOrders = true) (n : Nat) {f : FuncId} {args : List Value} {css : List (List Value)} {h : Hint} {v : Value} {new : List (Bool × KObj)} {z : Nat} {c0 c1 : List Value}
    (hc : vF P mask dm rounds mixed n true f args (readsW P.globals.size z c0 css) (some [P.globals.size]) h (newKW (readsW P.globals.size z c0 css).n 3 P.globals.size (.cells true z c1) v new))
    (hp0 : c0.all (belowC 0) = true) (hp1 : c1.all (belowC 0) = true) (hcss : ∀ cs ∈ css, cs.all (belowC 0) = true)
    (hv : rnOk 3 v = true) (hv2 : rn (sgOnly (P.globals.size + 1 + css.length)) 3 v = v) (hn : (new.map (·.2)).all (fun o => rnoOk 3 o && o.owned) = true) (hn2 : (new.map (·.2)).map (rno (sgOnly (P.globals.size + 1 + css.length)) 3) = new.map (·.2))
    {H : Heap} {D : Nat} (hD : H[D]? = some (.cells true z c0)) (ids : List Nat) (hl : ids.length = css.length) (hids : ∀ (k : Nat) (cs : List Value), css[k]? = some cs → ∃ id own z, ids[k]? = some id ∧ H[id]? = some (KObj.cells own z cs)) (hne : D ∉ ids) :
    KCall P f (args.map (rn (sgRW P.globals.size D ids) 3)) H [D] (Is (rn (sgUp (P.globals.size + 1 + css.length) H.length) 3 v) (H.set D (.cells true z c1) ++ (new.map (·.2)).map (rno (sgUp (P.globals.size + 1 + css.length) H.length) 3))) := by
  have e : (readsW P.globals.size z c0 css).list.length = P.globals.size + 1 + css.length := by rw [HT.length, readsW_n]
  have hkn : P.globals.size < (readsW P.globals.size z c0 css).n := by rw [readsW_n]; omega
  have h1 : KCall P f args (readsW P.globals.size z c0 css).list [P.globals.size] (Is v ((readsW P.globals.size z c0 css).list.set P.globals.size (.cells true z c1) ++ new.map (·.2))) := by
    refine KCall.packW (d := 3) hkn (((vF_sound hmask hmix n).1 f args _ (some [P.globals.size]) h _ hc).post ?_)
    rintro v' H' ⟨H2, h2, e, hk⟩
    cases h2 with
    | again σ => exact ⟨H2, σ, e, hk⟩
    | _ => exact hk.elim
  have hp : ReadsW P (readsW P.globals.size z c0 css).list H (sgRW P.globals.size D ids) 3 P.globals.size D z c0 := by
    refine ⟨fun g hg => if_pos hg, fun id id' h => ?_, by rw [e]; omega, ?_, ?_, hD, hp0, fun id o hne h => ?_, fun id cs h => ?_, fun id id' cs h1 h2 => ?_⟩
    · rw [e]
      unfold sgRW at h
      split at h
      · omega
      · split at h
        · omega
        · have := (List.getElem?_eq_some_iff.1 h).1; omega
    · rw [readsW_list, if_neg (Nat.lt_irrefl _), if_pos rfl]
    · show (if _ then _ else _) = _
      rw [if_neg (Nat.lt_irrefl _), if_pos rfl]
    · rw [readsW_list] at h
      split at h
      · cases h; exact .inl rfl
      · try rw [if_neg hne] at h
        obtain ⟨cs, _, rfl⟩ := Option.map_eq_some_iff.1 h; exact .inr ⟨cs, rfl⟩
    · rw [readsW_list] at h
      split at h
      · cases h
      · rename_i h5
        split at h
        · cases h
        · rename_i h6
          unfold sgRW
          rw [if_neg h5, if_neg h6]
          exact fun q => hne (List.mem_of_getElem? q)
    · rw [readsW_list] at h2
      split at h2
      · cases h2
      · rename_i h5
        split at h2
        · cases h2
        · rename_i h6
          obtain ⟨cs', a1, a2⟩ := Option.map_eq_some_iff.1 h2
          cases a2
          unfold sgRW at h1
          rw [if_neg h5, if_neg h6] at h1
          obtain ⟨id2, own, z2, b1, b2⟩ := hids _ _ a1
          rw [h1] at b1; cases b1
          exact ⟨own, z2, by rw [(rnCl (d := 0) (hcss _ (List.mem_of_getElem? a1))).1]; exact b2⟩
  have := KCall.writes hp h1 hp1 hv (by rw [e]; exact hv2) hn (by rw [e]; exact hn2)
  rw [e] at this
  exact this
end
end Go.K
/- Functions that write one block and read blocks that lead to it. No condition. -/
namespace Go.K
set_option linter.unusedSimpArgs false
open Go
set_option linter.unusedVariables false
noncomputable section
attribute [local irreducible] vF
variable {P : Program}
theorem vcWA {mixed : Bool} {mask : Nat} {dm : Value → MS} {rounds : Nat} (hmask : MaskOk P mixed mask) (hmix : mixed = true → P.follows .mixedOrders = true) (n : Nat) {f : FuncId} {args : List Value} {css : List (List Value)} {h : Hint} {v : Value} {new : List (Bool × KObj)} {z : Nat} {c0 c1 : List Value}
    (hc : vF P mask dm rounds mixed n true f args (readsW P.globals.size z c0 css) (some [P.globals.size]) h (newKW (readsW P.globals.size z c0 css).n 3 P.globals.size (.cells true z c1) v new))
    (hp0 : c0.all (belowC 0) = true) (hp1 : c1.all (belowC 0) = true)
    (hv : rnOk 3 v = true) (hv2 : rn (sgOnly (P.globals.size + 1 + css.length)) 3 v = v) (hn : (new.map (·.2)).all (fun o => rnoOk 3 o && o.owned) = true) (hn2 : (new.map (·.2)).map (rno (sgOnly (P.globals.size + 1 + css.length)) 3) = new.map (·.2))
    {H : Heap} {D : Nat} (hD : H[D]? = some (.cells true z c0)) (ids : List Nat) (hl : ids.length = css.length) (hids : ∀ (k : Nat) (cs : List Value), css[k]? = some cs → ∃ id own z, ids[k]? = some id ∧ H[id]? = some (KObj.cells own z (cs.map (rn (sgRW P.globals.size D ids) 3)))) (hne : D ∉ ids) :
    KCall P f (args.map (rn (sgRW P.globals.size D ids) 3)) H [D] (Is (rn (sgUp (P.globals.size + 1 + css.length) H.length) 3 v) (H.set D (.cells true z c1) ++ (new.map (·.2)).map (rno (sgUp (P.globals.size + 1 + css.length) H.length) 3))) := by
  have e : (readsW P.globals.size z c0 css).list.length = P.globals.size + 1 + css.length := by rw [HT.length, readsW_n]
  have hkn : P.globals.size < (readsW P.globals.size z c0 css).n := by rw [readsW_n]; omega
  have h1 : KCall P f args (readsW P.globals.size z c0 css).list [P.globals.size] (Is v ((readsW P.globals.size z c0 css).list.set P.globals.size (.cells true z c1) ++ new.map (·.2))) := by
    refine KCall.packW (d := 3) hkn (((vF_sound hmask hmix n).1 f args _ (some [P.globals.size]) h _ hc).post ?_)
    rintro v' H' ⟨H2, h2, e, hk⟩
    cases h2 with
    | again σ => exact ⟨H2, σ, e, hk⟩
    | _ => exact hk.elim
  have hp : ReadsW P (readsW P.globals.size z c0 css).list H (sgRW P.globals.size D ids) 3 P.globals.size D z c0 := by
    refine ⟨fun g hg => if_pos hg, fun id id' h => ?_, by rw [e]; omega, ?_, ?_, hD, hp0, fun id o hne h => ?_, fun id cs h => ?_, fun id id' cs h1 h2 => ?_⟩
    · rw [e]
      unfold sgRW at h
      split at h
      · omega
      · split at h
        · omega
        · have := (List.getElem?_eq_some_iff.1 h).1; omega
    · rw [readsW_list, if_neg (Nat.lt_irrefl _), if_pos rfl]
    · show (if _ then _ else _) = _
      rw [if_neg (Nat.lt_irrefl _), if_pos rfl]
    · rw [readsW_list] at h
      split at h
      · cases h; exact .inl rfl
      · try rw [if_neg hne] at h
        obtain ⟨cs, _, rfl⟩ := Option.map_eq_some_iff.1 h; exact .inr ⟨cs, rfl⟩
    · rw [readsW_list] at h
      split at h
      · cases h
      · rename_i h5
        split at h
        · cases h
        · rename_i h6
          unfold sgRW
          rw [if_neg h5, if_neg h6]
          exact fun q => hne (List.mem_of_getElem? q)
    · rw [readsW_list] at h2
      split at h2
      · cases h2
      · rename_i h5
        split at h2
        · cases h2
        · rename_i h6
          obtain ⟨cs', a1, a2⟩ := Option.map_eq_some_iff.1 h2
          cases a2
          unfold sgRW at h1
          rw [if_neg h5, if_neg h6] at h1
          obtain ⟨id2, own, z2, b1, b2⟩ := hids _ _ a1
          rw [h1] at b1; cases b1
          exact ⟨own, z2, b2⟩
  have := KCall.writes hp h1 hp1 hv (by rw [e]; exact hv2) hn (by rw [e]; exact hn2)
  rw [e] at this
  exact this
end
end Go.K
