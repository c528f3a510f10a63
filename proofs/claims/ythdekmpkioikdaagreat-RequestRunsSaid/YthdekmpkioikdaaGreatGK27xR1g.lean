/- Small steps that texts about functions share. No condition. -/
import Derived.Test.YthdekmpkioikdaaGreatGV10xV14
import Derived.Test.YthdekmpkioikdaaGreatGV4xK41
import Derived.Test.YthdekmpkioikdaaGreatN
namespace Go.K
set_option linter.unusedSimpArgs false
open Go
set_option linter.unusedVariables false
noncomputable section
theorem forkD {p A B : Prop} [Decidable p] (h1 : p -> A) (h2 : ¬ p -> B) : (decide p = true -> A) /\ (decide p = false -> B) :=
 ⟨fun h => h1 (of_decide_eq_true h), fun h => h2 (of_decide_eq_false h)⟩
theorem forkNe {a b : Int} {A B : Prop} (h1 : a ≠ b -> A) (h2 : a = b -> B) : ((a != b) = true -> A) /\ ((a != b) = false -> B) :=
 ⟨fun h => h1 (by simpa using h), fun h => h2 (by simpa using h)⟩
theorem forkEq {a b : Int} {A B : Prop} (h1 : a = b -> A) (h2 : a ≠ b -> B) : ((a == b) = true -> A) /\ ((a == b) = false -> B) :=
 ⟨fun h => h1 (by simpa using h), fun h => h2 (by simpa using h)⟩
theorem forkNot {b : Bool} {A B : Prop} (h : (b = true -> B) /\ (b = false -> A)) : ((!b) = true -> A) /\ ((!b) = false -> B) := by
 cases b
 ·exact ⟨fun _ => h.2 rfl, fun h => by cases h⟩
 ·exact ⟨fun h => (by cases h), fun _ => h.1 rfl⟩
theorem forkB {b : Bool} {A B : Prop} (h1 : b = true -> A) (h2 : b = false -> B) : (b = true -> A) /\ (b = false -> B) := ⟨h1, h2⟩
theorem forkF {b : Bool} {A B : Prop} (hb : b = false) (h1 : B) : (b = true -> A) /\ (b = false -> B) := ⟨fun h => (by rw [hb] at h; cases h), fun _ => h1⟩
theorem iEq {k : IntKind} {a b : Int} (h : a = b) : (Value.int k a) = .int k b := by rw [h]
theorem bEq {a b : Bool} (h : a = b) : (Value.bool a) = .bool b := by rw [h]
theorem wI64 {n : Int} (h : -9223372036854775808 <= n /\ n <= 9223372036854775807) : IntKind.wrap .i64 n = n := IntWalk.i64_in n h
theorem vI64 {n : Int} (h : -9223372036854775808 <= n /\ n <= 9223372036854775807) : (Value.int .i64 (IntKind.wrap .i64 n)) = .int .i64 n := by rw [wI64 h]
theorem ite_max (a b : Int) : (if b > a then b else a) = max a b := by split <;> omega
theorem ite_min (a b : Int) : (if b < a then b else a) = min a b := by split <;> omega
theorem toMax {k : IntKind} {a b : Int} {Q : Int -> Prop} (h : Q (max a b)) : ∃ y : Int, (Value.int k (if b > a then b else a)) = .int k y /\ Q y := ⟨max a b, by rw [ite_max], h⟩
theorem toMin {k : IntKind} {a b : Int} {Q : Int -> Prop} (h : Q (min a b)) : ∃ y : Int, (Value.int k (if b < a then b else a)) = .int k y /\ Q y := ⟨min a b, by rw [ite_min], h⟩
theorem joinI {c : Bool} {v1 v2 : Int} {S1 S2 R : Int -> Prop} (h1 : c = true -> S1 v1) (h2 : c = false -> S2 v2) (hr : ∀ x, x = (if c = true then v1 else v2) -> R x) :
  (true = true /\ (c = true -> ∃ x' : Int, ((c = true /\ x' = v1 /\ True) ∨ (c = false /\ x' = v2 /\ True)) /\ S1 x') /\ (c = false -> ∃ x' : Int, ((c = true /\ x' = v1 /\ True) ∨ (c = false /\ x' = v2 /\ True)) /\ S2 x') /\
   ∀ x : Int, ((c = true /\ x = v1 /\ True) ∨ (c = false /\ x = v2 /\ True)) -> R x) := by
 refine ⟨rfl, fun h => ⟨v1, .inl ⟨h, rfl, trivial⟩, h1 h⟩, fun h => ⟨v2, .inr ⟨h, rfl, trivial⟩, h2 h⟩, fun x hx => hr x ?_⟩
 rcases hx with ⟨h, rfl, _⟩ | ⟨h, rfl, _⟩
 ·rw [if_pos h]
 ·rw [if_neg (by rw [h]; decide)]
theorem joinMax {a b : Int} {S1 S2 R : Int -> Prop} (h1 : S1 b) (h2 : S2 a) (hr : R (max a b)) :
  (true = true /\ (decide (a < b) = true -> ∃ x' : Int, ((decide (a < b) = true /\ x' = b /\ True) ∨ (decide (a < b) = false /\ x' = a /\ True)) /\ S1 x') /\ (decide (a < b) = false -> ∃ x' : Int, ((decide (a < b) = true /\ x' = b /\ True) ∨ (decide (a < b) = false /\ x' = a /\ True)) /\ S2 x') /\
   ∀ x : Int, ((decide (a < b) = true /\ x = b /\ True) ∨ (decide (a < b) = false /\ x = a /\ True)) -> R x) :=
 joinI (fun _ => h1) (fun _ => h2) fun x hx => by
  have : x = max a b := by rw [hx]; simp only [decide_eq_true_eq]; split <;> omega
  rw [this]; exact hr
theorem joinMin {a b : Int} {S1 S2 R : Int -> Prop} (h1 : S1 b) (h2 : S2 a) (hr : R (min a b)) :
  (true = true /\ (decide (b < a) = true -> ∃ x' : Int, ((decide (b < a) = true /\ x' = b /\ True) ∨ (decide (b < a) = false /\ x' = a /\ True)) /\ S1 x') /\ (decide (b < a) = false -> ∃ x' : Int, ((decide (b < a) = true /\ x' = b /\ True) ∨ (decide (b < a) = false /\ x' = a /\ True)) /\ S2 x') /\
   ∀ x : Int, ((decide (b < a) = true /\ x = b /\ True) ∨ (decide (b < a) = false /\ x = a /\ True)) -> R x) :=
 joinI (fun _ => h1) (fun _ => h2) fun x hx => by
  have : x = min a b := by rw [hx]; simp only [decide_eq_true_eq]; split <;> omega
  rw [this]; exact hr
theorem wks_cons {a b : Value} {r s : List Value} (h : wk a b) (hr : wks r s) : wks (a :: r) (b :: s) := ⟨h, hr⟩
theorem wks_nil : wks [] [] := trivial
theorem KCall.wkA {P : Program} {f : FuncId} {args args2 : List Value} {H : Heap} {M : List Nat} {Q : Value -> Heap -> Prop} (h : KCall P f args2 H M Q) (ha : wks args args2) : KCall P f args H M Q :=
 KCall.weakArgs [] (by rw [List.append_nil]; exact h) (wks_spec ha).1 (wks_spec ha).2
theorem reads_ofA {P : Program} {css : List (List Value)} {ids : List Nat} {H : Heap} (hids : ∀ (k : Nat) (cs : List Value), css[k]? = some cs -> ∃ id own z, ids[k]? = some id /\ H[id]? = some (KObj.cells own z (cs.map (rn (sgR P.globals.size ids) 3)))) (hl : ids.length = css.length) :
  Reads P (readsT P.globals.size css).list H (sgR P.globals.size ids) 3 := by
 have hn : (readsT P.globals.size css).list.length = P.globals.size + css.length := by rw [HT.length, readsT_n]
 refine ⟨fun g hg => if_pos hg, fun id id' h => ?_, by rw [hn]; omega, fun id o h => ?_, fun id id' cs h1 h2 => ?_⟩
 ·rw [hn]
  unfold sgR at h
  split at h
  ·omega
  ·have := (List.getElem?_eq_some_iff.1 h).1; omega
 ·rw [readsT_list] at h
  split at h
  ·cases h; exact .inl rfl
  ·obtain ⟨cs, _, rfl⟩ := Option.map_eq_some_iff.1 h; exact .inr ⟨cs, rfl⟩
 ·rw [readsT_list] at h2
  split at h2
  ·cases h2
  ·rename_i hlt
   obtain ⟨cs', a1, a2⟩ := Option.map_eq_some_iff.1 h2
   cases a2
   unfold sgR at h1
   rw [if_neg hlt] at h1
   obtain ⟨id2, own, z, b1, b2⟩ := hids _ _ a1
   rw [h1] at b1; cases b1
   exact ⟨own, z, b2⟩
theorem vcRA {P : Program} {mixed : Bool} {mask : Nat} {dm : Value -> MS} {rounds : Nat} (hmask : MaskOk P mixed mask) (hmix : mixed = true -> P.follows .mixedOrders = true) (n : Nat) {f : FuncId} {args : List Value} {css : List (List Value)} {h : Hint} {v : Value} {new : List (Bool × KObj)}
  (hc : vF P mask dm rounds mixed n true f args (readsT P.globals.size css) (some []) h (newK (readsT P.globals.size css).n 3 v new))
  (hv : rnOk 3 v = true) (hv2 : rn (sgOnly (P.globals.size + css.length)) 3 v = v) (hn : (new.map (·.2)).all (fun o => rnoOk 3 o && o.owned) = true) (hn2 : (new.map (·.2)).map (rno (sgOnly (P.globals.size + css.length)) 3) = new.map (·.2))
  {H : Heap} (ids : List Nat) (hl : ids.length = css.length) (hids : ∀ (k : Nat) (cs : List Value), css[k]? = some cs -> ∃ id own z, ids[k]? = some id /\ H[id]? = some (KObj.cells own z (cs.map (rn (sgR P.globals.size ids) 3)))) :
  KCall P f (args.map (rn (sgR P.globals.size ids) 3)) H [] (Is (rn (sgUp (P.globals.size + css.length) H.length) 3 v) (H ++ (new.map (·.2)).map (rno (sgUp (P.globals.size + css.length) H.length) 3))) := by
 have h1 := vcN hmask hmix n hc
 have e : (readsT P.globals.size css).list.length = P.globals.size + css.length := by rw [HT.length, readsT_n]
 have := KCall.reads (reads_ofA hids hl) h1 hv (by rw [e]; exact hv2) hn (by rw [e]; exact hn2)
 rw [e] at this
 exact this
theorem vcR0A {P : Program} {mixed : Bool} {mask : Nat} {dm : Value -> MS} {rounds : Nat} (hmask : MaskOk P mixed mask) (hmix : mixed = true -> P.follows .mixedOrders = true) (n : Nat) {f : FuncId} {args : List Value} {css : List (List Value)} {h : Hint} {v : Value}
  (hc : vF P mask dm rounds mixed n true f args (readsT P.globals.size css) (some []) h (fun v' _ _ => v' = v)) (hv : belowV 0 v = true)
  {H : Heap} (ids : List Nat) (hl : ids.length = css.length) (hids : ∀ (k : Nat) (cs : List Value), css[k]? = some cs -> ∃ id own z, ids[k]? = some id /\ H[id]? = some (KObj.cells own z (cs.map (rn (sgR P.globals.size ids) 3)))) (h3 : rnOk 3 v = true := by rfl) (h4 : ∀ σ, rn σ 3 v = v := by intro σ; rfl) :
  KCall P f (args.map (rn (sgR P.globals.size ids) 3)) H [] (Is v H) := by
 have h1 : KCall P f args (readsT P.globals.size css).list [] (Is v ((readsT P.globals.size css).list ++ [])) := by
  have := KCall.clean (vc hmask hmix n (Q := fun v' _ => v' = v) hc) hv
  simpa using this
 have := KCall.reads (reads_ofA hids hl) h1 h3 (h4 _) rfl rfl
 rw [h4] at this
 simpa using this
end
end Go.K
/- Arguments that are read: lists within lists by their values. No condition. -/
namespace Go.K
set_option linter.unusedSimpArgs false
open Go Go.RowKit Go.ChangeAt Go.WideShapes
set_option linter.unusedVariables false
variable {P : Program} {HH : Type} {enc : TypeId × Value -> HH}
def GoodD (P : Program) : Nat -> TypeId -> List Value -> Prop
 | 0, _, _ => False
 | n + 1, t, cs => match P.underlying t with
  | some .bool => ∃ b, cs = [.bool b]
  | some (.int k) => ∃ x, cs = [.int k x] /\ k.min <= x /\ x <= k.max
  | some .string => ∃ s, cs = [.string s]
  | some (.struct fs) => GoodL (GoodD P n) (fs.toList.map (·.type)) cs
  | some (.slice e) => ∃ len ds, cs = [.iface (len + 1) (.agg ⟨ds⟩)] /\ ds.length = len * P.cellsOf e /\ len <= maxLen /\ GoodL (GoodD P n) (List.replicate len e) ds
  | some (.array k e) => GoodL (GoodD P n) (List.replicate k e) cs
  | _ => False
def Good2 (P : Program) (H : Heap) : Nat -> TypeId -> List Value -> Prop
 | 0, _, _ => False
 | n + 1, t, cs => match P.underlying t with
  | some .bool => ∃ b, cs = [.bool b]
  | some (.int k) => ∃ x, cs = [.int k x] /\ k.min <= x /\ x <= k.max
  | some .string => ∃ s, cs = [.string s]
  | some (.struct fs) => GoodL (Good2 P H n) (fs.toList.map (·.type)) cs
  | some (.slice e) => cs = [.slice none 0 0] ∨ cs = [.slice (some ⟨0, 0, some 0⟩) 0 0] ∨
    ∃ id len ds, cs = [.slice (some ⟨id, 0, none⟩) len len] /\ H[id]? = some (.cells false 0 ds) /\ ds.length = len * P.cellsOf e /\ len <= maxLen /\ GoodL (GoodD P n) (List.replicate len e) ds
  | some (.array k e) => GoodL (Good2 P H n) (List.replicate k e) cs
  | _ => False
theorem Good2.mono {H K : Heap} : ∀ {n : Nat} {t : TypeId} {cs : List Value}, Good2 P H n t cs -> Good2 P (H ++ K) n t cs := by
 intro n
 induction n with
 | zero => intro t cs h; exact h
 | succ n ih =>
  intro t cs h
  unfold Good2 at h ⊢
  split at h
  ·exact h
  ·exact h
  ·exact h
  ·exact GoodL.mono (fun _ _ => ih) h
  ·rcases h with h | h | ⟨id, len, cs', h1, h2, h3, h4, h5⟩
   ·exact .inl h
   ·exact .inr (.inl h)
   ·exact .inr (.inr ⟨id, len, cs', h1, by rw [List.getElem?_append_left (List.getElem?_eq_some_iff.1 h2).1]; exact h2, h3, h4, h5⟩)
  ·exact GoodL.mono (fun _ _ => ih) h
  ·exact h
def Low (B : Nat) (ρ : Ren) (W : World) : Prop := (∀ b m ty fz, b < B -> W.heap[b]? = some (.cells m ty fz) -> ρ.mem b = some m) /\ ∀ id r, ρ id = some r -> r.b < B
theorem deepenL {B : Nat} {ρ : Ren} {H : Heap} {W : World} {n : Nat} (IH : ∀ (t : TypeId) (cs cs' : List Value), Good P H n t cs -> VRl ρ cs cs' -> ∃ ds, VRl ρ ds cs' /\ GoodD P n t ds) :
  ∀ (ts : List TypeId) (cs cs' : List Value), GoodL (Good P H n) ts cs -> VRl ρ cs cs' -> ∃ ds, VRl ρ ds cs' /\ GoodL (GoodD P n) ts ds := by
 intro ts
 induction ts with
 | nil => intro cs cs' h hv; rw [show cs = [] from h] at hv; exact ⟨[], hv, rfl⟩
 | cons t ts ih =>
  rintro cs cs' ⟨c, rest, rfl, h1, h2⟩ hv
  have hl : (c ++ rest).length = cs'.length := hv.1
  rw [List.length_append] at hl
  have v1 : VRl ρ c (cs'.take c.length) := ⟨by rw [List.length_take]; omega, fun i v v' a b => by
   have hi := (List.getElem?_eq_some_iff.1 a).1
   rw [List.getElem?_take, if_pos hi] at b
   exact hv.2 i v v' (by rw [List.getElem?_append_left hi]; exact a) b⟩
  have v2 : VRl ρ rest (cs'.drop c.length) := ⟨by rw [List.length_drop]; omega, fun i v v' a b => by
   rw [List.getElem?_drop] at b
   exact hv.2 (c.length + i) v v' (by rw [List.getElem?_append_right (by omega), Nat.add_sub_cancel_left]; exact a) b⟩
  obtain ⟨d1, w1, g1⟩ := IH t c _ h1 v1
  obtain ⟨d2, w2, g2⟩ := ih rest _ h2 v2
  refine ⟨d1 ++ d2, ?_, d1, d2, rfl, g1, g2⟩
  have := VRl.append w1 w2
  rw [List.take_append_drop] at this
  exact this
theorem row_reals {ρ : Ren} {r : RI} {cs : List Value} {W : World} (h : ObjRel ρ r (.cells false 0 cs) W) : ∃ m ty fz, W.heap[r.b]? = some (.cells m ty fz) /\ (cs.length = 0 ∨ cs.length + r.s <= m.size) /\ VRl ρ cs ((m.toList.drop r.s).take cs.length) /\ m.size = r.n := by
 obtain ⟨_, _, m, ty, fz, hb, hsz, _, hcs⟩ := h
 have hle : cs.length = 0 ∨ cs.length + r.s <= m.size := by
  rcases Nat.eq_zero_or_pos cs.length with h0 | h0
  ·exact .inl h0
  ·right
   obtain ⟨v', g1, _⟩ := hcs (cs.length - 1) _ (List.getElem?_eq_getElem (by omega))
   have := (Array.getElem?_eq_some_iff.1 g1).1
   omega
 refine ⟨m, ty, fz, hb, hle, ⟨?_, fun i v v' a b => ?_⟩, hsz⟩
 ·have e : m.toList.length = m.size := Array.length_toList
  rw [List.length_take, List.length_drop, e]
  rcases hle with h | h <;> omega
 ·obtain ⟨v2, g1, g2⟩ := hcs i v a
  have hi := (List.getElem?_eq_some_iff.1 a).1
  rw [List.getElem?_take, if_pos hi, List.getElem?_drop, Array.getElem?_toList, Nat.add_comm, g1] at b
  cases b; exact g2
theorem deepen {B : Nat} {ρ : Ren} {H : Heap} {W : World} (hr : Rel P B ρ H W) (hlow : Low B ρ W) : ∀ (n : Nat) (t : TypeId) (cs cs' : List Value), Good P H n t cs -> VRl ρ cs cs' -> ∃ ds, VRl ρ ds cs' /\ GoodD P n t ds := by
 intro n
 induction n with
 | zero => intro t cs cs' h; exact h.elim
 | succ n ih =>
  intro t cs cs' h hv
  have single : ∀ v, cs = [v] -> ∃ x, cs' = [x] /\ VR ρ v x := by
   rintro v rfl
   have hl : cs'.length = 1 := hv.1.symm
   obtain ⟨x, rfl⟩ := List.length_eq_one_iff.1 hl
   exact ⟨x, rfl, hv.2 0 v x rfl rfl⟩
  unfold Good at h
  split at h
  ·rename_i hu; exact ⟨cs, hv, by unfold GoodD; rw [hu]; exact h⟩
  ·rename_i k hu; exact ⟨cs, hv, by unfold GoodD; rw [hu]; exact h⟩
  ·rename_i hu; exact ⟨cs, hv, by unfold GoodD; rw [hu]; exact h⟩
  ·rename_i fs hu
   obtain ⟨ds, w, g⟩ := deepenL (B := B) (W := W) ih _ cs cs' h hv
   exact ⟨ds, w, by unfold GoodD; rw [hu]; exact g⟩
  ·rename_i e hu
   have nilD : ∀ x, (∃ a c, x = .slice a 0 c) -> ∃ ds, VRl ρ ds [x] /\ GoodD P (n + 1) t ds := by
    rintro x ⟨a, c, rfl⟩
    refine ⟨[.iface 1 (.agg ⟨[]⟩)], .cons .deep0 (.nil ρ), ?_⟩
    unfold GoodD
    rw [hu]
    exact ⟨0, [], rfl, by simp, by simp [maxLen], rfl⟩
   rcases h with h | h | ⟨id, len, csi, h1, h2, h3, h4, h5⟩
   ·obtain ⟨x, rfl, hx⟩ := single _ h
    cases hx; exact nilD _ ⟨_, _, rfl⟩
   ·obtain ⟨x, rfl, hx⟩ := single _ h
    refine nilD _ ?_
    generalize hz : (Value.slice (some ⟨0, 0, some 0⟩) 0 0) = z at hx
    cases hx <;> cases hz
    exact ⟨_, _, rfl⟩
   ·obtain ⟨x, rfl, hx⟩ := single _ h1
    rcases Nat.eq_zero_or_pos len with h0 | h0
    ·subst h0
     refine nilD _ ?_
     cases hx with
     | slice h hl hc _ => exact ⟨_, _, rfl⟩
     | slice0 h => exact ⟨_, _, rfl⟩
    ·obtain ⟨r, cap', hid, hc, rfl⟩ : ∃ r cap', ρ id = some r /\ len <= cap' /\ x = .slice (some ⟨r.b, 0 + r.s, none⟩) len cap' := by
      generalize hz : (Value.slice (some ⟨id, 0, none⟩) len len) = z at hx
      cases hx <;> cases hz
      ·exact ⟨_, _, ‹_›, by omega, rfl⟩
      ·exact absurd h0 (Nat.lt_irrefl 0)
     obtain ⟨m, ty, fz, hb, hle, hvr, _⟩ := row_reals (hr.obj id r _ hid h2)
     have hm := hlow.1 r.b m ty fz (hlow.2 id r hid) hb
     obtain ⟨ds, w, g⟩ := deepenL (B := B) (W := W) ih _ csi _ h5 hvr
     have hdl : ds.length = csi.length := by
      have e1 := w.1
      have e2 := hvr.1
      omega
     refine ⟨[.iface (len + 1) (.agg ⟨ds⟩)], .cons ?_ (.nil ρ), ?_⟩
     ·rw [Nat.zero_add]
      refine .deep hm h0 hc (by show ds.length = 0 ∨ ds.length + r.s <= m.size; rw [hdl]; exact hle) (fun i v v' a b => ?_)
      have hi : i < ds.length := by have := (Array.getElem?_eq_some_iff.1 a).1; simpa using this
      refine w.2 i v v' (by simpa using a) ?_
      rw [List.getElem?_take, if_pos (by omega), List.getElem?_drop, Array.getElem?_toList, Nat.add_comm]; exact b
     ·unfold GoodD
      rw [hu]
      exact ⟨len, ds, rfl, by rw [hdl]; exact h3, h4, g⟩
  ·rename_i k e hu
   obtain ⟨ds, w, g⟩ := deepenL (B := B) (W := W) ih _ cs cs' h hv
   exact ⟨ds, w, by unfold GoodD; rw [hu]; exact g⟩
  ·exact h.elim
theorem Low.set {B : Nat} {ρ : Ren} {W : World} (h : Low B ρ W) {id : Nat} {ri : RI} (hb : ri.b < B) : Low B (ρ.set id ri) W := by
 refine ⟨h.1, fun i r hi => ?_⟩
 by_cases e : i = id
 ·subst e; rw [Ren.set_same] at hi; cases hi; exact hb
 ·rw [Ren.set_other e] at hi; exact h.2 i r hi
theorem bring2L {B : Nat} {W : World} {n : Nat} {H0 : Heap} (IH : ∀ (t : TypeId) (cs cs' : List Value) (ρ : Ren) (H : Heap), Good P H n t cs -> VRl ρ cs cs' -> Rel P B ρ H W -> Low B ρ W -> ∃ ρ' H' ds, Ext P B W ρ H ρ' H' /\ Low B ρ' W /\ VRl ρ' ds cs' /\ Good2 P H' n t ds) :
  ∀ (ts : List TypeId) (cs cs' : List Value) (ρ : Ren) (H : Heap), GoodL (Good P H n) ts cs -> VRl ρ cs cs' -> Rel P B ρ H W -> Low B ρ W -> ∃ ρ' H' ds, Ext P B W ρ H ρ' H' /\ Low B ρ' W /\ VRl ρ' ds cs' /\ GoodL (Good2 P H' n) ts ds := by
 intro ts
 induction ts with
 | nil => intro cs cs' ρ H h hv hr hl; rw [show cs = [] from h] at hv; exact ⟨ρ, H, [], Ext.refl hr, hl, hv, rfl⟩
 | cons t ts ih =>
  rintro cs cs' ρ H ⟨c, rest, rfl, h1, h2⟩ hv hr hlow
  have hl : (c ++ rest).length = cs'.length := hv.1
  rw [List.length_append] at hl
  have v1 : VRl ρ c (cs'.take c.length) := ⟨by rw [List.length_take]; omega, fun i v v' a b => by
   have hi := (List.getElem?_eq_some_iff.1 a).1
   rw [List.getElem?_take, if_pos hi] at b
   exact hv.2 i v v' (by rw [List.getElem?_append_left hi]; exact a) b⟩
  have v2 : VRl ρ rest (cs'.drop c.length) := ⟨by rw [List.length_drop]; omega, fun i v v' a b => by
   rw [List.getElem?_drop] at b
   exact hv.2 (c.length + i) v v' (by rw [List.getElem?_append_right (by omega), Nat.add_sub_cancel_left]; exact a) b⟩
  obtain ⟨ρ1, H1, d1, x1, l1, w1, g1⟩ := IH t c _ ρ H h1 v1 hr hlow
  obtain ⟨K1, rfl⟩ := x1.pre
  obtain ⟨ρ2, H2, d2, x2, l2, w2, g2⟩ := ih rest _ ρ1 _ (GoodL.mono (fun _ _ => Good.mono) h2) (v2.mono x1.le) x1.rel l1
  refine ⟨ρ2, H2, d1 ++ d2, x1.trans x2, l2, ?_, d1, d2, rfl, ?_, g2⟩
  ·have := VRl.append (w1.mono x2.le) w2
   rw [List.take_append_drop] at this
   exact this
  ·obtain ⟨K2, rfl⟩ := x2.pre
   exact g1.mono
theorem bring2 {B : Nat} {W : World} (hbase : B = W.heap.size) : ∀ (n : Nat) (t : TypeId) (cs cs' : List Value) (ρ : Ren) (H : Heap), Good P H n t cs -> VRl ρ cs cs' -> Rel P B ρ H W -> Low B ρ W -> ∃ ρ' H' ds, Ext P B W ρ H ρ' H' /\ Low B ρ' W /\ VRl ρ' ds cs' /\ Good2 P H' n t ds := by
 intro n
 induction n with
 | zero => intro t cs cs' ρ H h; exact h.elim
 | succ n ih =>
  intro t cs cs' ρ H h hv hr hlow
  unfold Good at h
  split at h
  ·rename_i hu; exact ⟨ρ, H, cs, Ext.refl hr, hlow, hv, by unfold Good2; rw [hu]; exact h⟩
  ·rename_i k hu; exact ⟨ρ, H, cs, Ext.refl hr, hlow, hv, by unfold Good2; rw [hu]; exact h⟩
  ·rename_i hu; exact ⟨ρ, H, cs, Ext.refl hr, hlow, hv, by unfold Good2; rw [hu]; exact h⟩
  ·rename_i fs hu
   obtain ⟨ρ', H', ds, x, l, w, g⟩ := bring2L (H0 := H) ih _ cs cs' ρ H h hv hr hlow
   exact ⟨ρ', H', ds, x, l, w, by unfold Good2; rw [hu]; exact g⟩
  ·rename_i e hu
   rcases h with h | h | ⟨id, len, csi, h1, h2, h3, h4, h5⟩
   ·exact ⟨ρ, H, cs, Ext.refl hr, hlow, hv, by unfold Good2; rw [hu]; exact .inl h⟩
   ·exact ⟨ρ, H, cs, Ext.refl hr, hlow, hv, by unfold Good2; rw [hu]; exact .inr (.inl h)⟩
   ·subst h1
    have hl1 : cs'.length = 1 := hv.1.symm
    obtain ⟨x, rfl⟩ := List.length_eq_one_iff.1 hl1
    have hx := hv.2 0 _ x rfl rfl
    have hid : ∃ r, ρ id = some r := by
     generalize hz : (Value.slice (some ⟨id, 0, none⟩) len len) = z at hx
     cases hx <;> cases hz <;> exact ⟨_, ‹_›⟩
    obtain ⟨r, hid⟩ := hid
    obtain ⟨m, ty, fz, hb, hle, hvr, hsz⟩ := row_reals (hr.obj id r _ hid h2)
    obtain ⟨ds, w, g⟩ := deepenL (B := B) (W := W) (deepen hr hlow n) _ csi _ h5 hvr
    have hdl : ds.length = csi.length := by
     have e1 := w.1
     have e2 := hvr.1
     omega
    have hrb := hlow.2 id r hid
    have x2 := Ext.row (P := P) hr (ri := ⟨r.b, r.s, m.size, 0, false⟩) (cs := ds) rfl rfl (by rw [<- hbase]; exact hrb) hrb ⟨m, ty, fz, hb, rfl, fun i v hv => by
     have hi := (List.getElem?_eq_some_iff.1 hv).1
     have hlen : i < ((m.toList.drop r.s).take csi.length).length := by rw [<- w.1]; exact hi
     have hg := List.getElem?_eq_getElem hlen
     refine ⟨_, ?_, w.2 i v _ hv hg⟩
     rw [<- hg, List.getElem?_take, if_pos (by omega), List.getElem?_drop, Array.getElem?_toList, Nat.add_comm]⟩
    refine ⟨_, _, [.slice (some ⟨H.length, 0, none⟩) len len], x2, hlow.set hrb, .cons ?_ (.nil _), ?_⟩
    ·generalize hz : (Value.slice (some ⟨id, 0, none⟩) len len) = z at hx
     cases hx <;> cases hz
     ·rename_i r' cap' h' _ hc _
      rw [hid] at h'; cases h'
      exact VR.slice (ρ := ρ.set H.length ⟨r.b, r.s, m.size, 0, false⟩) (id := H.length) (o := 0) (r := ⟨r.b, r.s, m.size, 0, false⟩) (Ren.set_same ..) (Nat.le_refl _) hc (fun h => by cases h)
     ·rename_i r' o' h'
      rw [hid] at h'; cases h'
      exact VR.slice0 (r := ⟨r.b, r.s, m.size, 0, false⟩) (Ren.set_same ..)
    ·unfold Good2
     rw [hu]
     exact .inr (.inr ⟨H.length, len, ds, rfl, by simp, by rw [hdl]; exact h3, h4, g⟩)
  ·rename_i k e hu
   obtain ⟨ρ', H', ds, x, l, w, g⟩ := bring2L (H0 := H) ih _ cs cs' ρ H h hv hr hlow
   exact ⟨ρ', H', ds, x, l, w, by unfold Good2; rw [hu]; exact g⟩
  ·exact h.elim
def GoodV2 (P : Program) (H : Heap) (n : Nat) (t : TypeId) (v : Value) : Prop :=
 match P.underlying t with
 | some (.struct _) => ∃ cs : List Value, v = .agg ⟨cs⟩ /\ Good2 P H n t cs
 | _ => Good2 P H n t [v]
def GoodA2 (P : Program) (H : Heap) (n : Nat) : List TypeId -> List Value -> Prop
 | [], [] => True
 | t :: ts, v :: vs => GoodV2 P H n t v /\ GoodA2 P H n ts vs
 | _, _ => False
theorem GoodV2.mono {H K : Heap} {n : Nat} {t : TypeId} {v : Value} (h : GoodV2 P H n t v) : GoodV2 P (H ++ K) n t v := by
 unfold GoodV2 at h ⊢
 split at h
 ·obtain ⟨cs, h1, h2⟩ := h; exact ⟨cs, h1, h2.mono⟩
 ·exact h.mono
theorem bringV2 {B : Nat} {W : World} (hbase : B = W.heap.size) {n : Nat} {t : TypeId} {v v' : Value} {ρ : Ren} {H : Heap} (h : GoodV P H n t v) (hv : VR ρ v v') (hr : Rel P B ρ H W) (hlow : Low B ρ W) :
  ∃ ρ' H' v2, Ext P B W ρ H ρ' H' /\ Low B ρ' W /\ VR ρ' v2 v' /\ GoodV2 P H' n t v2 := by
 unfold GoodV at h
 split at h
 ·rename_i fs hu
  obtain ⟨cs, rfl, h⟩ := h
  cases hv with
  | @agg _ cs' h1 h2 =>
   obtain ⟨ρ', H', ds, x, l, w, g⟩ := bring2 hbase n t cs cs'.toList ρ H h ⟨by simpa using h1, fun i a b c d => h2 i a b (by simpa using c) (by simpa using d)⟩ hr hlow
   refine ⟨ρ', H', .agg ⟨ds⟩, x, l, .agg (by have := w.1; simpa using this) (fun i a b c d => w.2 i a b (by simpa using c) (by simpa using d)), ?_⟩
   unfold GoodV2; rw [hu]; exact ⟨ds, rfl, g⟩
 ·rename_i hns
  obtain ⟨ρ', H', ds, x, l, w, g⟩ := bring2 hbase n t [v] [v'] ρ H h (.cons hv (.nil ρ)) hr hlow
  have hl : ds.length = 1 := w.1
  obtain ⟨v2, rfl⟩ := List.length_eq_one_iff.1 hl
  refine ⟨ρ', H', v2, x, l, w.2 0 v2 v' rfl rfl, ?_⟩
  unfold GoodV2
  split
  ·rename_i fs hu; exact absurd hu (hns fs)
  ·exact g
theorem bringA2 {B : Nat} {W : World} (hbase : B = W.heap.size) {n : Nat} : ∀ (ts : List TypeId) (vs vs' : List Value) (ρ : Ren) (H : Heap), GoodA P H n ts vs -> VRl ρ vs vs' -> Rel P B ρ H W -> Low B ρ W ->
  ∃ ρ' H' ws, Ext P B W ρ H ρ' H' /\ Low B ρ' W /\ VRl ρ' ws vs' /\ GoodA2 P H' n ts ws := by
 intro ts
 induction ts with
 | nil =>
  intro vs vs' ρ H h hv hr hl
  match vs, h with
  | [], _ => exact ⟨ρ, H, [], Ext.refl hr, hl, hv, trivial⟩
 | cons t ts ih =>
  intro vs vs' ρ H h hv hr hl
  match vs, h with
  | v :: vs, ⟨h1, h2⟩ =>
   match vs', hv with
   | [], hv => exact absurd hv.1 (by simp)
   | v' :: vs', hv =>
    obtain ⟨ρ1, H1, w1, x1, l1, r1, g1⟩ := bringV2 hbase h1 (hv.2 0 v v' rfl rfl) hr hl
    obtain ⟨K1, rfl⟩ := x1.pre
    have hA : ∀ {ts : List TypeId} {vs : List Value}, GoodA P H n ts vs -> GoodA P (H ++ K1) n ts vs := by
     intro ts
     induction ts with
     | nil => intro vs h; match vs, h with | [], _ => trivial
     | cons t ts ih => intro vs h; match vs, h with | v :: vs, ⟨a, b⟩ => exact ⟨a.mono, ih b⟩
    obtain ⟨ρ2, H2, ws, x2, l2, r2, g2⟩ := ih vs vs' ρ1 _ (hA h2) ((show VRl ρ vs vs' from ⟨by have := hv.1; simpa using this, fun i a b c d => hv.2 (i + 1) a b (by simpa using c) (by simpa using d)⟩).mono x1.le) x1.rel l1
    obtain ⟨K2, rfl⟩ := x2.pre
    exact ⟨ρ2, _, w1 :: ws, x1.trans x2, l2, .cons (r1.mono x2.le) r2, g1.mono, g2⟩
theorem law_calls2 {N n b0 : Nat} {ts : List TypeId} {args : Array Value} {W : World} {ds : List (DataW HH)} {ps : List MemPlace} {held : Bool} (hG : P.globals.size <= W.heap.size) (hplain : ts.all (topT P n) = true)
  (hok : ∀ (j : Nat) (t : TypeId) (v : Value), ts[j]? = some t -> args.toList[j]? = some v -> Value.okWide P W .any b0 t v) (h : DataW.TrodAll enc P W 0 (fun _ => true) held ts args.toList ds ps)
  (hlaw : ∀ (H : Heap) (vs : List Value), GoodA2 P H n ts vs -> KCall P N vs H [] (fun v _ => v = .bool true)) :
  Calls P N args W fun e W' => e = .returned (.bool true) /\ RowKit.Below W.heap.size W W' := by
 have hr : Rel P W.heap.size ⟨fun g => if g < P.globals.size then some ⟨g, 0, 0, 0, false⟩ else none, fun b => match W.heap[b]? with | some (.cells m _ _) => some m | _ => none, fun _ _ => none⟩ (List.replicate P.globals.size .dead) W := by
  have hdead : ∀ (id : Nat) (o : KObj), (List.replicate P.globals.size KObj.dead)[id]? = some o -> o = .dead := fun id o ho => by
   rw [List.getElem?_replicate] at ho
   split at ho
   ·cases ho; rfl
   ·cases ho
  refine ⟨Nat.le_refl _, fun g hg => ⟨_, if_pos hg, rfl, rfl⟩, fun id r h1 => ?_, fun id r h1 => ?_, fun id r o h1 h2 => ?_, fun id r o h1 h2 h3 => ?_, fun id id' r r' o o' h1 h1' h2 h2' h3 _ _ => ?_, fun b m hm => ⟨?_, fun id r o h1 h2 h3 => ?_⟩, FRel.nofam (fun _ _ _ h => by cases h) (fun _ _ _ h => by cases h) (fun F z cs h => by have := hdead F _ h; cases this)⟩
  ·dsimp only at h1
   split at h1
   ·simpa using ‹id < _›
   ·cases h1
  ·dsimp only at h1
   split at h1
   ·cases h1; exact Nat.lt_of_lt_of_le ‹id < _› hG
   ·cases h1
  ·rw [hdead id o h2]; trivial
  ·rw [hdead id o h2] at h3; cases h3
  ·rw [hdead id o h2] at h3; cases h3
  ·dsimp only at hm
   split at hm
   ·rename_i m' ty fz e; cases hm; exact ⟨ty, fz, e⟩
   ·cases hm
  ·rw [hdead id o h2] at h3; cases h3
 have hlow0 : Low W.heap.size ⟨fun g => if g < P.globals.size then some ⟨g, 0, 0, 0, false⟩ else none, fun b => match W.heap[b]? with | some (.cells m _ _) => some m | _ => none, fun _ _ => none⟩ W := by
  refine ⟨fun b m ty fz _ hb => by show (match W.heap[b]? with | some (.cells m _ _) => some m | _ => none) = _; rw [hb], fun id r h1 => ?_⟩
  dsimp only at h1
  split at h1
  ·cases h1; exact Nat.lt_of_lt_of_le ‹id < _› hG
  ·cases h1
 obtain ⟨ρ', H', vs', e, hv, g⟩ := bring_args rfl ts args.toList ds ps _ _ hplain hok h hr
 have hlow1 : Low W.heap.size ρ' W := ⟨fun b m ty fz h1 h2 => e.le.mem b m (hlow0.1 b m ty fz h1 h2), fun id r h1 => e.rel.lt id r h1⟩
 obtain ⟨ρ2, H2, ws, e2, _, hv2, g2⟩ := bringA2 rfl ts vs' args.toList ρ' H' g hv e.rel hlow1
 refine callsIn_wide.1 (((hlaw H2 ws g2).2 _ ρ2 W args e2.rel hv2).mono ?_)
 rintro en w' ⟨v, v', ρ3, H3, rfl, h1, h2, rfl⟩
 cases h1
 exact ⟨rfl, h2.below e2.rel⟩
end Go.K
/- A contract over blocks that are read is one over lists said by their values. No condition. -/
namespace Go.K
set_option linter.unusedSimpArgs false
open Go
set_option linter.unusedVariables false
noncomputable section
variable {P : Program}
theorem VRl.inv {ρ : Ren} {v : Value} {l : List Value} {m : List Value} (h : VRl ρ (v :: l) m) : ∃ x l', m = x :: l' /\ VR ρ v x /\ VRl ρ l l' := by
 cases m with
 | nil => exact absurd h.1 (by simp)
 | cons x l' => exact ⟨x, l', rfl, h.2 0 v x rfl rfl, by have := h.1; simpa using this, fun i a b c d => h.2 (i + 1) a b (by simpa using c) (by simpa using d)⟩
def ThawA (P : Program) (base : Nat) (H : Heap) (args args2 : List Value) (gs : Heap) : Prop :=
 ∀ (B : Nat) (ρ : Ren) (w : World) (xs : List Value), Rel P B ρ H w -> base <= H.length -> VRl ρ args xs -> ∃ ρ1, Post P B base [] ρ H w ρ1 (H ++ gs) w /\ VRl ρ1 args2 xs
theorem ThawA.nil {base : Nat} {H : Heap} : ThawA P base H [] [] [] := fun B ρ w xs hr hb hv => ⟨ρ, by rw [List.append_nil]; exact Post.refl hr, hv⟩
theorem ThawA.keep {base : Nat} {H : Heap} {a : Value} {as1 bs : List Value} {gs : Heap} (h : ThawA P base H as1 bs gs) : ThawA P base H (a :: as1) (a :: bs) gs := by
 intro B ρ w xs hr hb hv
 obtain ⟨x, l, rfl, h1, h2⟩ := hv.inv
 obtain ⟨ρ1, p, h3⟩ := h B ρ w l hr hb h2
 exact ⟨ρ1, p, .cons (h1.mono p.ext) h3⟩
theorem ThawA.deep {base n : Nat} {H : Heap} {cs : List Value} {as1 bs : List Value} {gs : Heap} (h : ThawA P base (H ++ [.cells false 0 cs]) as1 bs gs) :
  ThawA P base H (.iface (n + 1) (.agg ⟨cs⟩) :: as1) (.slice (some ⟨H.length, 0, some 2⟩) n n :: bs) (.cells false 0 cs :: gs) := by
 intro B ρ w xs hr hb hv
 obtain ⟨x, l, rfl, h1, h2⟩ := hv.inv
 obtain ⟨ρ1, p, h3⟩ := VR.thaw (base := base) (M := []) hr hb h1
 obtain ⟨ρ2, q, h4⟩ := h B ρ1 w l p.rel (Nat.le_trans hb p.len) (h2.mono p.ext)
 refine ⟨ρ2, ?_, .cons (h3.mono q.ext) h4⟩
 have := p.trans q
 rw [List.append_assoc] at this
 exact this
theorem ThawA.agg {base n i : Nat} {H : Heap} {cs vs : List Value} {as1 bs : List Value} {gs : Heap} (hi : vs[i]? = some (.iface (n + 1) (.agg ⟨cs⟩))) (h : ThawA P base (H ++ [.cells false 0 cs]) as1 bs gs) :
  ThawA P base H (.agg ⟨vs⟩ :: as1) (.agg ⟨vs.set i (.slice (some ⟨H.length, 0, some 2⟩) n n)⟩ :: bs) (.cells false 0 cs :: gs) := by
 intro B ρ w xs hr hb hv
 obtain ⟨x, l, rfl, h1, h2⟩ := hv.inv
 have hl := (List.getElem?_eq_some_iff.1 hi).1
 cases h1 with
 | @agg _ cs' g1 g2 =>
  have hlt : i < cs'.size := by rw [<- g1]; simpa using hl
  obtain ⟨ρ1, p, h3⟩ := VR.thaw (base := base) (M := []) hr hb (g2 i _ _ (by simpa using hi) (Array.getElem?_eq_getElem hlt))
  obtain ⟨ρ2, q, h4⟩ := h B ρ1 w l p.rel (Nat.le_trans hb p.len) (h2.mono p.ext)
  have hpq := p.trans q
  refine ⟨ρ2, ?_, .cons (.agg (by simpa using g1) fun j v v' a b => ?_) h4⟩
  ·rw [List.append_assoc] at hpq; exact hpq
  have a' : (vs.set i (.slice (some ⟨H.length, 0, some 2⟩) n n))[j]? = some v := by simpa using a
  rw [List.getElem?_set] at a'
  split at a'
  ·rename_i e; subst e
   cases a'
   rw [Array.getElem?_eq_getElem hlt] at b; cases b
   exact h3.mono q.ext
  ·exact (g2 j v v' (by simpa using a') b).mono hpq.ext
theorem KCall.thaw {f : FuncId} {args args2 : List Value} {H gs : Heap} {M : List Nat} {Q : Value -> Heap -> Prop} (ht : ThawA P H.length H args args2 gs) (h : KCall P f args2 (H ++ gs) M Q) : KCall P f args H M Q := by
 refine ⟨h.1, fun B ρ w args' hr ha => ?_⟩
 obtain ⟨ρ1, p, hv⟩ := ht B ρ w args'.toList hr (Nat.le_refl _) ha
 refine (h.2 B ρ1 w args' p.rel hv).mono ?_
 rintro e w' ⟨v, v', ρ', H', rfl, h1, h2, h3⟩
 exact ⟨v, v', ρ', H', rfl, h1, (p.weaken (Nat.le_refl _) (fun _ h => by cases h)).trans (h2.weaken (by rw [List.length_append]; omega) (fun _ h _ => h)), h3⟩
def sgDrop (L k n : Nat) (id : Nat) : Option Nat := if id < L then some id else if id < L + n then some (id + k) else none
theorem KCall.drop {f : FuncId} {args : List Value} {H K gs new : Heap} {M : List Nat} {v v2 : Value} {d : Nat} (h : KCall P f args H M (Is v2 (K ++ gs ++ new))) (hK : K.length = H.length) (hs : ∀ id, id < H.length -> id ∉ M -> K[id]? = H[id]?)
  (hM : ∀ id o, id < H.length -> id ∈ M -> K[id]? = some o -> (∃ z cs, o = .cells true z cs) /\ rno (sgDrop H.length gs.length new.length) d o = o) (hv : rn (sgDrop H.length gs.length new.length) d v = v2)
  (hn : new.map (rno (sgDrop H.length gs.length new.length) d) = new) (hc : ∀ o ∈ new, ∃ z cs, o = .cells true z cs) : KCall P f args H M (Is v (K ++ new)) := by
 refine ⟨h.1, fun B ρ w args' hr ha => (h.2 B ρ w args' hr ha).mono ?_⟩
 rintro e w' ⟨v', r, ρ', H', rfl, hv', hp, rfl, rfl⟩
 have he : Emb H M 0 (sgDrop H.length gs.length new.length) d (fun _ => junk) (K ++ new) (fun _ => junk) (K ++ gs ++ new) := by
  refine ⟨by rw [List.length_append]; omega, fun id h => if_pos h, fun id id' h => ?_, fun id1 id2 id' o1 o2 h1 h2 _ _ _ _ => ?_, fun t h => by omega, fun id h h2 => by rw [List.getElem?_append_left (by omega)]; exact hs id h h2, fun id id' o h1 h2 h3 => ?_⟩
  ·unfold sgDrop at h
   rw [List.length_append, hK]
   split at h
   ·omega
   ·split at h
    ·assumption
    ·cases h
  ·unfold sgDrop at h1 h2
   split at h1 <;> split at h2 <;> (try split at h1) <;> (try split at h2) <;> first | (cases h1; done) | (cases h2; done) | (cases h1; cases h2; omega) | (simp only [Option.some.injEq] at h1 h2; omega)
  ·by_cases hlt : id < H.length
   ·rcases h2 with h2 | h2
    ·omega
    ·have e1 : sgDrop H.length gs.length new.length id = some id := if_pos hlt
     rw [e1] at h1; cases h1
     rw [List.getElem?_append_left (by omega)] at h3
     obtain ⟨⟨z, cs, rfl⟩, h5⟩ := hM id o hlt h2 h3
     refine .inr ⟨.cells true z cs, ?_, rfl, rfl, fun ρ1 ρ2 r1 w1 hle hob => ?_, fun z2 cs2 e => by cases e⟩
     ·rw [List.append_assoc, List.getElem?_append_left (by omega)]; exact h3
     ·refine rno_rel (d := d) hle.1 hle.2 hle.3 (o := .cells true z cs) ?_ (fun q => by rw [h5] at q; cases q)
      rw [h5]; exact hob
   ·unfold sgDrop at h1
    rw [if_neg hlt] at h1
    split at h1
    ·rename_i hl2
     cases h1
     rw [List.getElem?_append_right (by omega), hK] at h3
     have ho := List.mem_of_getElem? h3
     obtain ⟨z, cs, rfl⟩ := hc o ho
     have h4 : (new.map (rno (sgDrop H.length gs.length new.length) d))[id - H.length]? = some (rno (sgDrop H.length gs.length new.length) d (.cells true z cs)) := by rw [List.getElem?_map, h3]; rfl
     rw [hn, h3] at h4
     have h5 : rno (sgDrop H.length gs.length new.length) d (.cells true z cs) = .cells true z cs := (Option.some.inj h4).symm
     refine .inr ⟨.cells true z cs, ?_, rfl, rfl, fun ρ1 ρ2 r1 w1 hle hob => ?_, fun z2 cs2 e => by cases e⟩
     ·rw [List.getElem?_append_right (by rw [List.length_append]; omega), List.length_append, hK, show id + gs.length - (H.length + gs.length) = id - H.length by omega]; exact h3
     ·refine rno_rel (d := d) hle.1 hle.2 hle.3 (o := .cells true z cs) ?_ (fun q => by rw [h5] at q; cases q)
      rw [h5]; exact hob
    ·cases h1
 obtain ⟨q1, _⟩ := he.post hr hp
 refine ⟨v, r, renBy ρ' (sgDrop H.length gs.length new.length), _, rfl, ?_, q1, rfl, rfl⟩
 have hσ : ∀ id id' r, sgDrop H.length gs.length new.length id = some id' -> ρ' id' = some r -> (renBy ρ' (sgDrop H.length gs.length new.length)) id = some r := fun id id' r h1 h2 => by show Option.bind _ _ = _; rw [h1]; exact h2
 refine rn_VR (ρ' := ρ') (ρ := renBy ρ' (sgDrop H.length gs.length new.length)) hσ (fun _ _ h => h) (fun F F' k r h1 h2 => by show Option.bind _ _ = _; rw [h1]; exact h2) d ?_
 rw [hv]; exact hv'
end
end Go.K
/- Functions that write one block that holds numbers and values alone, and read others: their contracts in every memory. No condition. -/
namespace Go.K
set_option linter.unusedSimpArgs false
open Go
set_option linter.unusedVariables false
noncomputable section
variable {P : Program}
theorem rn_VRw {ρ ρ' : Ren} {σ : Nat -> Option Nat} (hσ : ∀ id id' r, σ id = some id' -> ρ' id' = some r -> ∃ r', ρ id = some r' /\ r'.b = r.b /\ r'.s = r.s /\ (r'.own = false ∨ r' = r)) (hm : ∀ b m, ρ'.mem b = some m -> ρ.mem b = some m) (hg : ∀ F F' k r, σ F = some F' -> ρ'.g F' k = some r -> ρ.g F k = some r) : ∀ (d : Nat) {v r : Value}, VR ρ' (rn σ d v) r -> VR ρ v r := by
 intro d
 induction d with
 | zero => intro v r h; exact (VR.bad h).elim
 | succ d ih =>
  have ptr : ∀ {id id' off : Nat} {r : RI}, σ id = some id' -> ρ' id' = some r -> VR ρ (.pointer (some ⟨id, off, none⟩)) (.pointer (some ⟨r.b, off + r.s, none⟩)) := by
   intro id id' off r g k
   obtain ⟨r', a1, a2, a3, _⟩ := hσ _ _ _ g k
   rw [<- a2, <- a3]; exact .ptr a1
  have slc : ∀ {id id' off len cap cap' : Nat} {r : RI}, σ id = some id' -> ρ' id' = some r -> len <= cap -> cap <= cap' -> (r.own = true -> r.z ≠ 0 -> off + r.s + cap' * r.z <= r.n) -> VR ρ (.slice (some ⟨id, off, none⟩) len cap) (.slice (some ⟨r.b, off + r.s, none⟩) len cap') := by
   intro id id' off len cap cap' r g k hl hc ho
   obtain ⟨r', a1, a2, a3, a4⟩ := hσ _ _ _ g k
   rcases a4 with a4 | rfl
   ·rw [<- a2, <- a3]; exact .slice a1 hl hc (fun h => by rw [a4] at h; cases h)
   ·exact .slice a1 hl hc ho
  have slQ : ∀ {id id' off len cap cap' : Nat} {r : RI}, σ id = some id' -> ρ' id' = some r -> 0 < len -> len <= cap -> cap <= cap' -> (r.own = true -> r.z ≠ 0 -> off + r.s + cap' * r.z <= r.n) -> VR ρ (.slice (some ⟨id, off, some 1⟩) len cap) (.slice (some ⟨r.b, off + r.s, none⟩) len cap') := by
   intro id id' off len cap cap' r g k hp hl hc ho
   obtain ⟨r', a1, a2, a3, a4⟩ := hσ _ _ _ g k
   rcases a4 with a4 | rfl
   ·rw [<- a2, <- a3]; exact .sliceQ a1 hp hl hc (fun h => by rw [a4] at h; cases h)
   ·exact .sliceQ a1 hp hl hc ho
  have slR : ∀ {id id' off len cap cap' : Nat} {r : RI}, σ id = some id' -> ρ' id' = some r -> 0 < len -> len <= cap -> cap <= cap' -> (r.own = true -> r.z ≠ 0 -> off + r.s + cap' * r.z <= r.n) -> VR ρ (.slice (some ⟨id, off, some 2⟩) len cap) (.slice (some ⟨r.b, off + r.s, none⟩) len cap') := by
   intro id id' off len cap cap' r g k hp hl hc ho
   obtain ⟨r', a1, a2, a3, a4⟩ := hσ _ _ _ g k
   rcases a4 with a4 | rfl
   ·rw [<- a2, <- a3]; exact .sliceR a1 hp hl hc (fun h => by rw [a4] at h; cases h)
   ·exact .sliceR a1 hp hl hc ho
  intro v r h
  unfold rn at h
  split at h
  ·split at h
   ·rename_i g; cases h with | ptr k => exact ptr g k
   ·exact (VR.bad h).elim
  ·split at h
   ·rename_i g; cases h with | fptr k => exact .fptr (hg _ _ _ _ g k)
   ·exact (VR.bad h).elim
  ·split at h
   ·rename_i g
    cases h with
    | slice k hl hc ho => exact slc g k hl hc ho
    | slice0 k => obtain ⟨r', a1, a2, a3, _⟩ := hσ _ _ _ g k; rw [<- a2]; exact .slice0 a1
   ·exact (VR.bad h).elim
  ·split at h
   ·rename_i g
    cases h with
    | sliceQn => exact .sliceQn
    | sliceQe => exact .sliceQe
    | sliceQ k hp hl hc ho => exact slQ g k hp hl hc ho
    | sliceRe => exact .sliceRe
    | sliceR k hp hl hc ho => exact slR g k hp hl hc ho
   ·split at h
    ·cases h with
     | sliceQn => exact .sliceQn
     | sliceQe => exact .sliceQe
     | sliceQ k hp hl hc ho => exact absurd hp (Nat.lt_irrefl 0)
     | sliceRe => exact .sliceRe
     | sliceR k hp hl hc ho => exact absurd hp (Nat.lt_irrefl 0)
    ·exact (VR.bad h).elim
  ·split at h
   ·rename_i g; cases h with | map k => obtain ⟨r', a1, a2, _⟩ := hσ _ _ _ g k; rw [<- a2]; exact .map a1
   ·exact (VR.bad h).elim
  ·split at h
   ·rename_i g; cases h with | yield k => obtain ⟨r', a1, a2, _⟩ := hσ _ _ _ g k; rw [<- a2]; exact .yield a1
   ·exact (VR.bad h).elim
  ·cases h with
   | func h1 h2 h3 h4 =>
    obtain ⟨a1, a2⟩ := arr_map ih h1 h2
    obtain ⟨b1, b2⟩ := arr_map ih h3 h4
    exact .func a1 a2 b1 b2
  ·exact (VR.bad h).elim
  ·cases h with | agg h1 h2 => obtain ⟨a1, a2⟩ := arr_map ih h1 h2; exact .agg a1 a2
  ·cases h with | tuple h1 h2 => obtain ⟨a1, a2⟩ := arr_map ih h1 h2; exact .tuple a1 a2
  ·cases h with
   | deep g1 g2 g3 g4 g5 => obtain ⟨a1, a2⟩ := deep_map ih g4 g5; exact .deep (hm _ _ g1) g2 g3 a1 a2
   | deep0 => exact .deep0
  ·cases h with | deepP g1 g2 g3 => obtain ⟨a1, a2⟩ := deep_map ih g2 g3; exact .deepP (hm _ _ g1) a1 a2
  ·split at h
   ·rename_i g
    cases h with
    | fsl k hp hc hs ho => exact .fsl (hg _ _ _ _ g k) hp hc hs ho
    | fsl0 => exact .fsl0
   ·split at h
    ·cases h with | fsl0 => exact .fsl0
    ·exact (VR.bad h).elim
  ·rename_i n1 n1f n2 n2q n3 n4 n5 n6 n7 n8 n9 n10 n11
   cases h with
   | junk => exact .junk _
   | bool b => exact .bool b
   | int k n => exact .int k n
   | float k n => exact .float k n
   | string s => exact .string s
   | ptrNil => exact .ptrNil
   | ptr k => exact absurd rfl (n1 _ _)
   | fptr k => exact absurd rfl (n1f _ _ _)
   | sliceNil => exact .sliceNil
   | slice k hl hc ho => exact absurd rfl (n2 _ _ _ _)
   | slice0 k => exact absurd rfl (n2 _ _ _ _)
   | sliceE => exact .sliceE
   | sliceQn => exact .sliceQn
   | sliceQe => exact .sliceQe
   | sliceQ => exact absurd rfl (n2q _ _ _ _ _)
   | sliceRe => exact .sliceRe
   | sliceR => exact absurd rfl (n2q _ _ _ _ _)
   | mapNil => exact .mapNil
   | map k => exact absurd rfl (n3 _)
   | nilFunc => exact .nilFunc
   | nilIface => exact .nilIface
   | func h1 h2 h3 h4 => exact absurd rfl (n5 _ _ _)
   | yield k => exact absurd rfl (n4 _)
   | agg h1 h2 => exact absurd rfl (n7 _)
   | tuple h1 h2 => exact absurd rfl (n8 _)
   | deep => exact absurd rfl (n9 _ _)
   | deep0 => exact absurd rfl (n9 _ _)
   | fsl => exact absurd rfl (n11 _ _ _ _)
   | fsl0 => exact .fsl0
   | deepP => exact absurd rfl (n10 _ _)
structure ReadsW (P : Program) (H0 H : Heap) (σ : Nat -> Option Nat) (d k D z : Nat) (c0 : List Value) : Prop where
 glob : ∀ g, g < P.globals.size -> σ g = some g
 dom : ∀ id id', σ id = some id' -> id < H0.length
 len : P.globals.size <= H0.length
 k0 : H0[k]? = some (.cells true z c0)
 hk : σ k = some D
 hD : H[D]? = some (.cells true z c0)
 pl : c0.all (belowC 0) = true
 obj : ∀ (id : Nat) (o : KObj), id ≠ k -> H0[id]? = some o -> o = .dead ∨ ∃ cs, o = .cells false 0 cs
 ne : ∀ (id : Nat) (cs : List Value), H0[id]? = some (.cells false 0 cs) -> σ id ≠ some D
 rd : ∀ (id id' : Nat) (cs : List Value), σ id = some id' -> H0[id]? = some (.cells false 0 cs) -> ∃ own z, H[id']? = some (.cells own z (cs.map (rn σ d)))
theorem plain_obj {ρ ρ' : Ren} {r : RI} {own : Bool} {z : Nat} {cs : List Value} {w : World} (hm : ∀ b m, ρ.mem b = some m -> ρ'.mem b = some m) (hp : cs.all (belowC 0) = true) (h : ObjRel ρ r (.cells own z cs) w) : ObjRel ρ' r (.cells own z cs) w := by
 obtain ⟨h1, h2, cs', ty, fz, h3, h4, h5, h6⟩ := h
 refine ⟨h1, h2, cs', ty, fz, h3, h4, h5, fun i v hv => ?_⟩
 obtain ⟨v', g1, g2⟩ := h6 i v hv
 rw [List.all_eq_true] at hp
 exact ⟨v', g1, belowC_VR (ρ := ρ') (ρ' := ρ) (fun i r hi => absurd hi (Nat.not_lt_zero _)) hm (hp v (List.mem_of_getElem? hv)) g2⟩
end
end Go.K
/- Functions that write one block, run by the kernel. No condition. -/
namespace Go.K
set_option linter.unusedSimpArgs false
open Go
set_option linter.unusedVariables false
noncomputable section
attribute [local irreducible] vF
variable {P : Program}
def newKW (n0 d k : Nat) (o : KObj) (v : Value) (new : List (Bool × KObj)) : KV := fun v' H' h' =>
 match h' with
 | .again σ => sgOk n0 (n0 + new.length) [(k, true, o)] σ = true /\ wk v' (rn (sg n0 σ) d v) /\ chgOk H' n0 (sg n0 σ) d [(k, true, o)] /\ newOk H' n0 (sg n0 σ) d n0 new
 | _ => False
theorem KCall.packW {f : FuncId} {args : List Value} {H0 : HT} {v : Value} {new : List (Bool × KObj)} {d k : Nat} {o : KObj} (hk : k < H0.n)
  (h : KCall P f args H0.list [k] (fun v' H' => ∃ (H2 : HT) (σ : List (Nat × Nat)), H' = H2.list /\ sgOk H0.n (H0.n + new.length) [(k, true, o)] σ = true /\ wk v' (rn (sg H0.n σ) d v) /\ chgOk H2 H0.n (sg H0.n σ) d [(k, true, o)] /\ newOk H2 H0.n (sg H0.n σ) d H0.n new)) :
  KCall P f args H0.list [k] (Is v (H0.list.set k o ++ new.map (·.2))) := by
 refine ⟨h.1, fun B ρ w args' hr ha => (h.2 B ρ w args' hr ha).mono ?_⟩
 rintro e w' ⟨v', r, ρ', H', rfl, hv, hp, H2, σ, rfl, hs, hw, hc, hn⟩
 have hm : memB k [k] = true := by unfold memB; rw [Nat.beq_refl]; rfl
 have hb : Nat.blt k H0.n = true := Nat.ble_eq_true_of_le hk
 have hh : headOk 0 ⟨fun _ => junk, .leaf⟩ H2 H0 d [k] σ [] [(k, true, o)] new [] := by
  refine ⟨?_, trivial, hc, hn, trivial⟩
  simp only [Bool.and_eq_true]
  refine ⟨hs, ?_, rfl, ?_⟩
  ·show cond (memB k [k]) (cond (Nat.blt k H0.n) true false) false = true
   rw [hm, hb]; rfl
  ·show cond (cond (Nat.beq k k || false) true (List.any [] _)) true false = true
   rw [Nat.beq_refl]; rfl
 have he := headOk_emb hh
 have hlist : (headH H0 [(k, true, o)] new []).list = H0.list.set k o ++ new.map (·.2) := by
  have key : ∀ (l : List (Bool × KObj)) (H : HT), (l.foldl (fun H p => H.push p.2) H).list = H.list ++ l.map (·.2) := by
   intro l
   induction l with
   | nil => intro H; simp
   | cons p l ih => intro H; rw [List.foldl_cons, ih, HT.list_push]; simp
  have := key new (H0.set k o)
  rw [HT.list_set] at this
  exact this
 rw [hlist] at he
 obtain ⟨q1, _⟩ := he.post hr hp
 refine ⟨v, r, renBy ρ' (sg H0.n σ), _, rfl, ?_, q1, rfl, rfl⟩
 have hσ : ∀ id id' r, sg H0.n σ id = some id' -> ρ' id' = some r -> (renBy ρ' (sg H0.n σ)) id = some r := fun id id' r h1 h2 => by show Option.bind _ _ = _; rw [h1]; exact h2
 exact rn_VR (ρ' := ρ') (ρ := renBy ρ' (sg H0.n σ)) hσ (fun _ _ h => h) (fun F F' k r h1 h2 => by show Option.bind _ _ = _; rw [h1]; exact h2) d (hw _ _ hv)
def readsW (G z : Nat) (c0 : List Value) (css : List (List Value)) : HT := css.foldl (fun H cs => H.push (.cells false 0 cs)) (HT.push ⟨G, .leaf⟩ (.cells true z c0))
def sgRW (G D : Nat) (ids : List Nat) (i : Nat) : Option Nat := if i < G then some i else if i = G then some D else ids[i - G - 1]?
theorem readsW_n (G z : Nat) (c0 : List Value) (css : List (List Value)) : (readsW G z c0 css).n = G + 1 + css.length := (readsT_get G css (HT.push ⟨G, .leaf⟩ (.cells true z c0)) 0).1
theorem readsW_list (G z : Nat) (c0 : List Value) (css : List (List Value)) (id : Nat) : (readsW G z c0 css).list[id]? = if id < G then some .dead else if id = G then some (.cells true z c0) else (css[id - G - 1]?).map (fun cs => KObj.cells false 0 cs) := by
 rw [show (readsW G z c0 css).list[id]? = _ from (readsT_get G css (HT.push ⟨G, .leaf⟩ (.cells true z c0)) id).2]
 show (if id < G + 1 then _ else _) = _
 have hl : (HT.list ⟨G, .leaf⟩).length = G := HT.length _
 have h0 : ∀ i, i < G -> (HT.list ⟨G, .leaf⟩)[i]? = some .dead := fun i hi => by
  have := readsT_list G [] i
  rw [if_pos hi] at this
  exact this
 rw [HT.list_push]
 by_cases h : id < G
 ·rw [if_pos (by omega), if_pos h, List.getElem?_append_left (by omega)]
  exact h0 id h
 ·rw [if_neg h]
  by_cases e : id = G
  ·subst e
   rw [if_pos (by omega), if_pos rfl, List.getElem?_append_right (by omega), hl, Nat.sub_self]; rfl
  ·rw [if_neg (by omega), if_neg e]
   show Option.map _ css[id - (G + 1)]? = _
   rw [show id - (G + 1) = id - G - 1 by omega]
end
end Go.K
/- Request: what all texts share. No condition. -/
namespace Go.Proofs.YthdekmpkioikdaaGreat
open Go Go.K
set_option maxRecDepth 100000
set_option linter.unusedVariables false
set_option linter.unusedSimpArgs false
noncomputable section
def dm (imp : Nat) : Value -> MS
 | .func (.func f) _ _ => cond (Nat.testBit imp f) none (some [])
 | .func (.yield _) _ _ => none
 | _ => some []
abbrev boolC (b : Bool) : List Value := [.bool b]
abbrev intC (x : Int) : List Value := [.int .i64 x]
def tabP {α : Type} (f : Nat -> α) (n : Nat) : List α := (List.range n).map f
abbrev nI (x : Int) : Value := .int .i64 x
abbrev slQ (i k n : Nat) : Value := .slice (some ⟨i, 0, some k⟩) n n
abbrev someR (o : KObj) : Prop := (some o : Option KObj) = some o
abbrev keptR (n : Nat) (o : KObj) : Prop := (some o : Option KObj) = some o /\ belowO n o = true
abbrev wkR (v : Value) : Prop := wk v v
theorem tabP_len {α : Type} (f : Nat -> α) (n : Nat) : (tabP f n).length = n := by simp [tabP]
theorem tabP_get {α : Type} {f : Nat -> α} {n k : Nat} {d : α} (h : k < n) : (tabP f n).getD k d = f k := by simp [tabP, List.getD_eq_getElem?_getD, List.getElem?_range h]
def first2 (e f : Int) : Int := if e = 0 then f else e
theorem first2_1 {e f : Int} (h : ¬ e = 0) : first2 e f = e := if_neg h
theorem first2_2 {e f : Int} (h : e = 0) : first2 e f = f := if_pos h
theorem valK {f : FuncId} {args : List Value} {h : Hint} {v : Value} (n : Nat) (hargs : ∀ σ, args.map (rn σ 5) = args) (hv : belowV 0 v = true)
  (hc : vF prog msk (dm 0) 100000 true n true f args ⟨0, .leaf⟩ (some []) h (fun v' _ _ => v' = v)) (H : Heap) : KCall prog f args H [] (Is v H) :=
 vcP mskOk mixed n hargs hv (by rw [glob0]; exact hc) H (by rw [glob0]; exact Nat.zero_le _)
theorem valR {f : FuncId} {args : List Value} {css : List (List Value)} {h : Hint} {v : Value} (hc : vF prog msk (dm 0) 100000 true 40 true f args (readsT 0 css) (some []) h (fun v' _ _ => v' = v)) (hcss : ∀ cs ∈ css, cs.all (belowC 0) = true) (hv : belowV 0 v = true)
  {H : Heap} (ids : List Nat) (hl : ids.length = css.length) (hids : ∀ (k : Nat) (cs : List Value), css[k]? = some cs -> ∃ id own z, ids[k]? = some id /\ H[id]? = some (KObj.cells own z cs)) :
  KCall prog f (args.map (rn (sgR 0 ids) 5)) H [] (Is v H) := by
 have := vcR0 (H := H) mskOk mixed 40 (v := v) hcss (by rw [glob0]; exact hc) hv ids hl hids
 rw [glob0] at this; exact this
theorem valN {f : FuncId} {args : List Value} {css : List (List Value)} {h : Hint} {v : Value} {new : List (Bool × KObj)} (hc : vF prog msk (dm 0) 100000 true 40 true f args (readsT 0 css) (some []) h (newK (readsT 0 css).n 3 v new)) (hcss : ∀ cs ∈ css, cs.all (belowC 0) = true)
  (hv : rnOk 3 v = true) (hv2 : rn (sgOnly (0 + css.length)) 3 v = v) (hn : (new.map (·.2)).all (fun o => rnoOk 3 o && o.owned) = true) (hn2 : (new.map (·.2)).map (rno (sgOnly (0 + css.length)) 3) = new.map (·.2))
  {H : Heap} (ids : List Nat) (hl : ids.length = css.length) (hids : ∀ (k : Nat) (cs : List Value), css[k]? = some cs -> ∃ id own z, ids[k]? = some id /\ H[id]? = some (KObj.cells own z cs)) :
  KCall prog f (args.map (rn (sgR 0 ids) 3)) H [] (Is (rn (sgUp (0 + css.length) H.length) 3 v) (H ++ (new.map (·.2)).map (rno (sgUp (0 + css.length) H.length) 3))) := by
 have := vcR (H := H) mskOk mixed 40 (v := v) (new := new) hcss (by rw [glob0]; exact hc) hv (by rw [glob0]; exact hv2) hn (by rw [glob0]; exact hn2) ids hl hids
 rw [glob0] at this; exact this
theorem one_id {H : Heap} {id : Nat} {own : Bool} {z : Nat} {cs : List Value} (hid : H[id]? = some (.cells own z cs)) : ∀ (k : Nat) (c : List Value), [cs][k]? = some c -> ∃ id' own z, [id][k]? = some id' /\ H[id']? = some (KObj.cells own z c) := by
 intro k c h
 match k with
 | 0 => cases h; exact ⟨id, own, z, rfl, hid⟩
theorem one_cs {cs : List Value} (h : cs.all (belowC 0) = true) : ∀ c ∈ [cs], c.all (belowC 0) = true := by intro c hc; rw [List.mem_singleton.1 hc]; exact h
theorem valRA {f : FuncId} {args : List Value} {css : List (List Value)} {h : Hint} {v : Value} (hc : vF prog msk (dm 0) 100000 true 40 true f args (readsT 0 css) (some []) h (fun v' _ _ => v' = v)) (hv : belowV 0 v = true)
  {H : Heap} (ids : List Nat) (hl : ids.length = css.length) (hids : ∀ (k : Nat) (cs : List Value), css[k]? = some cs -> ∃ id own z, ids[k]? = some id /\ H[id]? = some (KObj.cells own z (cs.map (rn (sgR 0 ids) 3)))) (h3 : rnOk 3 v = true := by rfl) (h4 : ∀ σ, rn σ 3 v = v := by intro σ; rfl) :
  KCall prog f (args.map (rn (sgR 0 ids) 3)) H [] (Is v H) := by
 have := vcR0A (H := H) mskOk mixed 40 (v := v) (by rw [glob0]; exact hc) hv ids hl (by rw [glob0]; exact hids) h3 h4
 rw [glob0] at this; exact this
theorem valNA {f : FuncId} {args : List Value} {css : List (List Value)} {h : Hint} {v : Value} {new : List (Bool × KObj)} (hc : vF prog msk (dm 0) 100000 true 40 true f args (readsT 0 css) (some []) h (newK (readsT 0 css).n 3 v new))
  (hv : rnOk 3 v = true) (hv2 : rn (sgOnly (0 + css.length)) 3 v = v) (hn : (new.map (·.2)).all (fun o => rnoOk 3 o && o.owned) = true) (hn2 : (new.map (·.2)).map (rno (sgOnly (0 + css.length)) 3) = new.map (·.2))
  {H : Heap} (ids : List Nat) (hl : ids.length = css.length) (hids : ∀ (k : Nat) (cs : List Value), css[k]? = some cs -> ∃ id own z, ids[k]? = some id /\ H[id]? = some (KObj.cells own z (cs.map (rn (sgR 0 ids) 3)))) :
  KCall prog f (args.map (rn (sgR 0 ids) 3)) H [] (Is (rn (sgUp (0 + css.length) H.length) 3 v) (H ++ (new.map (·.2)).map (rno (sgUp (0 + css.length) H.length) 3))) := by
 have := vcRA (H := H) mskOk mixed 40 (v := v) (new := new) (by rw [glob0]; exact hc) hv (by rw [glob0]; exact hv2) hn (by rw [glob0]; exact hn2) ids hl (by rw [glob0]; exact hids)
 rw [glob0] at this; exact this
theorem valQ {f : FuncId} {args : List Value} {c : List Value} {h : Hint} (v : Nat -> Value) {z : Nat} {cs : List Value}
    (hc : vF prog msk (dm 0) 100000 true 40 true f args (readsT 0 [c]) (some []) h (newK (readsT 0 [c]).n 3 (v 1) [(true, .cells true z cs)]))
    (hp0 : c.all (belowC 0) = true) (hp : ∀ n, cs.all (belowC n) = true) (h1 : rnOk 3 (v 1) = true) (h2 : rn (sgOnly (0 + 1)) 3 (v 1) = v 1) (h3 : ∀ j, rn (sgUp (0 + 1) j) 3 (v 1) = v j)
    {H : Heap} {id : Nat} {own : Bool} {z2 : Nat} (hid : H[id]? = some (.cells own z2 c)) {args' : List Value} (ha : args.map (rn (sgR 0 [id]) 3) = args') :
    KCall prog f args' H [] (Is (v H.length) (H ++ [.cells true z cs])) := by
  subst ha
  have key := valN (css := [c]) (v := v 1) (new := [(true, .cells true z cs)]) hc (one_cs hp0) h1 h2
    (by show ((rnoOk 3 (.cells true z cs) && true) && true) = true
        rw [Bool.and_true, Bool.and_true]; exact (rnCl (σ := fun _ => none) (d := 0) (hp 0)).2)
    (congrArg (fun q => [KObj.cells true z q]) (rnCl (d := 0) (hp 0)).1) (H := H) [id] rfl (one_id hid)
  have e2 : (List.map (fun x : Bool × KObj => x.2) [(true, KObj.cells true z cs)]).map (rno (sgUp (0 + [c].length) H.length) 3) = [.cells true z cs] :=
    congrArg (fun q => [KObj.cells true z q]) (rnCl (d := 0) (hp 0)).1
  rw [e2, show rn (sgUp (0 + [c].length) H.length) 3 (v 1) = v H.length from h3 _] at key
  exact key
theorem twoId {H : Heap} {id id2 : Nat} {own own2 : Bool} {z z2 : Nat} {cs ds : List Value} (h1 : H[id]? = some (.cells own z cs)) (h2 : H[id2]? = some (.cells own2 z2 ds)) : ∀ (k : Nat) (c : List Value), [cs, ds][k]? = some c -> ∃ id' own z, [id, id2][k]? = some id' /\ H[id']? = some (KObj.cells own z c) := by
 intro k c h
 match k with
 | 0 => cases h; exact ⟨id, own, z, rfl, h1⟩
 | 1 => cases h; exact ⟨id2, own2, z2, rfl, h2⟩
theorem twoCs {cs ds : List Value} (h1 : cs.all (belowC 0) = true) (h2 : ds.all (belowC 0) = true) : ∀ c ∈ [cs, ds], c.all (belowC 0) = true := by
 intro c hc
 rcases List.mem_cons.1 hc with rfl | hc
 ·exact h1
 ·rw [List.mem_singleton.1 hc]; exact h2
theorem plainBL (n : Nat) (l : List Bool) : (l.flatMap boolC).all (belowC n) = true := plain_flat (fun _ => rfl) l
theorem flat_le {α : Type} {f : α -> List Value} {n : Nat} (hf : ∀ x, (f x).length = n) (xs : List α) : 0 + xs.length * n <= (xs.flatMap f).length := by rw [flat_len hf]; omega
theorem valQ0 {f : FuncId} {args : List Value} {h : Hint} (v : Nat -> Value) {z : Nat} {cs : List Value}
    (hc : vF prog msk (dm 0) 100000 true 40 true f args ⟨0, .leaf⟩ (some []) h (newK 0 3 (v 0) [(true, .cells true z cs)]))
    (hp : ∀ n, cs.all (belowC n) = true) (h1 : rnOk 3 (v 0) = true) (h2 : rn (sgOnly 0) 3 (v 0) = v 0) (h3 : ∀ j, rn (sgUp 0 j) 3 (v 0) = v j) (ha : ∀ σ, args.map (rn σ 3) = args) (H : Heap) :
    KCall prog f args H [] (Is (v H.length) (H ++ [.cells true z cs])) := by
  have key := valN (css := []) (v := v 0) (new := [(true, .cells true z cs)]) hc (fun c hc => by cases hc) h1 h2
    (by show ((rnoOk 3 (.cells true z cs) && true) && true) = true
        rw [Bool.and_true, Bool.and_true]; exact (rnCl (σ := fun _ => none) (d := 0) (hp 0)).2)
    (congrArg (fun q => [KObj.cells true z q]) (rnCl (d := 0) (hp 0)).1) (H := H) [] rfl (fun k c hk => by cases hk)
  have e2 : (List.map (fun x : Bool × KObj => x.2) [(true, KObj.cells true z cs)]).map (rno (sgUp (0 + ([] : List (List Value)).length) H.length) 3) = [.cells true z cs] :=
    congrArg (fun q => [KObj.cells true z q]) (rnCl (d := 0) (hp 0)).1
  rw [e2, show rn (sgUp (0 + ([] : List (List Value)).length) H.length) 3 (v 0) = v H.length from h3 _, ha] at key
  exact key
theorem boolC_len (b : Bool) : (boolC b).length = 1 := rfl
theorem intC_len (x : Int) : (intC x).length = 1 := rfl
theorem plainIL (n : Nat) (l : List Int) : (l.flatMap intC).all (belowC n) = true := plain_flat (fun _ => rfl) l
theorem boolAt {a : List Bool} {k : Nat} (h : k < a.length) {off : Nat} (ho : off = k) : (a.flatMap boolC)[off]? = some (.bool (a.getD k false)) := cell_at (c := 0) boolC_len h (by omega) rfl
theorem intAt {a : List Int} {k : Nat} (h : k < a.length) {off : Nat} (ho : off = k) : (a.flatMap intC)[off]? = some (.int .i64 (a.getD k 0)) := cell_at (c := 0) intC_len h (by omega) rfl
theorem setl_mid : ∀ (n o A B : List Value), o.length = n.length -> setl (A ++ (o ++ B)) A.length n = A ++ (n ++ B)
 | [], [], A, B, _ => rfl
 | v :: n, w :: o, A, B, h => by
  have e : (A ++ (w :: o ++ B)).set A.length v = (A ++ [v]) ++ (o ++ B) := by simp
  have := setl_mid n o (A ++ [v]) B (by simpa using h)
  simp only [setl]
  rw [e]
  simpa using this
theorem flat_set {α : Type} {f : α -> List Value} {m : Nat} (hf : ∀ x, (f x).length = m) (xs : List α) (k : Nat) (hk : k < xs.length) (y : α) : setl (xs.flatMap f) (k * m) (f y) = (xs.set k y).flatMap f := by
 have e1 : xs = xs.take k ++ xs[k] :: xs.drop (k + 1) := by rw [<- List.drop_eq_getElem_cons hk, List.take_append_drop]
 have e2 : xs.set k y = xs.take k ++ y :: xs.drop (k + 1) := by rw [List.set_eq_take_append_cons_drop, if_pos hk]
 have hl : ((xs.take k).flatMap f).length = k * m := by rw [flat_len hf, List.length_take, Nat.min_eq_left (Nat.le_of_lt hk)]
 rw [e2]
 conv => lhs; rw [e1]
 rw [List.flatMap_append, List.flatMap_cons, List.flatMap_append, List.flatMap_cons, <- hl]
 exact setl_mid _ _ _ _ (by rw [hf, hf])
theorem getD_mem {α : Type} {l : List α} {d : α} {x : Nat} (h : x < l.length) : l.getD x d ∈ l := by
 rw [List.getD_eq_getElem?_getD, List.getElem?_eq_getElem h]; exact List.getElem_mem h
theorem krep_int (n : Nat) : krep [.int .i64 0] n = (List.replicate n (0 : Int)).flatMap intC := by
 induction n with
 | zero => rfl
 | succ n ih => show .int .i64 0 :: krep [.int .i64 0] n = _; rw [ih]; rfl
theorem valQ2 {f : FuncId} {args : List Value} {c d : List Value} {h : Hint} (v : Nat -> Value) {z : Nat} {cs : List Value}
    (hc : vF prog msk (dm 0) 100000 true 40 true f args (readsT 0 [c, d]) (some []) h (newK (readsT 0 [c, d]).n 3 (v 2) [(true, .cells true z cs)]))
    (hp0 : c.all (belowC 0) = true) (hp1 : d.all (belowC 0) = true) (hp : ∀ n, cs.all (belowC n) = true) (h1 : rnOk 3 (v 2) = true) (h2 : rn (sgOnly (0 + 2)) 3 (v 2) = v 2) (h3 : ∀ j, rn (sgUp (0 + 2) j) 3 (v 2) = v j)
    {H : Heap} {id id2 : Nat} {own own2 : Bool} {z2 z3 : Nat} (hid : H[id]? = some (.cells own z2 c)) (hid2 : H[id2]? = some (.cells own2 z3 d)) {args' : List Value} (ha : args.map (rn (sgR 0 [id, id2]) 3) = args') :
    KCall prog f args' H [] (Is (v H.length) (H ++ [.cells true z cs])) := by
  subst ha
  have key := valN (css := [c, d]) (v := v 2) (new := [(true, .cells true z cs)]) hc (twoCs hp0 hp1) h1 h2
    (by show ((rnoOk 3 (.cells true z cs) && true) && true) = true
        rw [Bool.and_true, Bool.and_true]; exact (rnCl (σ := fun _ => none) (d := 0) (hp 0)).2)
    (congrArg (fun q => [KObj.cells true z q]) (rnCl (d := 0) (hp 0)).1) (H := H) [id, id2] rfl (twoId hid hid2)
  have e2 : (List.map (fun x : Bool × KObj => x.2) [(true, KObj.cells true z cs)]).map (rno (sgUp (0 + [c, d].length) H.length) 3) = [.cells true z cs] :=
    congrArg (fun q => [KObj.cells true z q]) (rnCl (d := 0) (hp 0)).1
  rw [e2, show rn (sgUp (0 + [c, d].length) H.length) 3 (v 2) = v H.length from h3 _] at key
  exact key
def errUp (e : Nat -> Int) : Nat -> Int
 | 0 => 0
 | k + 1 => first2 (errUp e k) (e k)
def plainAll : List (List Value) -> Prop
 | [] => True
 | c :: css => c.all (belowC 0) = true /\ plainAll css
theorem plainAll_spec : ∀ {css : List (List Value)}, plainAll css -> ∀ c ∈ css, c.all (belowC 0) = true
 | [], _, c, h => by cases h
 | d :: css, hp, c, h => by
  rcases List.mem_cons.1 h with rfl | h
  ·exact hp.1
  ·exact plainAll_spec hp.2 c h
def idsOk (H : Heap) : List Nat -> List (List Value) -> Prop
 | [], [] => True
 | id :: ids, c :: css => (∃ own z, H[id]? = some (.cells own z c)) /\ idsOk H ids css
 | _, _ => False
theorem idsOk_len {H : Heap} : ∀ {ids : List Nat} {css : List (List Value)}, idsOk H ids css -> ids.length = css.length
 | [], [], _ => rfl
 | _ :: ids, _ :: css, h => by rw [List.length_cons, List.length_cons, idsOk_len h.2]
 | [], _ :: _, h => h.elim
 | _ :: _, [], h => h.elim
theorem idsOk_spec {H : Heap} : ∀ {ids : List Nat} {css : List (List Value)}, idsOk H ids css -> ∀ (k : Nat) (c : List Value), css[k]? = some c -> ∃ id own z, ids[k]? = some id /\ H[id]? = some (KObj.cells own z c)
 | [], [], _, k, c, hk => by simp at hk
 | i :: ids, d :: css, h, 0, c, hk => by
  obtain ⟨⟨own, z, e⟩, _⟩ := h
  cases hk
  exact ⟨i, own, z, rfl, e⟩
 | i :: ids, d :: css, h, k + 1, c, hk => by
  obtain ⟨id, own, z, a, b⟩ := idsOk_spec h.2 k c (by simpa using hk)
  exact ⟨id, own, z, by simpa using a, b⟩
 | [], _ :: _, h, _, _, _ => h.elim
 | _ :: _, [], h, _, _, _ => h.elim
def newAll : List KObj -> Prop
 | [] => True
 | o :: os => (∃ z cs, o = .cells true z cs /\ cs.all (belowC 0) = true) /\ newAll os
theorem newAll_spec {σ : Nat -> Option Nat} : ∀ {os : List KObj}, newAll os -> (os.all fun o => rnoOk 3 o && o.owned) = true /\ os.map (rno σ 3) = os
 | [], _ => ⟨rfl, rfl⟩
 | o :: os, ⟨⟨z, cs, e, h⟩, hs⟩ => by
  subst e
  obtain ⟨a, b⟩ := newAll_spec (σ := σ) hs
  obtain ⟨c, d⟩ := rnCl (σ := σ) (d := 0) h
  refine ⟨?_, ?_⟩
  ·rw [List.all_cons, a, Bool.and_true]
   show (rnoOk 3 (.cells true z cs) && true) = true
   rw [Bool.and_true]; exact d
  ·rw [List.map_cons, b]
   show KObj.cells true z (cs.map (rn σ 3)) :: os = _
   rw [c]
theorem valNs {f : FuncId} {args : List Value} {css : List (List Value)} {h : Hint} (v : Nat -> Value) {new : List KObj}
  (hc : vF prog msk (dm 0) 100000 true 40 true f args (readsT 0 css) (some []) h (newK (readsT 0 css).n 3 (v css.length) (new.map fun o => (true, o))))
  (hp : plainAll css) (hn : newAll new) (h1 : rnOk 3 (v css.length) = true) (h2 : rn (sgOnly (0 + css.length)) 3 (v css.length) = v css.length) (h3 : ∀ j, rn (sgUp (0 + css.length) j) 3 (v css.length) = v j)
  {H : Heap} {ids : List Nat} (hi : idsOk H ids css) {args' : List Value} (ha : args.map (rn (sgR 0 ids) 3) = args') :
  KCall prog f args' H [] (Is (v H.length) (H ++ new)) := by
 subst ha
 have e0 : (new.map fun o => (true, o)).map (·.2) = new := by rw [List.map_map]; exact List.map_id _
 have key := valN (css := css) (v := v css.length) (new := new.map fun o => (true, o)) hc (plainAll_spec hp) h1 h2 (by rw [e0]; exact (newAll_spec (σ := fun _ => none) hn).1) (by rw [e0]; exact (newAll_spec hn).2) (H := H) ids (idsOk_len hi) (idsOk_spec hi)
 rw [e0, (newAll_spec hn).2, h3] at key
 exact key
theorem errUp_all {e : Nat -> Int} : ∀ {n : Nat}, errUp e n = 0 -> ∀ k, k < n -> e k = 0
 | 0, _, k, h => by omega
 | n + 1, h0, k, h => by
  have h0 : first2 (errUp e n) (e n) = 0 := h0
  unfold first2 at h0
  split at h0
  ·rename_i h1
   rcases Nat.lt_or_ge k n with h2 | h2
   ·exact errUp_all h1 k h2
   ·obtain rfl : k = n := by omega
    exact h0
  ·rename_i h1; exact absurd h0 h1
theorem errUp_at {e : Nat -> Int} {k : Nat} (h0 : errUp e k = 0) (hk : e k ≠ 0) : ∀ {n : Nat}, k < n -> errUp e n = e k
 | 0, h => by omega
 | n + 1, h => by
  show first2 (errUp e n) (e n) = e k
  rcases Nat.lt_or_ge k n with h2 | h2
  ·rw [errUp_at h0 hk h2, first2_1 hk]
  ·obtain rfl : k = n := by omega
   rw [h0, first2_2 rfl]
theorem errUp_succ {e : Nat -> Int} {k : Nat} (h0 : errUp e k = 0) (h1 : e k = 0) : errUp e (k + 1) = 0 := by
 show first2 (errUp e k) (e k) = 0
 rw [h0, first2_2 rfl, h1]
def inV (l : List Int) : Value := .iface (l.length + 1) (.agg ⟨l.flatMap intC⟩)
def inL (ll : List (List Int)) : List Value := ll.map inV
theorem all_belowD (n : Nat) (L : List Int) : (L.flatMap intC).all (belowD n) = true := by
 rw [List.all_flatMap, List.all_eq_true]
 intro r _; rfl
theorem valRx {f : FuncId} {args : List Value} {css : List (List Value)} {h : Hint} {v : Value} (hc : vF prog msk (dm 0) 100000 true 40 true f args (readsT 0 css) (some []) h (fun v' _ _ => v' = v)) (hp : plainAll css) (hv : belowV 0 v = true)
  {H : Heap} {ids : List Nat} (hi : idsOk H ids css) {args' : List Value} (ha : args.map (rn (sgR 0 ids) 5) = args') : KCall prog f args' H [] (Is v H) := by
 subst ha
 exact valR hc (plainAll_spec hp) hv ids (idsOk_len hi) (idsOk_spec hi)
theorem inV_b (n : Nat) (l : List Int) : belowC n (inV l) = true := all_belowD n l
theorem inL_b (n : Nat) (ll : List (List Int)) : (inL ll).all (belowC n) = true := by
 unfold inL
 rw [List.all_map, List.all_eq_true]
 intro l _
 exact inV_b n l
theorem inV_rn (σ : Nat -> Option Nat) (d : Nat) (l : List Int) : rn σ (d + 3) (inV l) = inV l := (rnC (inV_b 0 l)).1
theorem inL_len (ll : List (List Int)) : (inL ll).length = ll.length := List.length_map ..
theorem inL_at {ll : List (List Int)} {k : Nat} (h : k < ll.length) {off : Nat} (ho : off = k) : (inL ll)[off]? = some (inV (ll.getD k [])) := by
 subst ho
 unfold inL
 rw [List.getElem?_map, List.getElem?_eq_getElem h, List.getD_eq_getElem?_getD, List.getElem?_eq_getElem h]; rfl
theorem wk_QF {id n m : Nat} (h : m = n) (h0 : 0 < n) : wk (.slice (some ⟨id, 0, none⟩) n n) (.slice (some ⟨id, 0, some 1⟩) m m) := by subst h; exact wk_Q h0
theorem krep_bool (n : Nat) : krep [.bool false] n = (List.replicate n false).flatMap boolC := by
 induction n with
 | zero => rfl
 | succ n ih => rw [List.replicate_succ, List.flatMap_cons, <- ih]; rfl
theorem drop_get {C : List Int} {o : Nat} (h : o < C.length) : C.drop o = C.getD o 0 :: C.drop (o + 1) := by
 rw [List.drop_eq_getElem_cons h, List.getD_eq_getElem?_getD, List.getElem?_eq_getElem h]; rfl
end
end Go.Proofs.YthdekmpkioikdaaGreat
/- Request: what is computed, as plain functions: fleets, requests, policies, premises. No condition. -/
namespace Go.Proofs.YthdekmpkioikdaaGreat
set_option linter.unusedSimpArgs false
set_option linter.unusedVariables false
open Go Go.K
noncomputable section
structure Fleet where
 t : List (List Int)
 b : List Int
structure Rq where
 id : Int
 at_ : Int
 place : Int
 dest : Int
 len : Int
 prio : Int
 limit : Int
structure Pol where
 ov : Int
 warn : Int
 w0 : Int
 w1 : Int
 w2 : Int
structure Prem where
 burst : Int
 period : Int
 service : Int
structure Sv where
 rq : Int
 br : Int
 tk : Int
 bg : Int
 nd : Int
abbrev rqC (r : Rq) : List Value := [.int .i64 r.id, .int .i64 r.at_, .int .i64 r.place, .int .i64 r.dest, .int .i64 r.len, .int .i64 r.prio, .int .i64 r.limit]
abbrev svC (s : Sv) : List Value := [.int .i64 s.rq, .int .i64 s.br, .int .i64 s.tk, .int .i64 s.bg, .int .i64 s.nd]
abbrev polC (p : Pol) : List Value := [.int .i64 p.ov, .int .i64 p.warn, .int .i64 p.w0, .int .i64 p.w1, .int .i64 p.w2]
def zeroQ : Rq := ⟨0, 0, 0, 0, 0, 0, 0⟩
def zeroV : Sv := ⟨0, 0, 0, 0, 0⟩
abbrev fleetV (f : Fleet) (i j : Nat) (k : Nat := 2) : Value := .agg #[.slice (some ⟨i, 0, some k⟩) f.t.length f.t.length, .slice (some ⟨j, 0, some k⟩) f.b.length f.b.length]
def inB (n a b : Int) : Bool := decide (a <= n) && decide (n <= b)
def badT (h : Int) : Bool := !inB h 0 100
def badA (n : Nat) (x : Int) : Bool := !inB x 0 ((n : Int) - 1)
def badRow (n i : Nat) (row : List Int) : Bool := decide (row.length ≠ n) || decide (row.getD i 0 ≠ 0) || row.any badT
def errRow (f : Fleet) (i : Nat) : Int := if badRow f.t.length i (f.t.getD i []) = true then 80 else 0
def errFl (f : Fleet) : Int :=
 if (!inB (f.t.length : Int) 1 12) = true ∨ (!inB (f.b.length : Int) 1 3) = true then 2 else
 first2 (errUp (errRow f) f.t.length) (if f.b.any (badA f.t.length) = true then 80 else 0)
def badRq (n : Nat) (r : Rq) : Bool :=
 !inB r.id 0 1000000 || !inB r.at_ 0 10000 || !inB r.place 0 ((n : Int) - 1) || !inB r.dest 0 ((n : Int) - 1) || !inB r.len 1 100 || !inB r.prio 1 3 || !inB r.limit 0 10000
def sameId (r : Rq) (x : Rq) : Bool := decide (x.id = r.id)
def errRq1 (n : Nat) (l : List Rq) (i : Nat) : Int :=
 if badRq n (l.getD i zeroQ) = true then 80 else if (l.take i).any (sameId (l.getD i zeroQ)) = true then 10 else 0
def errRq (n : Nat) (l : List Rq) : Int := if 30 < l.length then 2 else errUp (errRq1 n l) l.length
def badW (w : Int) : Bool := !inB w 0 100
def errPol (p : Pol) : Int := if (!inB p.ov 0 30 || !inB p.warn 0 10000 || [p.w0, p.w1, p.w2].any badW) = true then 81 else 0
def bigF (f : Fleet) : Bool := f.t.any fun r => decide (20 < r.length)
def great (f : Fleet) (l : List Rq) : Bool := decide (20 < f.t.length) || decide (6 < f.b.length) || decide (40 < l.length) || bigF f
def cntIn (l : List Rq) (a b : Int) (k : Nat) : Nat := ((l.take k).filter fun r => decide (a <= r.at_) && decide (r.at_ <= b)).length
def tight (q : Prem) (n : Int) (d : Int) : Bool := decide (n <= q.burst + (d + 1) / q.period)
def pairOk (l : List Rq) (q : Prem) (x y : Rq) : Bool := decide (y.at_ < x.at_) || tight q (cntIn l x.at_ y.at_ l.length) (y.at_ - x.at_)
end
end Go.Proofs.YthdekmpkioikdaaGreat
/- Request: histories, as plain functions. No condition. -/
namespace Go.Proofs.YthdekmpkioikdaaGreat
set_option linter.unusedSimpArgs false
set_option linter.unusedVariables false
open Go Go.K
noncomputable section
structure Br where
 free : Int
 at_ : Int
abbrev brC (b : Br) : List Value := [.int .i64 b.free, .int .i64 b.at_]
def zeroB : Br := ⟨0, 0⟩
def trav (f : Fleet) (a b : Int) : Int := (f.t.getD (Int.toNat a) []).getD (Int.toNat b) 0
def svAt (h : List Sv) (k : Nat) : Sv := h.getD k zeroV
def rqAt (l : List Rq) (i : Int) : Rq := l.getD (Int.toNat i) zeroQ
def frH (f : Fleet) (h : List Sv) : Nat -> List Int
 | 0 => List.replicate f.b.length 0
 | k + 1 => (frH f h k).set (Int.toNat (svAt h k).br) (svAt h k).nd
def plH (f : Fleet) (l : List Rq) (h : List Sv) : Nat -> List Int
 | 0 => f.b
 | k + 1 => (plH f l h k).set (Int.toNat (svAt h k).br) (rqAt l (svAt h k).rq).dest
def brH (f : Fleet) (l : List Rq) (h : List Sv) (k : Nat) : List Br := tabP (fun b => ⟨(frH f h k).getD b 0, (plH f l h k).getD b 0⟩) f.b.length
def dock (f : Fleet) : List Br := tabP (fun b => ⟨0, f.b.getD b 0⟩) f.b.length
def isRq (i : Int) (s : Sv) : Bool := decide (s.rq = i)
def metH (n : Nat) (h : List Sv) (k : Nat) : List Bool := tabP (fun j => (h.take k).any (isRq (j : Int))) n
def bgH (f : Fleet) (l : List Rq) (h : List Sv) (k : Nat) : Int := (svAt h k).tk + trav f ((plH f l h k).getD (Int.toNat (svAt h k).br) 0) (rqAt l (svAt h k).rq).place
def befB (a b : Rq) : Bool := decide (a.at_ < b.at_) || (decide (a.at_ = b.at_) && decide (a.id < b.id))
end
end Go.Proofs.YthdekmpkioikdaaGreat
/- Request: what is said of histories: waits, who is detained, who is overtaken. No condition. -/
namespace Go.Proofs.YthdekmpkioikdaaGreat
set_option linter.unusedSimpArgs false
set_option linter.unusedVariables false
open Go Go.K
noncomputable section
abbrev wkC (f : Fleet) (l : List Rq) (X Y : List Int) : List Value := [.slice (some ⟨0, 0, some 2⟩) f.t.length f.t.length, .slice (some ⟨1, 0, some 2⟩) f.b.length f.b.length, .slice (some ⟨2, 0, some 2⟩) l.length l.length, .slice (some ⟨3, 0, none⟩) X.length X.length, .slice (some ⟨4, 0, some 1⟩) Y.length Y.length]
def cmpI (a b : Int) : Int := if a < b then -1 else if b < a then 1 else 0
def laterV (a b : Rq) : Int := first2 (cmpI a.at_ b.at_) (cmpI a.id b.id)
def asg (n : Nat) (h : List Sv) (v : Nat -> Nat) : Nat -> List Int
 | 0 => List.replicate n 0
 | m + 1 => (asg n h v m).set (Int.toNat (svAt h m).rq) (v m : Int)
end
end Go.Proofs.YthdekmpkioikdaaGreat
/- What is to be shown of functions. Printed by a program. No condition. -/
namespace Go.Proofs.YthdekmpkioikdaaGreat
set_option linter.unusedSimpArgs false
open Go Go.K
set_option maxRecDepth 100000
set_option maxHeartbeats 4000000
set_option linter.unusedVariables false
noncomputable section
abbrev jae : Value:=.bool false
def Rin (sp : Value) (n a b : Int) : Prop :=
 (((decide ((a : Int) <= n)) = true -> (.bool (decide ((n : Int) <= b)) : Value) = sp) /\ ((decide ((a : Int) <= n)) = false -> jae = sp))
theorem Ein (sp : Value) (n a b : Int) : vF prog msk (dm 0) 100000 true 40 true 107 [nI n,nI a,nI b] ⟨0,.leaf⟩ (some [])
 (.go 4 (.gfork (.auto) (.auto)))
 (fun v _ _ => v = sp) = Rin sp n a b:=by kernel_rfl
abbrev jag : Value:=.bool true
def Rout (sp : Value) (n a b : Int) : Prop :=
 (((decide ((n : Int) < a)) = true -> jag = sp) /\ ((decide ((n : Int) < a)) = false -> (.bool (decide ((b : Int) < n)) : Value) = sp))
theorem Eout (sp : Value) (n a b : Int) : vF prog msk (dm 0) 100000 true 40 true 137 [nI n,nI a,nI b] ⟨0,.leaf⟩ (some [])
 (.go 4 (.gfork (.auto) (.auto)))
 (fun v _ _ => v = sp) = Rout sp n a b:=by kernel_rfl
abbrev jau (f : Fleet) : Int:=(f.t.length : Nat)
abbrev ja6 (l : List Rq) : Int:=(l.length : Nat)
abbrev jas : Value:=nI 0
abbrev jap : Int:=(0 : Nat)
abbrev jam : Prop:=(.pointer (some ⟨3,0,none⟩) : Value) = .pointer (some ⟨3,0,none⟩) /\ True
abbrev jao (f : Fleet) : List Value:=[slQ 0 2 f.t.length,slQ 1 2 f.b.length]
abbrev jai : Prop:=∀ x0 : Nat,true = true
abbrev jaw (x0 : Nat) (f : Fleet) : Prop:=x0 <= List.length f.t /\ List.any (f.t.take x0) (fun r => decide (20 < r.length)) = false
abbrev ja7 (x0 : Nat) : Int:=(x0 : Int)
abbrev ja5 (x0 : Nat) : Value:=nI (IntKind.wrap .i64 ((x0 : Int) + 1))
abbrev jal (x0 : Nat) : Value:=nI ((x0 : Int) + 1)
def Rgreat (sp : Value) (f : Fleet) (l : List Rq) : Prop :=
 (((decide ((20 : Int) < (jau f))) = true -> jag = sp) /\ ((decide ((20 : Int) < (jau f))) = false -> (((decide ((6 : Int) < ((f.b.length : Nat) : Int))) = true -> jag = sp) /\ ((decide ((6 : Int) < ((f.b.length : Nat) : Int))) = false -> (((decide ((40 : Int) < (ja6 l))) = true -> jag = sp) /\ ((decide ((40 : Int) < (ja6 l))) = false -> (true = true /\ (0 <= List.length f.t /\ List.any (f.t.take 0) (fun r => decide (20 < r.length)) = false) /\ (true = true /\ (jas = nI jap /\ jam) /\ ((keptR 4 (.cells true 0 (jao f))) /\ True) /\ (True) /\ (True)) /\ jai /\ ∀ x0 : Nat,(jaw x0 f) -> (((decide ((ja7 x0) < (jau f))) = true -> (((0 : Int) <= (x0 : Int) /\ (ja7 x0) < (jau f)) /\ (((inL f.t)[(0 + Int.toNat (x0 : Int) * 1)]? = some (.iface ((f.t.getD x0 []).length + 1) (.agg ⟨((f.t.getD x0 []).flatMap intC)⟩))) /\ (∃ y1 : Int,(nI (((f.t.getD x0 []).length : Nat) : Int) : Value) = nI y1 /\ (((decide ((20 : Int) < y1)) = true -> jag = sp) /\ ((decide ((20 : Int) < y1)) = false -> ((ja5 x0) = nI ((x0 : Int) + 1) /\ (∃ x0' : Nat,(x0' <= List.length f.t /\ List.any (f.t.take x0') (fun r => decide (20 < r.length)) = false) /\ (List.length f.t - x0') < (List.length f.t - x0) /\ true = true /\ ((jal x0) = nI (x0' : Int) /\ jam) /\ ((keptR 4 (.cells true 0 (jao f))) /\ True) /\ (True) /\ (True))))))))) /\ ((decide ((ja7 x0) < (jau f))) = false -> jae = sp)))))))))
abbrev jat : Hint:=.go 0 (.again [])
theorem Egreat (sp : Value) (f : Fleet) (l : List Rq) : vF prog msk (dm 0) 100000 true 40 true 13 [.agg #[slQ 0 2 f.t.length,slQ 1 2 f.b.length],slQ 2 2 l.length] (readsT 0 [inL f.t,f.b.flatMap intC,l.flatMap rqC]) (some [])
 (.go 6 (.gfork (.auto) (.go 5 (.gfork (.auto) (.go 3 (.fork (.auto) (.go 0 (.inv 3 (Nat) (0) [] [3] (fun x0 => [(5,nI (x0 : Int)),(2,.pointer (some ⟨3,0,none⟩))]) (fun x0 => [(3,true,.cells true 0 (jao f))]) (fun x0 => []) (fun x0 => []) (fun x0 => (jaw x0 f)) (fun x0 => (List.length f.t - x0)) (fun x0 => .go 4 (.fork (.go 2 (.need (.val (.iface ((f.t.getD x0 []).length + 1) (.agg ⟨((f.t.getD x0 []).flatMap intC)⟩)) (.go 0 (.bind Int (fun y1 => .slot 33 (nI y1) (.go 0 (.fork (.auto) (.go 1 (.slot 27 (nI ((x0 : Int) + 1)) jat)))))))))) (.auto)))))))))))
 (fun v _ _ => v = sp) = Rgreat sp f l:=by kernel_rfl
abbrev jac : Value:=.slice none 0 0
abbrev ja3 (l1_ : List Int) : Prop:=(0 + l1_.length) * 8 <= 2 ^ 44 /\ l1_.length ≠ 0 /\ (0 = 0) /\ (l1_.length <= l1_.length /\ 0 + l1_.length * 1 <= List.length (l1_.flatMap intC)) /\ ((((l1_.flatMap intC).drop 0).take (l1_.length * 1)) : List Value).all (fun v => one1 v) = true
abbrev jax (l1_ : List Int) : KObj:=.cells true 1 ([] ++ (((l1_.flatMap intC).drop 0).take (l1_.length * 1)))
abbrev jar (l1_ : List Int) : KObj:=.cells true 1 (l1_.flatMap intC)
def RCopyD (l1_ : List Int) : Prop :=
 ((l1_.length = 0 -> (((0 + l1_.length) * 8 <= 2 ^ 44 /\ l1_.length = 0) /\ (true = true /\ wk jac (rn (sg 0 []) 3 (slQ 0 1 l1_.length : Value)) /\ (True /\ True)))) /\ (¬ (l1_.length = 0) -> ((ja3 l1_) /\ true = true /\ (true = true /\ wk (.slice (some ⟨1,0,none⟩) (0 + l1_.length) (0 + l1_.length) : Value) (rn (sg 0 [(0,1)]) 3 (slQ 0 1 l1_.length : Value)) /\ ((some (jax l1_) = some (jar l1_) /\ belowO 0 (jar l1_) = true) /\ True)))))
theorem ECopyD (l1_ : List Int) : vF prog msk (dm 0) 100000 true 40 true 58 [.iface (l1_.length + 1) (.agg ⟨(l1_.flatMap intC)⟩)] ⟨0,.leaf⟩ (some [])
 (.go 3 (.frz [5] (.cas (l1_.length = 0) (.val (.bool true) jat) (.need (.go 0 (.again [(0,1)]))))))
 (newK (⟨0,.leaf⟩ : HT).n 3 (slQ 0 1 l1_.length) [(true,.cells true 1 (l1_.flatMap intC))]) = RCopyD l1_:=by kernel_rfl
def RCopyB (l1_ : List Int) : Prop :=
 ((l1_.length = 0 -> (((0 + l1_.length) * 8 <= 2 ^ 44 /\ l1_.length = 0) /\ (true = true /\ wk jac (rn (sg 1 []) 3 (slQ 1 1 l1_.length : Value)) /\ (True /\ True)))) /\ (¬ (l1_.length = 0) -> ((ja3 l1_) /\ true = true /\ (true = true /\ wk (.slice (some ⟨1,0,none⟩) (0 + l1_.length) (0 + l1_.length) : Value) (rn (sg 1 [(1,1)]) 3 (slQ 1 1 l1_.length : Value)) /\ ((some (jax l1_) = some (jar l1_) /\ belowO 1 (jar l1_) = true) /\ True)))))
theorem ECopyB (l1_ : List Int) : vF prog msk (dm 0) 100000 true 40 true 58 [slQ 0 2 l1_.length] (readsT 0 [l1_.flatMap intC]) (some [])
 (.go 3 (.cas (l1_.length = 0) (.val (.bool true) jat) (.need (.go 0 (.again [(1,1)])))))
 (newK ((readsT 0 [l1_.flatMap intC]) : HT).n 3 (slQ 1 1 l1_.length) [(true,.cells true 1 (l1_.flatMap intC))]) = RCopyB l1_:=by kernel_rfl
abbrev jaq : Prop:=jac = .slice none 0 0 /\ True
abbrev ja8 (L : List (List Int)) (x0 : Nat) : List Value:=[.iface ((L.getD x0 []).length + 1) (.agg ⟨((L.getD x0 []).flatMap intC)⟩)]
def Rrows (L : List (List Int)) : Prop :=
 (true = true /\ (0 <= List.length L) /\ (true = true /\ (jas = nI jap /\ wk jac (slQ 0 1 0 : Value) /\ wkR (slQ 0 2 L.length) /\ jaq) /\ (True) /\ (True /\ True) /\ (True)) /\ jai /\ ∀ x0 : Nat,(x0 <= List.length L) -> (((decide ((ja7 x0) < ((L.length : Nat) : Int))) = true -> (((0 : Int) <= (x0 : Int) /\ (ja7 x0) < ((L.length : Nat) : Int)) /\ (((inL L)[(0 + Int.toNat (x0 : Int) * 1)]? = some (.iface ((L.getD x0 []).length + 1) (.agg ⟨((L.getD x0 []).flatMap intC)⟩))) /\ ((True) /\ (∀ H' : Heap,H'.length = 2 -> (True) -> KCall prog 58 (ja8 L x0) H' [] (Is (slQ 2 1 (L.getD x0 []).length) (H' ++ [(.cells true 1 ((L.getD x0 []).flatMap intC) : KObj)]))) /\ (((x0 + 1) * 24 <= 2 ^ 44 /\ 1 ≠ 0 /\ (x0 <= x0 /\ 0 + x0 * 1 <= List.length (inL (L.take x0))) /\ (1 <= 1 /\ 0 + 1 * 1 <= List.length ((ja8 L x0) : List Value)) /\ (((((ja8 L x0) : List Value).drop 0).take (1 * 1)) : List Value).all (fun v => one1 v) = true) /\ true = true /\ ((ja5 x0) = nI ((x0 : Int) + 1) /\ (∃ x0' : Nat,(x0' <= List.length L) /\ (List.length L - x0') < (List.length L - x0) /\ true = true /\ ((jal x0) = nI (x0' : Int) /\ wk (.slice (some ⟨4,0,none⟩) (x0 + 1) (x0 + 1) : Value) (slQ 4 1 x0' : Value) /\ wkR (slQ 0 2 L.length) /\ jaq) /\ (True) /\ ((some (.cells true 1 ((((inL (L.take x0)).drop 0).take (x0 * 1)) ++ ((((ja8 L x0) : List Value).drop 0).take (1 * 1))) : KObj) = some (.cells true 1 (inL (L.take x0')) : KObj) /\ belowO 1 (.cells true 1 (inL (L.take x0')) : KObj) = true) /\ True) /\ (True)))))))) /\ ((decide ((ja7 x0) < ((L.length : Nat) : Int))) = false -> (true = true /\ wk (slQ 1 1 x0 : Value) (rn (sg 1 [(1,1)]) 3 (slQ 1 1 L.length : Value)) /\ ((some (.cells true 1 (inL (L.take x0)) : KObj) = some (.cells true 1 (inL L) : KObj) /\ belowO 1 (.cells true 1 (inL L) : KObj) = true) /\ True)))))
theorem Erows (L : List (List Int)) : vF prog msk (dm 0) 100000 true 40 true 50 [slQ 0 2 L.length] (readsT 0 [inL L]) (some [])
 (.go 2 (.inv 3 (Nat) (0) [] [] (fun x0 => [(4,nI (x0 : Int)),(3,slQ 1 1 x0),(0,slQ 0 2 L.length),(2,.slice none 0 0)]) (fun x0 => []) (fun x0 => [(true,.cells true 1 (inL (L.take x0)))]) (fun x0 => []) (fun x0 => (x0 <= List.length L)) (fun x0 => (List.length L - x0)) (fun x0 => .go 3 (.fork (.go 1 (.need (.val (.iface ((L.getD x0 []).length + 1) (.agg ⟨((L.getD x0 []).flatMap intC)⟩)) (.ans [] (slQ 2 1 (L.getD x0 []).length) [.cells true 1 ((L.getD x0 []).flatMap intC)] (.go 0 (.frz [5] (.go 2 (.need (.go 2 (.slot 11 (nI ((x0 : Int) + 1)) (.go 0 (.again [(1,4)])))))))))))) (.go 1 (.again [(1,1)]))))))
 (newK ((readsT 0 [inL L]) : HT).n 3 (slQ 1 1 L.length) [(true,.cells true 1 (inL L))]) = Rrows L:=by kernel_rfl
abbrev jaj (f : Fleet):=f.b.flatMap intC
def RFleet (f : Fleet) : Prop :=
 (((someR (.cells false 0 (inL f.t))) /\ True) /\ (∀ H' : Heap,H'.length = 4 -> (H'[0]? = some (.cells false 0 (inL f.t) : KObj) /\ True) -> KCall prog 50 [slQ 0 2 f.t.length] H' [] (Is (slQ 4 1 f.t.length) (H' ++ [(.cells true 1 (inL f.t) : KObj)]))) /\ (((someR (.cells false 0 (jaj f))) /\ True) /\ (∀ H' : Heap,H'.length = 5 -> (H'[1]? = some (.cells false 0 (jaj f) : KObj) /\ True) -> KCall prog 58 [slQ 1 2 f.b.length] H' [] (Is (slQ 5 1 f.b.length) (H' ++ [(.cells true 1 (jaj f) : KObj)]))) /\ (true = true /\ wk (.agg #[slQ 4 1 f.t.length,slQ 5 1 f.b.length] : Value) (rn (sg 2 [(2,4),(3,5)]) 3 (.agg #[slQ 2 1 f.t.length,slQ 3 1 f.b.length] : Value)) /\ ((keptR 2 (.cells true 1 (inL f.t))) /\ (keptR 2 (.cells true 1 (jaj f))) /\ True))))
theorem EFleet (f : Fleet) : vF prog msk (dm 0) 100000 true 40 true 15 [.agg #[slQ 0 2 f.t.length,slQ 1 2 f.b.length]] (readsT 0 [inL f.t,f.b.flatMap intC]) (some [])
 (.go 5 (.ans [(0,.cells false 0 (inL f.t))] (slQ 4 1 f.t.length) [.cells true 1 (inL f.t)] (.ans [(1,.cells false 0 (jaj f))] (slQ 5 1 f.b.length) [.cells true 1 (jaj f)] (.go 1 (.again [(2,4),(3,5)])))))
 (newK ((readsT 0 [inL f.t,f.b.flatMap intC]) : HT).n 3 (.agg #[slQ 2 1 f.t.length,slQ 3 1 f.b.length]) [(true,.cells true 1 (inL f.t)),(true,.cells true 1 (jaj f))]) = RFleet f:=by kernel_rfl
abbrev jaa (l : List Rq) (x0 : Nat) : Value:=.agg #[nI (l.getD x0 zeroQ).id,nI (l.getD x0 zeroQ).at_,nI (l.getD x0 zeroQ).place,nI (l.getD x0 zeroQ).dest,nI (l.getD x0 zeroQ).len,nI (l.getD x0 zeroQ).prio,nI (l.getD x0 zeroQ).limit]
abbrev ja2 (l : List Rq) (x0 : Nat) : List Value:=[nI (l.getD x0 zeroQ).id,nI (l.getD x0 zeroQ).at_,nI (l.getD x0 zeroQ).place,nI (l.getD x0 zeroQ).dest,nI (l.getD x0 zeroQ).len,nI (l.getD x0 zeroQ).prio,nI (l.getD x0 zeroQ).limit]
def RRequests (l : List Rq) : Prop :=
 (true = true /\ (0 <= List.length l) /\ (true = true /\ (jas = nI jap /\ wk jac (slQ 0 1 0 : Value) /\ wkR (slQ 0 2 l.length) /\ jaq) /\ (True) /\ (True /\ True) /\ (True)) /\ jai /\ ∀ x0 : Nat,(x0 <= List.length l) -> (((decide ((ja7 x0) < (ja6 l))) = true -> (((0 : Int) <= (x0 : Int) /\ (ja7 x0) < (ja6 l)) /\ ((partA 7 (l.flatMap rqC) (0 + Int.toNat (x0 : Int) * 7) = some (jaa l x0)) /\ (((x0 + 1) * 56 <= 2 ^ 44 /\ 1 ≠ 0 /\ (x0 <= x0 /\ 0 + x0 * 7 <= List.length ((l.take x0).flatMap rqC)) /\ (1 <= 1 /\ 0 + 1 * 7 <= List.length (ja2 l x0)) /\ ((((ja2 l x0).drop 0).take (1 * 7)) : List Value).all (fun v => one1 v) = true) /\ true = true /\ ((ja5 x0) = nI ((x0 : Int) + 1) /\ (∃ x0' : Nat,(x0' <= List.length l) /\ (List.length l - x0') < (List.length l - x0) /\ true = true /\ ((jal x0) = nI (x0' : Int) /\ wk (.slice (some ⟨3,0,none⟩) (x0 + 1) (x0 + 1) : Value) (slQ 3 1 x0' : Value) /\ wkR (slQ 0 2 l.length) /\ jaq) /\ (True) /\ ((some (.cells true 7 (((((l.take x0).flatMap rqC).drop 0).take (x0 * 7)) ++ (((ja2 l x0).drop 0).take (1 * 7))) : KObj) = some (.cells true 7 ((l.take x0').flatMap rqC) : KObj) /\ belowO 1 (.cells true 7 ((l.take x0').flatMap rqC) : KObj) = true) /\ True) /\ (True))))))) /\ ((decide ((ja7 x0) < (ja6 l))) = false -> (true = true /\ wk (slQ 1 1 x0 : Value) (rn (sg 1 [(1,1)]) 3 (slQ 1 1 l.length : Value)) /\ ((some (.cells true 7 ((l.take x0).flatMap rqC) : KObj) = some (.cells true 7 (l.flatMap rqC) : KObj) /\ belowO 1 (.cells true 7 (l.flatMap rqC) : KObj) = true) /\ True)))))
theorem ERequests (l : List Rq) : vF prog msk (dm 0) 100000 true 40 true 16 [slQ 0 2 l.length] (readsT 0 [l.flatMap rqC]) (some [])
 (.go 2 (.inv 3 (Nat) (0) [] [] (fun x0 => [(4,nI (x0 : Int)),(3,slQ 1 1 x0),(0,slQ 0 2 l.length),(2,.slice none 0 0)]) (fun x0 => []) (fun x0 => [(true,.cells true 7 ((l.take x0).flatMap rqC))]) (fun x0 => []) (fun x0 => (x0 <= List.length l)) (fun x0 => (List.length l - x0)) (fun x0 => .go 3 (.fork (.go 2 (.need (.val (jaa l x0) (.go 0 (.need (.go 2 (.slot 10 (nI ((x0 : Int) + 1)) (.go 0 (.again [(1,3)]))))))))) (.go 1 (.again [(1,1)]))))))
 (newK ((readsT 0 [l.flatMap rqC]) : HT).n 3 (slQ 1 1 l.length) [(true,.cells true 7 (l.flatMap rqC))]) = RRequests l:=by kernel_rfl
abbrev ja4 (x : List Int) : Int:=(x.length : Nat)
abbrev ja1 (x : List Int) : Value:=.iface (x.length + 1) (.agg ⟨(x.flatMap intC)⟩)
abbrev jav (x : List Int) : Prop:=(ja1 x) = rn (sg 0 []) 3 (ja1 x) /\ (ja1 x) = rn (sg 0 []) 3 (ja1 x) /\ True
abbrev jah : Prop:=(True) /\ (True) /\ (True)
abbrev jan (x0 : Nat) (x : List Int) : Prop:=(0 : Int) <= (x0 : Int) /\ (ja7 x0) < (ja4 x)
def RSameD (sp : Value) (x : List Int) : Prop :=
 (((((ja4 x) : Int) != (ja4 x)) = true -> jae = sp) /\ ((((ja4 x) : Int) != (ja4 x)) = false -> (true = true /\ (0 <= List.length x) /\ (true = true /\ (jas = nI jap /\ jav x) /\ jah) /\ jai /\ ∀ x0 : Nat,(x0 <= List.length x) -> (((decide ((ja7 x0) < (ja4 x))) = true -> ((jan x0 x) /\ (((x.flatMap intC)[(Int.toNat (x0 : Int) * 1)]? = some (nI (x.getD x0 0))) /\ ((jan x0 x) /\ (((x.flatMap intC)[(Int.toNat (x0 : Int) * 1)]? = some (nI (x.getD x0 0))) /\ (((((x.getD x0 0) : Int) != (x.getD x0 0)) = true -> jae = sp) /\ ((((x.getD x0 0) : Int) != (x.getD x0 0)) = false -> ((ja5 x0) = nI ((x0 : Int) + 1) /\ (∃ x0' : Nat,(x0' <= List.length x) /\ (List.length x - x0') < (List.length x - x0) /\ true = true /\ ((jal x0) = nI (x0' : Int) /\ jav x) /\ jah))))))))) /\ ((decide ((ja7 x0) < (ja4 x))) = false -> jag = sp)))))
abbrev jad (x : List Int) (x0 : Nat) : Hint:=.fork (.go 1 (.need (.val (nI (x.getD x0 0)) (.go 1 (.need (.val (nI (x.getD x0 0)) (.go 0 (.fork (.auto) (.go 1 (.slot 16 (nI ((x0 : Int) + 1)) jat)))))))))) (.auto)
theorem ESameD (sp : Value) (x : List Int) : vF prog msk (dm 0) 100000 true 40 true 44 [.iface (x.length + 1) (.agg ⟨(x.flatMap intC)⟩),.iface (x.length + 1) (.agg ⟨(x.flatMap intC)⟩)] ⟨0,.leaf⟩ (some [])
 (.go 5 (.fork (.auto) (.go 0 (.inv 3 (Nat) (0) [] [] (fun x0 => [(5,nI (x0 : Int)),(1,.iface (x.length + 1) (.agg ⟨(x.flatMap intC)⟩)),(0,.iface (x.length + 1) (.agg ⟨(x.flatMap intC)⟩))]) (fun x0 => []) (fun x0 => []) (fun x0 => []) (fun x0 => (x0 <= List.length x)) (fun x0 => (List.length x - x0)) (fun x0 => .go 3 (jad x x0))))))
 (fun v _ _ => v = sp) = RSameD sp x:=by kernel_rfl
def RSameB (sp : Value) (x : List Int) : Prop :=
 (((((ja4 x) : Int) != (ja4 x)) = true -> jae = sp) /\ ((((ja4 x) : Int) != (ja4 x)) = false -> (true = true /\ (0 <= List.length x) /\ (true = true /\ (jas = nI jap /\ wkR (slQ 1 2 x.length) /\ wkR (slQ 0 2 x.length) /\ True) /\ jah) /\ jai /\ ∀ x0 : Nat,(x0 <= List.length x) -> (((decide ((ja7 x0) < (ja4 x))) = true -> ((jan x0 x) /\ (((x.flatMap intC)[(0 + Int.toNat (x0 : Int) * 1)]? = some (nI (x.getD x0 0))) /\ ((jan x0 x) /\ (((x.flatMap intC)[(0 + Int.toNat (x0 : Int) * 1)]? = some (nI (x.getD x0 0))) /\ (((((x.getD x0 0) : Int) != (x.getD x0 0)) = true -> jae = sp) /\ ((((x.getD x0 0) : Int) != (x.getD x0 0)) = false -> ((ja5 x0) = nI ((x0 : Int) + 1) /\ (∃ x0' : Nat,(x0' <= List.length x) /\ (List.length x - x0') < (List.length x - x0) /\ true = true /\ ((jal x0) = nI (x0' : Int) /\ wkR (slQ 1 2 x.length) /\ wkR (slQ 0 2 x.length) /\ True) /\ jah))))))))) /\ ((decide ((ja7 x0) < (ja4 x))) = false -> jag = sp)))))
theorem ESameB (sp : Value) (x : List Int) : vF prog msk (dm 0) 100000 true 40 true 44 [slQ 0 2 x.length,slQ 1 2 x.length] (readsT 0 [x.flatMap intC,x.flatMap intC]) (some [])
 (.go 5 (.fork (.auto) (.go 0 (.inv 3 (Nat) (0) [] [] (fun x0 => [(5,nI (x0 : Int)),(1,slQ 1 2 x.length),(0,slQ 0 2 x.length)]) (fun x0 => []) (fun x0 => []) (fun x0 => []) (fun x0 => (x0 <= List.length x)) (fun x0 => (List.length x - x0)) (fun x0 => .go 3 (jad x x0))))))
 (fun v _ _ => v = sp) = RSameB sp x:=by kernel_rfl
abbrev jak (X : List (List Int)) : Int:=(X.length : Nat)
abbrev ja9 (X : List (List Int)) (x0 : Nat) : Value:=.iface ((X.getD x0 []).length + 1) (.agg ⟨((X.getD x0 []).flatMap intC)⟩)
def RsameRows (sp : Value) (X : List (List Int)) : Prop :=
 (((((jak X) : Int) != (jak X)) = true -> jae = sp) /\ ((((jak X) : Int) != (jak X)) = false -> (true = true /\ (0 <= List.length X) /\ (true = true /\ (jas = nI jap /\ wkR (slQ 1 2 X.length) /\ wkR (slQ 0 2 X.length) /\ True) /\ jah) /\ jai /\ ∀ x0 : Nat,(x0 <= List.length X) -> (((decide ((ja7 x0) < (jak X))) = true -> (((0 : Int) <= (x0 : Int) /\ (ja7 x0) < (jak X)) /\ (((inL X)[(0 + Int.toNat (x0 : Int) * 1)]? = some (ja9 X x0)) /\ (((0 : Int) <= (x0 : Int) /\ (ja7 x0) < (jak X)) /\ (((inL X)[(0 + Int.toNat (x0 : Int) * 1)]? = some (ja9 X x0)) /\ ((True) /\ (∀ H' : Heap,H'.length = 2 -> (True) -> KCall prog 44 [.iface ((X.getD x0 []).length + 1) (.agg ⟨((X.getD x0 []).flatMap intC)⟩),.iface ((X.getD x0 []).length + 1) (.agg ⟨((X.getD x0 []).flatMap intC)⟩)] H' [] (Is (.bool true) H')) /\ ((ja5 x0) = nI ((x0 : Int) + 1) /\ (∃ x0' : Nat,(x0' <= List.length X) /\ (List.length X - x0') < (List.length X - x0) /\ true = true /\ ((jal x0) = nI (x0' : Int) /\ wkR (slQ 1 2 X.length) /\ wkR (slQ 0 2 X.length) /\ True) /\ jah)))))))) /\ ((decide ((ja7 x0) < (jak X))) = false -> jag = sp)))))
theorem EsameRows (sp : Value) (X : List (List Int)) : vF prog msk (dm 0) 100000 true 40 true 49 [slQ 0 2 X.length,slQ 1 2 X.length] (readsT 0 [inL X,inL X]) (some [])
 (.go 5 (.fork (.auto) (.go 0 (.inv 3 (Nat) (0) [] [] (fun x0 => [(5,nI (x0 : Int)),(1,slQ 1 2 X.length),(0,slQ 0 2 X.length)]) (fun x0 => []) (fun x0 => []) (fun x0 => []) (fun x0 => (x0 <= List.length X)) (fun x0 => (List.length X - x0)) (fun x0 => .go 3 (.fork (.go 1 (.need (.val (ja9 X x0) (.go 1 (.need (.val (ja9 X x0) (.ans [] (.bool true) [] (.go 3 (.slot 16 (nI ((x0 : Int) + 1)) jat))))))))) (.auto)))))))
 (fun v _ _ => v = sp) = RsameRows sp X:=by kernel_rfl
abbrev jab (f : Fleet) : Prop:=((keptR 8 (.cells true 0 (jao f))) /\ (keptR 8 (.cells true 0 [slQ 2 2 f.t.length,slQ 3 2 f.b.length])) /\ True) /\ (True) /\ (True)
abbrev jaf (l : List Rq) (x2 : Nat):=l.getD x2 zeroQ
abbrev ja0 (l : List Rq) (x2 : Nat) : Value:=.agg #[nI (jaf l x2).id,nI (jaf l x2).at_,nI (jaf l x2).place,nI (jaf l x2).dest,nI (jaf l x2).len,nI (jaf l x2).prio,nI (jaf l x2).limit]
def Rkept (sp : Value) (f : Fleet) (l : List Rq) : Prop :=
 (((someR (.cells false 0 (inL f.t))) /\ (someR (.cells false 0 (inL f.t))) /\ True) /\ (∀ H' : Heap,H'.length = 8 -> (H'[0]? = some (.cells false 0 (inL f.t) : KObj) /\ H'[2]? = some (.cells false 0 (inL f.t) : KObj) /\ True) -> KCall prog 49 [slQ 0 2 f.t.length,slQ 2 2 f.t.length] H' [] (Is (.bool true) H')) /\ (((someR (.cells false 0 (jaj f))) /\ (someR (.cells false 0 (jaj f))) /\ True) /\ (∀ H' : Heap,H'.length = 8 -> (H'[1]? = some (.cells false 0 (jaj f) : KObj) /\ H'[3]? = some (.cells false 0 (jaj f) : KObj) /\ True) -> KCall prog 44 [slQ 1 2 f.b.length,slQ 3 2 f.b.length] H' [] (Is (.bool true) H')) /\ (((((ja6 l) : Int) != (ja6 l)) = true -> jae = sp) /\ ((((ja6 l) : Int) != (ja6 l)) = false -> (true = true /\ (0 <= List.length l) /\ (true = true /\ (jas = nI jap /\ wkR (slQ 5 2 l.length) /\ wkR (slQ 4 2 l.length) /\ True) /\ jab f) /\ (∀ x2 : Nat,true = true) /\ ∀ x2 : Nat,(x2 <= List.length l) -> (((decide (((x2 : Int) : Int) < (ja6 l))) = true -> (((0 : Int) <= (x2 : Int) /\ ((x2 : Int) : Int) < (ja6 l)) /\ ((partA 7 (l.flatMap rqC) (0 + Int.toNat (x2 : Int) * 7) = some (ja0 l x2)) /\ (((0 : Int) <= (x2 : Int) /\ ((x2 : Int) : Int) < (ja6 l)) /\ ((partA 7 (l.flatMap rqC) (0 + Int.toNat (x2 : Int) * 7) = some (ja0 l x2)) /\ (((!((((jaf l x2).id : Int) == (jaf l x2).id) && ((((jaf l x2).at_ : Int) == (jaf l x2).at_) && ((((jaf l x2).place : Int) == (jaf l x2).place) && ((((jaf l x2).dest : Int) == (jaf l x2).dest) && ((((jaf l x2).len : Int) == (jaf l x2).len) && ((((jaf l x2).prio : Int) == (jaf l x2).prio) && ((((jaf l x2).limit : Int) == (jaf l x2).limit) && true)))))))) = true -> jae = sp) /\ ((!((((jaf l x2).id : Int) == (jaf l x2).id) && ((((jaf l x2).at_ : Int) == (jaf l x2).at_) && ((((jaf l x2).place : Int) == (jaf l x2).place) && ((((jaf l x2).dest : Int) == (jaf l x2).dest) && ((((jaf l x2).len : Int) == (jaf l x2).len) && ((((jaf l x2).prio : Int) == (jaf l x2).prio) && ((((jaf l x2).limit : Int) == (jaf l x2).limit) && true)))))))) = false -> ((nI (IntKind.wrap .i64 ((x2 : Int) + 1)) : Value) = nI ((x2 : Int) + 1) /\ (∃ x2' : Nat,(x2' <= List.length l) /\ (List.length l - x2') < (List.length l - x2) /\ true = true /\ ((nI ((x2 : Int) + 1) : Value) = nI (x2' : Int) /\ wkR (slQ 5 2 l.length) /\ wkR (slQ 4 2 l.length) /\ True) /\ jab f))))))))) /\ ((decide (((x2 : Int) : Int) < (ja6 l))) = false -> jag = sp)))))))
theorem Ekept (sp : Value) (f : Fleet) (l : List Rq) : vF prog msk (dm 0) 100000 true 40 true 25 [.agg #[slQ 0 2 f.t.length,slQ 1 2 f.b.length],.agg #[slQ 2 2 f.t.length,slQ 3 2 f.b.length],slQ 4 2 l.length,slQ 5 2 l.length] (readsT 0 [inL f.t,f.b.flatMap intC,inL f.t,f.b.flatMap intC,l.flatMap rqC,l.flatMap rqC]) (some [])
 (.go 6 (.ans [(0,.cells false 0 (inL f.t)),(2,.cells false 0 (inL f.t))] (.bool true) [] (.go 5 (.ans [(1,.cells false 0 (jaj f)),(3,.cells false 0 (jaj f))] (.bool true) [] (.go 8 (.fork (.auto) (.go 0 (.inv 3 (Nat) (0) [] [6,7] (fun x2 => [(9,nI (x2 : Int)),(3,slQ 5 2 l.length),(2,slQ 4 2 l.length)]) (fun x2 => [(6,true,.cells true 0 (jao f)),(7,true,.cells true 0 [slQ 2 2 f.t.length,slQ 3 2 f.b.length])]) (fun x2 => []) (fun x2 => []) (fun x2 => (x2 <= List.length l)) (fun x2 => (List.length l - x2)) (fun x2 => .go 3 (.fork (.go 1 (.need (.val (ja0 l x2) (.go 1 (.need (.val (ja0 l x2) (.go 0 (.fork (.auto) (.go 1 (.slot 36 (nI ((x2 : Int) + 1)) jat)))))))))) (.auto)))))))))))
 (fun v _ _ => v = sp) = Rkept sp f l:=by kernel_rfl
end
end Go.Proofs.YthdekmpkioikdaaGreat
