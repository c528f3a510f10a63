/- What is to be shown of functions. Printed by a program. No condition. -/
import Derived.Test.YthdekmpkioikdaaGreatGK27xR1g
import Derived.Test.YthdekmpkioikdaaGreatGK29xR9f
namespace Go.Proofs.YthdekmpkioikdaaGreat
set_option linter.unusedSimpArgs false
open Go Go.K
set_option maxRecDepth 100000
set_option maxHeartbeats 4000000
set_option linter.unusedVariables false
noncomputable section
abbrev jf11 : Value := nI 0
def Rcmp (sp : Value) (a b : Int) : Prop :=
  ((((a : Int) != a) = true → ((((b : Int) != b) = true → jf11 = sp) ∧ (((b : Int) != b) = false → (nI (-1) : Value) = sp))) ∧ (((a : Int) != a) = false → ((((b : Int) != b) = true → (nI 1 : Value) = sp) ∧ (((b : Int) != b) = false → (((decide ((a : Int) < b)) = true → (nI (-1) : Value) = sp) ∧ ((decide ((a : Int) < b)) = false → (((decide ((b : Int) < a)) = true → (nI 1 : Value) = sp) ∧ ((decide ((b : Int) < a)) = false → jf11 = sp))))))))
theorem Ecmp (sp : Value) (a b : Int) : vF prog msk (dm 0) 100000 true 40 true 152 [nI a, nI b] ⟨0, .leaf⟩ (some [])
  (.go 17 (.fork (.go 0 (.fork (.auto) (.auto))) (.go 0 (.fork (.auto) (.go 2 (.fork (.auto) (.go 2 (.fork (.auto) (.auto)))))))))
  (fun v _ _ => v = sp) = Rcmp sp a b := by kernel_rfl
def Rbefore (sp : Value) (a1_ b1_ : Rq) : Prop :=
  (((decide ((a1_.at_ : Int) < b1_.at_)) = true → (.bool true : Value) = sp) ∧ ((decide ((a1_.at_ : Int) < b1_.at_)) = false → ((((a1_.at_ : Int) == b1_.at_) = true → (.bool (decide ((a1_.id : Int) < b1_.id)) : Value) = sp) ∧ (((a1_.at_ : Int) == b1_.at_) = false → (.bool false : Value) = sp))))
theorem Ebefore (sp : Value) (a1_ b1_ : Rq) : vF prog msk (dm 0) 100000 true 40 true 142 [.agg #[nI a1_.id, nI a1_.at_, nI a1_.place, nI a1_.dest, nI a1_.len, nI a1_.prio, nI a1_.limit], .agg #[nI b1_.id, nI b1_.at_, nI b1_.place, nI b1_.dest, nI b1_.len, nI b1_.prio, nI b1_.limit]] ⟨0, .leaf⟩ (some [])
  (.go 8 (.gfork (.auto) (.go 5 (.gfork (.auto) (.auto)))))
  (fun v _ _ => v = sp) = Rbefore sp a1_ b1_ := by kernel_rfl
abbrev jfd (l : List Rq) : Int := (l.length : Nat)
abbrev jf1l (l : List Rq) := l.flatMap rqC
abbrev jfj (l : List Rq) (i : Int) := l.getD i.toNat zeroQ
abbrev jf18 (l : List Rq) (i : Int) : Value := .agg #[nI (jfj l i).id, nI (jfj l i).at_, nI (jfj l i).place, nI (jfj l i).dest, nI (jfj l i).len, nI (jfj l i).prio, nI (jfj l i).limit]
abbrev jfl (l : List Rq) (k : Int) := l.getD k.toNat zeroQ
abbrev jf19 (l : List Rq) (k : Int) : Value := .agg #[nI (jfl l k).id, nI (jfl l k).at_, nI (jfl l k).place, nI (jfl l k).dest, nI (jfl l k).len, nI (jfl l k).prio, nI (jfl l k).limit]
def Rlater (sp : Value) (f : Fleet) (l : List Rq) (X Y : List Int) (i k : Int) : Prop :=
  (((0 : Int) ≤ i ∧ (i : Int) < (jfd l)) ∧ ((partA 7 (jf1l l) (0 + Int.toNat i * 7) = some (jf18 l i)) ∧ (((0 : Int) ≤ k ∧ (k : Int) < (jfd l)) ∧ ((partA 7 (jf1l l) (0 + Int.toNat k * 7) = some (jf19 l k)) ∧ ((True) ∧ (∀ H' : Heap, H'.length = 8 → (True) → KCall prog 152 [nI (jfj l i).at_, nI (jfl l k).at_] H' [] (Is (nI (cmpI (jfj l i).at_ (jfl l k).at_)) H')) ∧ ((True) ∧ (∀ H' : Heap, H'.length = 8 → (True) → KCall prog 152 [nI (jfj l i).id, nI (jfl l k).id] H' [] (Is (nI (cmpI (jfj l i).id (jfl l k).id)) H')) ∧ (∃ y2 : Int, (nI (cmpI (jfj l i).at_ (jfl l k).at_) : Value) = nI y2 ∧ ((((y2 : Int) != 0) = true → (nI y2 : Value) = sp) ∧ (((y2 : Int) != 0) = false → (∃ y3 : Int, (nI (cmpI (jfj l i).id (jfl l k).id) : Value) = nI y3 ∧ ((((y3 : Int) != 0) = true → (nI y3 : Value) = sp) ∧ (((y3 : Int) != 0) = false → jf11 = sp))))))))))))
theorem Elater (sp : Value) (f : Fleet) (l : List Rq) (X Y : List Int) (i k : Int) : vF prog msk (dm 0) 100000 true 40 true 120 [.pointer (some ⟨5, 0, none⟩), nI i, nI k] (readsT 0 [inL f.t, f.b.flatMap intC, l.flatMap rqC, X.flatMap intC, Y.flatMap intC, wkC f l X Y]) (some [])
  (.go 5 (.need (.val (jf18 l i) (.go 4 (.need (.val (jf19 l k) (.go 11 (.ans [] (nI (cmpI (jfj l i).at_ (jfl l k).at_)) [] (.ans [] (nI (cmpI (jfj l i).id (jfl l k).id)) [] (.go 10 (.bind Int (fun y2 => .slot 11 (nI y2) (.go 3 (.fork (.auto) (.go 5 (.bind Int (fun y3 => .slot 11 (nI y3) (.go 3 (.fork (.auto) (.auto))))))))))))))))))))
  (fun v _ _ => v = sp) = Rlater sp f l X Y i k := by kernel_rfl
abbrev jf12 (f : Fleet) := f.b.flatMap intC
abbrev jf1v (f : Fleet) := someR (.cells false 0 (jf12 f))
abbrev jf5 (f : Fleet) (l : List Rq) (h : List Sv) : Prop := (someR (.cells false 0 (inL f.t))) ∧ (jf1v f) ∧ (someR (.cells false 0 (jf1l l))) ∧ (someR (.cells false 0 (h.flatMap svC))) ∧ True
abbrev jf1 (H' : Heap) (f : Fleet) (l : List Rq) (h : List Sv) : Prop := H'[0]? = some (.cells false 0 (inL f.t) : KObj) ∧ H'[1]? = some (.cells false 0 (jf12 f) : KObj) ∧ H'[2]? = some (.cells false 0 (jf1l l) : KObj) ∧ H'[3]? = some (.cells false 0 (h.flatMap svC) : KObj) ∧ True
abbrev jf7 (f : Fleet) (l : List Rq) (h : List Sv) : List Value := [.agg #[slQ 0 2 f.t.length, slQ 1 2 f.b.length], slQ 2 2 l.length, slQ 3 2 h.length]
abbrev jfy (f : Fleet) (l : List Rq) (h : List Sv) : Prop := ∀ H' : Heap, H'.length = 5 → (jf1 H' f l h) → KCall prog 87 (jf7 f l h) H' [] (Is (nI (errHist f l h)) H')
abbrev jfs (f : Fleet) (l : List Rq) (h : List Sv) : Prop := (((errHist f l h) : Int) != 0) = true → (true = true ∧ wk (.tuple #[.slice none 0 0, nI (errHist f l h)] : Value) (rn (sg 4 []) 3 (.tuple #[slQ 4 2 (List.length (fWaits f l h).1), nI (fWaits f l h).2] : Value)) ∧ (True ∧ True))
abbrev jfh (f : Fleet) : Prop := (0 : Int) ≤ ((f.b.length : Nat) : Int) ∧ (((f.b.length : Nat) : Int) : Int) ≤ ((f.b.length : Nat) : Int) ∧ (((f.b.length : Nat) : Int) : Int) < 2 ^ 62 ∧ 8 * (((f.b.length : Nat) : Int) : Int) ≤ 2 ^ 48
abbrev jfg (f : Fleet) : Prop := ∀ H' : Heap, H'.length = 7 → (H'[1]? = some (.cells false 0 (jf12 f) : KObj) ∧ True) → KCall prog 116 [slQ 1 2 f.b.length] H' [] (Is (slQ 7 1 f.b.length) (H' ++ [(.cells true 1 (jf12 f) : KObj)]))
abbrev jfr (l : List Rq) : Prop := (0 : Int) ≤ (jfd l) ∧ ((jfd l) : Int) ≤ (jfd l) ∧ ((jfd l) : Int) < 2 ^ 62 ∧ 8 * ((jfd l) : Int) ≤ 2 ^ 48
abbrev jf1i : Int := (0 : Nat)
abbrev jfo : Value := .slice none 0 0
abbrev jff (h : List Sv) : Int := (h.length : Nat)
abbrev jf2 (l : List Rq) (h : List Sv) : Prop := (.pointer (some ⟨8, 0, none⟩) : Value) = .pointer (some ⟨8, 0, none⟩) ∧ jfo = .slice none 0 0 ∧ (.slice (some ⟨9, 0, none⟩) l.length l.length : Value) = .slice (some ⟨9, 0, none⟩) l.length l.length ∧ wkR (slQ 3 2 h.length) ∧ (nI (jff h) : Value) = nI (jff h) ∧ True
abbrev jf1w (l : List Rq) : KObj := .cells true 1 (krep [nI 0] l.length)
abbrev jfv : Prop := (True) ∧ (True)
abbrev jf1r : Prop := ∀ x2 : Nat, true = true
abbrev jf13 (x2 : Nat) (h : List Sv) := decide (((x2 : Int) : Int) < (jff h))
abbrev jf1s (x2 : Nat) (h : List Sv) : Prop := (0 : Int) ≤ (x2 : Int) ∧ ((x2 : Int) : Int) < (jff h)
abbrev jfi (h : List Sv) (x2 : Nat) := h.getD x2 zeroV
abbrev jfb (h : List Sv) (x2 : Nat) : Value := .agg #[nI (jfi h x2).rq, nI (jfi h x2).br, nI (jfi h x2).tk, nI (jfi h x2).bg, nI (jfi h x2).nd]
abbrev jf1g (h : List Sv) (x2 : Nat) : Prop := partA 5 (h.flatMap svC) (0 + Int.toNat (x2 : Int) * 5) = some (jfb h x2)
abbrev jfw (h : List Sv) (x2 : Nat) (l : List Rq) : Prop := (0 : Int) ≤ (jfi h x2).rq ∧ ((jfi h x2).rq : Int) < (jfd l)
abbrev jf4 (l : List Rq) (h : List Sv) (x2 : Nat) := l.getD (Int.toNat (jfi h x2).rq) zeroQ
abbrev jf1t (x2 : Nat) : Value := nI (IntKind.wrap .i64 ((x2 : Int) + 1))
abbrev jf1z (l : List Rq) : Value := .tuple #[.slice (some ⟨9, 0, none⟩) l.length l.length, nI 0]
abbrev jf1h (f : Fleet) (l : List Rq) (h : List Sv) : KObj := .cells true 1 (List.flatMap intC (fWaits f l h).1)
def RWaits (f : Fleet) (l : List Rq) (h : List Sv) : Prop :=
  ((jf5 f l h) ∧ (jfy f l h) ∧ ((jfs f l h) ∧ ((((errHist f l h) : Int) != 0) = false → ((jfh f) ∧ (((jf1v f) ∧ True) ∧ (jfg f) ∧ ((jfr l) ∧ (true = true ∧ (0 ≤ List.length h) ∧ (true = true ∧ (jf11 = nI jf1i ∧ jf2 l h) ∧ ((some (jf1w l) = some (.cells true 1 ((wtH l h 0).flatMap intC) : KObj) ∧ belowO 10 (.cells true 1 ((wtH l h 0).flatMap intC) : KObj) = true) ∧ True) ∧ jfv) ∧ jf1r ∧ ∀ x2 : Nat, (x2 ≤ List.length h) → (((jf13 x2 h) = true → ((jf1s x2 h) ∧ ((jf1g h x2) ∧ ((jfw h x2 l) ∧ (((jf1l l)[((0 + Int.toNat (jfi h x2).rq * 7) + 1)]? = some (nI (jf4 l h x2).at_)) ∧ ((nI (IntKind.wrap .i64 ((jfi h x2).bg - (jf4 l h x2).at_)) : Value) = nI ((jfi h x2).bg - (jf4 l h x2).at_) ∧ ((jfw h x2 l) ∧ (((0 + Int.toNat (jfi h x2).rq * 1) + 1 ≤ List.length ((wtH l h x2).flatMap intC)) ∧ true = true ∧ ((jf1t x2) = nI ((x2 : Int) + 1) ∧ (∃ x2' : Nat, (x2' ≤ List.length h) ∧ (List.length h - x2') < (List.length h - x2) ∧ true = true ∧ ((nI ((x2 : Int) + 1) : Value) = nI (x2' : Int) ∧ jf2 l h) ∧ ((some (.cells true 1 (setl ((wtH l h x2).flatMap intC) (0 + Int.toNat (jfi h x2).rq * 1) [nI ((jfi h x2).bg - (jf4 l h x2).at_)]) : KObj) = some (.cells true 1 ((wtH l h x2').flatMap intC) : KObj) ∧ belowO 10 (.cells true 1 ((wtH l h x2').flatMap intC) : KObj) = true) ∧ True) ∧ jfv)))))))))) ∧ ((jf13 x2 h) = false → (true = true ∧ wk (jf1z l) (rn (sg 4 [(4, 9)]) 3 (.tuple #[slQ 4 2 (List.length (fWaits f l h).1), nI (fWaits f l h).2] : Value)) ∧ ((some (.cells true 1 ((wtH l h x2).flatMap intC) : KObj) = some (jf1h f l h) ∧ belowO 4 (jf1h f l h) = true) ∧ True)))))))))))
abbrev jfc (f : Fleet) (l : List Rq) (h : List Sv) := readsT 0 [inL f.t, f.b.flatMap intC, l.flatMap rqC, h.flatMap svC]
abbrev jf9 (f : Fleet) (l : List Rq) (h : List Sv) : List (Nat × KObj) := [(0, .cells false 0 (inL f.t)), (1, .cells false 0 (jf12 f)), (2, .cells false 0 (jf1l l)), (3, .cells false 0 (h.flatMap svC))]
abbrev jf1o : Hint := .go 2 (.again [])
abbrev jf1a : Nat × Value := (0, .pointer (some ⟨8, 0, none⟩))
abbrev jf1e : Nat × Value := (4, .slice none 0 0)
abbrev jf1q (l : List Rq) : Nat × Value := (5, .slice (some ⟨9, 0, none⟩) l.length l.length)
abbrev jf14 : Hint := .go 0 (.again [])
abbrev jf17 (f : Fleet) (l : List Rq) (h : List Sv) := newK ((jfc f l h) : HT).n 3 (.tuple #[slQ 4 2 (List.length (fWaits f l h).1), nI (fWaits f l h).2]) [(true, .cells true 1 (List.flatMap intC (fWaits f l h).1))]
theorem EWaits (f : Fleet) (l : List Rq) (h : List Sv) : vF prog msk (dm 0) 100000 true 40 true 42 (jf7 f l h) (jfc f l h) (some [])
  (.go 5 (.ans (jf9 f l h) (nI (errHist f l h)) [] (.go 2 (.fork jf1o (.go 9 (.need (.go 1 (.ans [(1, .cells false 0 (jf12 f))] (slQ 7 1 f.b.length) [.cells true 1 (jf12 f)] (.go 10 (.need (.go 3 (.inv 3 (Nat) (0) [] [9] (fun x2 => [(16, nI (x2 : Int)), jf1a, jf1e, (jf1q l), (14, slQ 3 2 h.length), (15, nI (jff h))]) (fun x2 => [(9, true, .cells true 1 ((wtH l h x2).flatMap intC))]) (fun x2 => []) (fun x2 => []) (fun x2 => (x2 ≤ List.length h)) (fun x2 => (List.length h - x2)) (fun x2 => .go 0 (.fork (.need (.val (jfb h x2) (.go 12 (.need (.go 0 (.val (nI (jf4 l h x2).at_) (.go 0 (.slot 34 (nI ((jfi h x2).bg - (jf4 l h x2).at_)) (.need (.need (.go 0 (.slot 36 (nI ((x2 : Int) + 1)) jf14)))))))))))) (.go 3 (.again [(4, 9)]))))))))))))))))
  (jf17 f l h) = RWaits f l h := by kernel_rfl
def Rwait (sp : Value) (l : List Rq) (h : List Sv) (i : Int) : Prop :=
  (true = true ∧ (0 ≤ List.length h ∧ List.any (h.take 0) (isRq i) = false) ∧ (true = true ∧ (jf11 = nI jf1i ∧ (nI i : Value) = nI i ∧ wkR (slQ 1 2 h.length) ∧ wkR (slQ 0 2 l.length) ∧ True) ∧ (True) ∧ jfv) ∧ (∀ x0 : Nat, true = true) ∧ ∀ x0 : Nat, (x0 ≤ List.length h ∧ List.any (h.take x0) (isRq i) = false) → (((decide (((x0 : Int) : Int) < (jff h))) = true → (((0 : Int) ≤ (x0 : Int) ∧ ((x0 : Int) : Int) < (jff h)) ∧ (((h.flatMap svC)[((0 + Int.toNat (x0 : Int) * 5) + 0)]? = some (nI (h.getD x0 zeroV).rq)) ∧ (((((h.getD x0 zeroV).rq : Int) == i) = true → (((0 : Int) ≤ (x0 : Int) ∧ ((x0 : Int) : Int) < (jff h)) ∧ (((h.flatMap svC)[((0 + Int.toNat (x0 : Int) * 5) + 3)]? = some (nI (h.getD x0 zeroV).bg)) ∧ (((0 : Int) ≤ i ∧ (i : Int) < (jfd l)) ∧ (((jf1l l)[((0 + Int.toNat i * 7) + 1)]? = some (nI (jfj l i).at_)) ∧ ((nI (IntKind.wrap .i64 ((h.getD x0 zeroV).bg - (jfj l i).at_)) : Value) = nI ((h.getD x0 zeroV).bg - (jfj l i).at_) ∧ (∃ y1 : Int, (nI ((h.getD x0 zeroV).bg - (jfj l i).at_) : Value) = nI y1 ∧ (nI y1 : Value) = sp))))))) ∧ ((((h.getD x0 zeroV).rq : Int) == i) = false → ((nI (IntKind.wrap .i64 ((x0 : Int) + 1)) : Value) = nI ((x0 : Int) + 1) ∧ (∃ x0' : Nat, (x0' ≤ List.length h ∧ List.any (h.take x0') (isRq i) = false) ∧ (List.length h - x0') < (List.length h - x0) ∧ true = true ∧ ((nI ((x0 : Int) + 1) : Value) = nI (x0' : Int) ∧ (nI i : Value) = nI i ∧ wkR (slQ 1 2 h.length) ∧ wkR (slQ 0 2 l.length) ∧ True) ∧ (True) ∧ jfv))))))) ∧ ((decide (((x0 : Int) : Int) < (jff h))) = false → jf11 = sp)))
theorem Ewait (sp : Value) (l : List Rq) (h : List Sv) (i : Int) : vF prog msk (dm 0) 100000 true 40 true 91 [slQ 0 2 l.length, slQ 1 2 h.length, nI i] (readsT 0 [l.flatMap rqC, h.flatMap svC]) (some [])
  (.go 1 (.inv 3 (Nat) (0) [] [] (fun x0 => [(7, nI (x0 : Int)), (2, nI i), (1, slQ 1 2 h.length), (0, slQ 0 2 l.length)]) (fun x0 => []) (fun x0 => []) (fun x0 => []) (fun x0 => (x0 ≤ List.length h ∧ List.any (h.take x0) (isRq i) = false)) (fun x0 => (List.length h - x0)) (fun x0 => .go 3 (.fork (.go 1 (.need (.go 0 (.val (nI (h.getD x0 zeroV).rq) (.go 1 (.fork (.go 1 (.need (.go 0 (.val (nI (h.getD x0 zeroV).bg) (.go 1 (.need (.go 0 (.val (nI (jfj l i).at_) (.go 0 (.slot 31 (nI ((h.getD x0 zeroV).bg - (jfj l i).at_)) (.bind Int (fun y1 => .slot 31 (nI y1) (.auto))))))))))))) (.go 1 (.slot 13 (nI ((x0 : Int) + 1)) jf14)))))))) (.auto)))))
  (fun v _ _ => v = sp) = Rwait sp l h i := by kernel_rfl
abbrev jfz (f : Fleet) (l : List Rq) (h : List Sv) : Prop := ∀ H' : Heap, H'.length = 5 → (jf1 H' f l h) → KCall prog 90 (jf7 f l h) H' [] (Is (nI (errHist f l h)) H')
abbrev jf1u (h : List Sv) (l : List Rq) : Prop := wkR (slQ 3 2 h.length) ∧ wkR (slQ 2 2 l.length) ∧ jfo = .slice none 0 0 ∧ jf11 = nI 0 ∧ True
abbrev jf1y (f : Fleet) : Prop := (keptR 5 (.cells true 0 [slQ 0 2 f.t.length, slQ 1 2 f.b.length])) ∧ True
abbrev jf1x (x1 : Nat) : Int := (x1 : Int)
abbrev jfp (l : List Rq) (h : List Sv) (x1 : Nat) : Prop := ∀ H' : Heap, H'.length = 6 → (H'[2]? = some (.cells false 0 (jf1l l) : KObj) ∧ H'[3]? = some (.cells false 0 (h.flatMap svC) : KObj) ∧ True) → KCall prog 91 [slQ 2 2 l.length, slQ 3 2 h.length, nI (x1 : Int)] H' [] (Is (nI (waitOf l h (x1 : Int))) H')
abbrev jf15 (x1 : Nat) : Value := nI (IntKind.wrap .i64 ((x1 : Int) + 1))
def RrWaits (f : Fleet) (l : List Rq) (h : List Sv) : Prop :=
  ((jf5 f l h) ∧ (jfz f l h) ∧ ((jfs f l h) ∧ ((((errHist f l h) : Int) != 0) = false → (true = true ∧ (0 ≤ List.length l) ∧ (true = true ∧ (jf11 = nI jf1i ∧ wk jfo (slQ 0 1 0 : Value) ∧ jf1u h l) ∧ (jf1y f) ∧ (True ∧ True) ∧ (True)) ∧ (∀ x1 : Nat, true = true) ∧ ∀ x1 : Nat, (x1 ≤ List.length l) → (((decide ((jf1x x1) < (jfd l))) = true → (((someR (.cells false 0 (jf1l l))) ∧ (someR (.cells false 0 (h.flatMap svC))) ∧ True) ∧ (jfp l h x1) ∧ (((x1 + 1) * 8 ≤ 2 ^ 44 ∧ 1 ≠ 0 ∧ (x1 ≤ x1 ∧ 0 + x1 * 1 ≤ List.length (((waitsL l h).take x1).flatMap intC)) ∧ (1 ≤ 1 ∧ 0 + 1 * 1 ≤ List.length ([nI (waitOf l h (x1 : Int))] : List Value)) ∧ (((([nI (waitOf l h (x1 : Int))] : List Value).drop 0).take (1 * 1)) : List Value).all (fun v => one1 v) = true) ∧ true = true ∧ ((jf15 x1) = nI ((x1 : Int) + 1) ∧ (∃ x1' : Nat, (x1' ≤ List.length l) ∧ (List.length l - x1') < (List.length l - x1) ∧ true = true ∧ ((nI ((x1 : Int) + 1) : Value) = nI (x1' : Int) ∧ wk (.slice (some ⟨7, 0, none⟩) (x1 + 1) (x1 + 1) : Value) (slQ 7 1 x1' : Value) ∧ jf1u h l) ∧ (jf1y f) ∧ ((some (.cells true 1 ((((((waitsL l h).take x1).flatMap intC).drop 0).take (x1 * 1)) ++ ((([nI (waitOf l h (x1 : Int))] : List Value).drop 0).take (1 * 1))) : KObj) = some (.cells true 1 (((waitsL l h).take x1').flatMap intC) : KObj) ∧ belowO 5 (.cells true 1 (((waitsL l h).take x1').flatMap intC) : KObj) = true) ∧ True) ∧ (True)))))) ∧ ((decide ((jf1x x1) < (jfd l))) = false → (true = true ∧ wk (.tuple #[slQ 5 1 x1, nI 0] : Value) (rn (sg 4 [(4, 5)]) 3 (.tuple #[slQ 4 2 (List.length (fWaits f l h).1), nI (fWaits f l h).2] : Value)) ∧ ((some (.cells true 1 (((waitsL l h).take x1).flatMap intC) : KObj) = some (jf1h f l h) ∧ belowO 4 (jf1h f l h) = true) ∧ True))))))))
theorem ErWaits (f : Fleet) (l : List Rq) (h : List Sv) : vF prog msk (dm 0) 100000 true 40 true 43 (jf7 f l h) (jfc f l h) (some [])
  (.go 5 (.ans (jf9 f l h) (nI (errHist f l h)) [] (.go 2 (.fork jf1o (.go 1 (.inv 3 (Nat) (0) [] [4] (fun x1 => [(10, nI (x1 : Int)), (9, slQ 5 1 x1), (2, slQ 3 2 h.length), (1, slQ 2 2 l.length), (6, .slice none 0 0), (7, nI 0)]) (fun x1 => [(4, true, .cells true 0 [slQ 0 2 f.t.length, slQ 1 2 f.b.length])]) (fun x1 => [(true, .cells true 1 (((waitsL l h).take x1).flatMap intC))]) (fun x1 => []) (fun x1 => (x1 ≤ List.length l)) (fun x1 => (List.length l - x1)) (fun x1 => .go 3 (.fork (.go 3 (.ans [(2, .cells false 0 (jf1l l)), (3, .cells false 0 (h.flatMap svC))] (nI (waitOf l h (x1 : Int))) [] (.go 0 (.need (.go 2 (.slot 23 (nI ((x1 : Int) + 1)) (.go 0 (.again [(5, 7)])))))))) (.go 2 (.again [(4, 5)]))))))))))
  (jf17 f l h) = RrWaits f l h := by kernel_rfl
abbrev jfu (f : Fleet) (l : List Rq) (h : List Sv) : Prop := (((errHist f l h) : Int) != 0) = true → (true = true ∧ wk (.tuple #[.slice none 0 0, nI (errHist f l h)] : Value) (rn (sg 4 []) 3 (.tuple #[slQ 4 2 (List.length (fDet f l h).1), nI (fDet f l h).2] : Value)) ∧ (True ∧ True))
abbrev jf10 (h : List Sv) : Prop := (.pointer (some ⟨8, 0, none⟩) : Value) = .pointer (some ⟨8, 0, none⟩) ∧ jfo = .slice none 0 0 ∧ wkR (slQ 3 2 h.length) ∧ (nI (jff h) : Value) = nI (jff h) ∧ True
abbrev jf1b (l : List Rq) (h : List Sv) (x2 : Nat) : Value := .agg #[nI (jf4 l h x2).id, nI (jf4 l h x2).at_, nI (jf4 l h x2).place, nI (jf4 l h x2).dest, nI (jf4 l h x2).len, nI (jf4 l h x2).prio, nI (jf4 l h x2).limit]
abbrev jf8 (x2 : Nat) (h : List Sv) (l : List Rq) : Prop := (jf1t x2) = nI ((x2 : Int) + 1) ∧ (∃ x2' : Nat, (x2' ≤ List.length h) ∧ (List.length h - x2') < (List.length h - x2) ∧ true = true ∧ ((nI ((x2 : Int) + 1) : Value) = nI (x2' : Int) ∧ wk (slQ 9 1 (dtH l h x2).length : Value) (slQ 9 1 (dtH l h x2').length : Value) ∧ jf10 h) ∧ (True) ∧ ((some (.cells true 1 ((dtH l h x2).flatMap intC) : KObj) = some (.cells true 1 ((dtH l h x2').flatMap intC) : KObj) ∧ belowO 9 (.cells true 1 ((dtH l h x2').flatMap intC) : KObj) = true) ∧ True) ∧ (True))
abbrev jf1m (f : Fleet) (l : List Rq) (h : List Sv) : KObj := .cells true 1 (List.flatMap intC (fDet f l h).1)
def RDet (f : Fleet) (l : List Rq) (h : List Sv) : Prop :=
  ((jf5 f l h) ∧ (jfy f l h) ∧ ((jfu f l h) ∧ ((((errHist f l h) : Int) != 0) = false → ((jfh f) ∧ (((jf1v f) ∧ True) ∧ (jfg f) ∧ (true = true ∧ (0 ≤ List.length h) ∧ (true = true ∧ (jf11 = nI jf1i ∧ wk jfo (slQ 0 1 (dtH l h 0).length : Value) ∧ jf10 h) ∧ (True) ∧ (True ∧ True) ∧ (True)) ∧ jf1r ∧ ∀ x2 : Nat, (x2 ≤ List.length h) → (((jf13 x2 h) = true → ((jf1s x2 h) ∧ ((jf1g h x2) ∧ ((jfw h x2 l) ∧ ((partA 7 (jf1l l) (0 + Int.toNat (jfi h x2).rq * 7) = some (jf1b l h x2)) ∧ (((decide ((0 : Int) < (jf4 l h x2).limit)) = true → ((nI (IntKind.wrap .i64 ((jfi h x2).bg - (jf4 l h x2).at_)) : Value) = nI ((jfi h x2).bg - (jf4 l h x2).at_) ∧ (((decide (((jf4 l h x2).limit : Int) < ((jfi h x2).bg - (jf4 l h x2).at_))) = true → ((((dtH l h x2).length + 1) * 8 ≤ 2 ^ 44 ∧ 1 ≠ 0 ∧ ((dtH l h x2).length ≤ (dtH l h x2).length ∧ 0 + (dtH l h x2).length * 1 ≤ List.length ((dtH l h x2).flatMap intC)) ∧ (1 ≤ 1 ∧ 0 + 1 * 1 ≤ List.length ([nI (jfi h x2).rq] : List Value)) ∧ (((([nI (jfi h x2).rq] : List Value).drop 0).take (1 * 1)) : List Value).all (fun v => one1 v) = true) ∧ true = true ∧ ((jf1t x2) = nI ((x2 : Int) + 1) ∧ (∃ x2' : Nat, (x2' ≤ List.length h) ∧ (List.length h - x2') < (List.length h - x2) ∧ true = true ∧ ((nI ((x2 : Int) + 1) : Value) = nI (x2' : Int) ∧ wk (.slice (some ⟨13, 0, none⟩) ((dtH l h x2).length + 1) ((dtH l h x2).length + 1) : Value) (slQ 13 1 (dtH l h x2').length : Value) ∧ jf10 h) ∧ (True) ∧ ((some (.cells true 1 (((((dtH l h x2).flatMap intC).drop 0).take ((dtH l h x2).length * 1)) ++ ((([nI (jfi h x2).rq] : List Value).drop 0).take (1 * 1))) : KObj) = some (.cells true 1 ((dtH l h x2').flatMap intC) : KObj) ∧ belowO 9 (.cells true 1 ((dtH l h x2').flatMap intC) : KObj) = true) ∧ True) ∧ (True))))) ∧ ((decide (((jf4 l h x2).limit : Int) < ((jfi h x2).bg - (jf4 l h x2).at_))) = false → (jf8 x2 h l))))) ∧ ((decide ((0 : Int) < (jf4 l h x2).limit)) = false → (jf8 x2 h l)))))))) ∧ ((jf13 x2 h) = false → (((someR (.cells true 1 ((dtH l h x2).flatMap intC))) ∧ True) ∧ (∀ H' : Heap, H'.length = 10 → (H'[9]? = some (.cells true 1 ((dtH l h x2).flatMap intC) : KObj) ∧ True) → KCall prog 84 [slQ 9 1 (dtH l h x2).length] H' [9] (Is (.tuple #[]) (List.set H' 9 (.cells true 1 ((lateL l h).flatMap intC) : KObj)))) ∧ (true = true ∧ wk (.tuple #[slQ 9 1 (dtH l h x2).length, nI 0] : Value) (rn (sg 4 [(4, 9)]) 3 (.tuple #[slQ 4 2 (List.length (fDet f l h).1), nI (fDet f l h).2] : Value)) ∧ ((some (.cells true 1 ((lateL l h).flatMap intC) : KObj) = some (jf1m f l h) ∧ belowO 4 (jf1m f l h) = true) ∧ True)))))))))))
abbrev jf1f (f : Fleet) (l : List Rq) (h : List Sv) := newK ((jfc f l h) : HT).n 3 (.tuple #[slQ 4 2 (List.length (fDet f l h).1), nI (fDet f l h).2]) [(true, .cells true 1 (List.flatMap intC (fDet f l h).1))]
theorem EDet (f : Fleet) (l : List Rq) (h : List Sv) : vF prog msk (dm 0) 100000 true 40 true 45 (jf7 f l h) (jfc f l h) (some [])
  (.go 5 (.ans (jf9 f l h) (nI (errHist f l h)) [] (.go 2 (.fork jf1o (.go 9 (.need (.go 1 (.ans [(1, .cells false 0 (jf12 f))] (slQ 7 1 f.b.length) [.cells true 1 (jf12 f)] (.go 9 (.inv 3 (Nat) (0) [] [] (fun x2 => [(11, nI (x2 : Int)), (5, slQ 9 1 (dtH l h x2).length), jf1a, jf1e, (9, slQ 3 2 h.length), (10, nI (jff h))]) (fun x2 => []) (fun x2 => [(true, .cells true 1 ((dtH l h x2).flatMap intC))]) (fun x2 => []) (fun x2 => (x2 ≤ List.length h)) (fun x2 => (List.length h - x2)) (fun x2 => .go 0 (.fork (.need (.val (jfb h x2) (.go 7 (.need (.val (jf1b l h x2) (.go 5 (.gfork (.go 4 (.slot 31 (nI ((jfi h x2).bg - (jf4 l h x2).at_)) (.go 3 (.fork (.go 3 (.need (.go 1 (.slot 41 (nI ((x2 : Int) + 1)) (.go 0 (.again [(9, 13)])))))) (.go 0 (.slot 41 (nI ((x2 : Int) + 1)) (.go 0 (.again [(9, 9)])))))))) (.go 2 (.slot 41 (nI ((x2 : Int) + 1)) (.go 0 (.again [(9, 9)]))))))))))) (.go 0 (.answ [(9, .cells true 1 ((dtH l h x2).flatMap intC))] (.tuple #[]) [(9, .cells true 1 ((lateL l h).flatMap intC))] [] (.go 3 (.again [(4, 9)]))))))))))))))))
  (jf1f f l h) = RDet f l h := by kernel_rfl
abbrev jfa (x1 : Nat) (l : List Rq) (h : List Sv) : Prop := (jf15 x1) = nI ((x1 : Int) + 1) ∧ (∃ x1' : Nat, (x1' ≤ List.length l) ∧ (List.length l - x1') < (List.length l - x1) ∧ true = true ∧ ((nI ((x1 : Int) + 1) : Value) = nI (x1' : Int) ∧ wk (slQ 5 1 (lateTo l h x1).length : Value) (slQ 5 1 (lateTo l h x1').length : Value) ∧ wkR (slQ 3 2 h.length) ∧ wkR (slQ 2 2 l.length) ∧ jfo = .slice none 0 0 ∧ True) ∧ (True) ∧ ((some (.cells true 1 ((lateTo l h x1).flatMap intC) : KObj) = some (.cells true 1 ((lateTo l h x1').flatMap intC) : KObj) ∧ belowO 5 (.cells true 1 ((lateTo l h x1').flatMap intC) : KObj) = true) ∧ True) ∧ (True))
def RrDet (f : Fleet) (l : List Rq) (h : List Sv) : Prop :=
  ((jf5 f l h) ∧ (jfz f l h) ∧ ((jfu f l h) ∧ ((((errHist f l h) : Int) != 0) = false → (true = true ∧ (0 ≤ List.length l) ∧ (true = true ∧ (jf11 = nI jf1i ∧ wk jfo (slQ 0 1 (lateTo l h 0).length : Value) ∧ wkR (slQ 3 2 h.length) ∧ wkR (slQ 2 2 l.length) ∧ jfo = .slice none 0 0 ∧ True) ∧ (True) ∧ (True ∧ True) ∧ (True)) ∧ (∀ x1 : Nat, true = true) ∧ ∀ x1 : Nat, (x1 ≤ List.length l) → (((decide ((jf1x x1) < (jfd l))) = true → (((0 : Int) ≤ (x1 : Int) ∧ (jf1x x1) < (jfd l)) ∧ (((jf1l l)[((0 + Int.toNat (x1 : Int) * 7) + 6)]? = some (nI (l.getD x1 zeroQ).limit)) ∧ (((decide ((0 : Int) < (l.getD x1 zeroQ).limit)) = true → (((0 : Int) ≤ (x1 : Int) ∧ (jf1x x1) < (jfd l)) ∧ (((jf1l l)[((0 + Int.toNat (x1 : Int) * 7) + 6)]? = some (nI (l.getD x1 zeroQ).limit)) ∧ (((someR (.cells false 0 (jf1l l))) ∧ (someR (.cells false 0 (h.flatMap svC))) ∧ True) ∧ (jfp l h x1) ∧ (((decide (((l.getD x1 zeroQ).limit : Int) < (waitOf l h (x1 : Int)))) = true → ((((lateTo l h x1).length + 1) * 8 ≤ 2 ^ 44 ∧ 1 ≠ 0 ∧ ((lateTo l h x1).length ≤ (lateTo l h x1).length ∧ 0 + (lateTo l h x1).length * 1 ≤ List.length ((lateTo l h x1).flatMap intC)) ∧ (1 ≤ 1 ∧ 0 + 1 * 1 ≤ List.length ([nI (x1 : Int)] : List Value)) ∧ (((([nI (x1 : Int)] : List Value).drop 0).take (1 * 1)) : List Value).all (fun v => one1 v) = true) ∧ true = true ∧ ((jf15 x1) = nI ((x1 : Int) + 1) ∧ (∃ x1' : Nat, (x1' ≤ List.length l) ∧ (List.length l - x1') < (List.length l - x1) ∧ true = true ∧ ((nI ((x1 : Int) + 1) : Value) = nI (x1' : Int) ∧ wk (.slice (some ⟨7, 0, none⟩) ((lateTo l h x1).length + 1) ((lateTo l h x1).length + 1) : Value) (slQ 7 1 (lateTo l h x1').length : Value) ∧ wkR (slQ 3 2 h.length) ∧ wkR (slQ 2 2 l.length) ∧ jfo = .slice none 0 0 ∧ True) ∧ (True) ∧ ((some (.cells true 1 (((((lateTo l h x1).flatMap intC).drop 0).take ((lateTo l h x1).length * 1)) ++ ((([nI (x1 : Int)] : List Value).drop 0).take (1 * 1))) : KObj) = some (.cells true 1 ((lateTo l h x1').flatMap intC) : KObj) ∧ belowO 5 (.cells true 1 ((lateTo l h x1').flatMap intC) : KObj) = true) ∧ True) ∧ (True))))) ∧ ((decide (((l.getD x1 zeroQ).limit : Int) < (waitOf l h (x1 : Int)))) = false → (jfa x1 l h))))))) ∧ ((decide ((0 : Int) < (l.getD x1 zeroQ).limit)) = false → (jfa x1 l h)))))) ∧ ((decide ((jf1x x1) < (jfd l))) = false → (true = true ∧ wk (.tuple #[slQ 5 1 (lateTo l h x1).length, nI 0] : Value) (rn (sg 4 [(4, 5)]) 3 (.tuple #[slQ 4 2 (List.length (fDet f l h).1), nI (fDet f l h).2] : Value)) ∧ ((some (.cells true 1 ((lateTo l h x1).flatMap intC) : KObj) = some (jf1m f l h) ∧ belowO 4 (jf1m f l h) = true) ∧ True))))))))
theorem ErDet (f : Fleet) (l : List Rq) (h : List Sv) : vF prog msk (dm 0) 100000 true 40 true 46 (jf7 f l h) (jfc f l h) (some [])
  (.go 5 (.ans (jf9 f l h) (nI (errHist f l h)) [] (.go 2 (.fork jf1o (.go 5 (.inv 3 (Nat) (0) [] [] (fun x1 => [(6, nI (x1 : Int)), (5, slQ 5 1 (lateTo l h x1).length), (1, slQ 3 2 h.length), (0, slQ 2 2 l.length), jf1e]) (fun x1 => []) (fun x1 => [(true, .cells true 1 ((lateTo l h x1).flatMap intC))]) (fun x1 => []) (fun x1 => (x1 ≤ List.length l)) (fun x1 => (List.length l - x1)) (fun x1 => .go 3 (.fork (.go 1 (.need (.go 0 (.val (nI (l.getD x1 zeroQ).limit) (.go 1 (.gfork (.go 4 (.need (.go 0 (.val (nI (l.getD x1 zeroQ).limit) (.ans [(2, .cells false 0 (jf1l l)), (3, .cells false 0 (h.flatMap svC))] (nI (waitOf l h (x1 : Int))) [] (.go 1 (.fork (.go 2 (.need (.go 2 (.slot 12 (nI ((x1 : Int) + 1)) (.go 0 (.again [(5, 7)])))))) (.go 1 (.slot 12 (nI ((x1 : Int) + 1)) (.go 0 (.again [(5, 5)]))))))))))) (.go 3 (.slot 12 (nI ((x1 : Int) + 1)) (.go 0 (.again [(5, 5)])))))))))) (.go 3 (.again [(4, 5)]))))))))))
  (jf1f f l h) = RrDet f l h := by kernel_rfl
abbrev jft (f : Fleet) (l : List Rq) (h : List Sv) : Prop := (((errHist f l h) : Int) != 0) = true → (true = true ∧ wk (.tuple #[.slice none 0 0, nI (errHist f l h)] : Value) (rn (sg 4 []) 3 (.tuple #[slQ 4 2 (List.length (fOver f l h).1), nI (fOver f l h).2] : Value)) ∧ (True ∧ True))
abbrev jf0 (h : List Sv) (l : List Rq) (x2 : Nat) : Prop := (nI (jff h) : Value) = nI (jff h) ∧ wkR (slQ 3 2 h.length) ∧ (.slice (some ⟨9, 0, none⟩) l.length l.length : Value) = .slice (some ⟨9, 0, none⟩) l.length l.length ∧ jfo = .slice none 0 0 ∧ (.pointer (some ⟨8, 0, none⟩) : Value) = .pointer (some ⟨8, 0, none⟩) ∧ wkR (slQ 3 2 h.length) ∧ (nI (x2 : Int) : Value) = nI (x2 : Int) ∧ (.pointer (some ⟨10, 0, none⟩) : Value) = .pointer (some ⟨10, 0, none⟩) ∧ (nI (x2 : Int) : Value) = nI (x2 : Int) ∧ wkR (slQ 3 2 x2) ∧ (nI (x2 : Int) : Value) = nI (x2 : Int) ∧ True
abbrev jfq (h : List Sv) (x2 : Nat) : List Value := [nI (jfi h x2).rq, nI (jfi h x2).br, nI (jfi h x2).tk, nI (jfi h x2).bg, nI (jfi h x2).nd]
abbrev jf1j (h : List Sv) (x3 : Nat) : Value := .agg #[nI (h.getD x3 zeroV).rq, nI (h.getD x3 zeroV).br, nI (h.getD x3 zeroV).tk, nI (h.getD x3 zeroV).bg, nI (h.getD x3 zeroV).nd]
abbrev jfn (f : Fleet) (l : List Rq) : List Value := [slQ 0 2 f.t.length, slQ 1 2 f.b.length, slQ 2 2 l.length, .slice (some ⟨6, 0, none⟩) f.b.length f.b.length, slQ 7 1 f.b.length]
abbrev jf1p (l : List Rq) (h : List Sv) (x2 : Nat) (x3 : Nat) := laterV (rqAt l (jfi h x2).rq) (rqAt l (h.getD x3 zeroV).rq)
abbrev jf22 (l : List Rq) (h : List Sv) (x2 : Nat) (x3' : Nat) : KObj := .cells true 1 ((ovI l h x2 x3').flatMap intC)
abbrev jf1k (f : Fleet) (l : List Rq) (h : List Sv) : KObj := .cells true 1 (List.flatMap intC (fOver f l h).1)
def ROver (f : Fleet) (l : List Rq) (h : List Sv) : Prop :=
  ((jf5 f l h) ∧ (jfy f l h) ∧ ((jft f l h) ∧ ((((errHist f l h) : Int) != 0) = false → ((jfh f) ∧ (((jf1v f) ∧ True) ∧ (jfg f) ∧ ((jfr l) ∧ (true = true ∧ (0 ≤ List.length h) ∧ (true = true ∧ (jf11 = nI jf1i ∧ wkR (slQ 3 2 h.length) ∧ jf2 l h) ∧ ((some (jf1w l) = some (.cells true 1 ((ovH l h 0).flatMap intC) : KObj) ∧ belowO 10 (.cells true 1 ((ovH l h 0).flatMap intC) : KObj) = true) ∧ True) ∧ jfv) ∧ jf1r ∧ ∀ x2 : Nat, (x2 ≤ List.length h) → (((jf13 x2 h) = true → ((jf1s x2 h) ∧ ((jf1g h x2) ∧ ((((false = false ∨ 0 = 0 ∨ 0 = 5) ∧ (x2 : Int).toNat ≤ h.length) ∧ ((0 : Int) ≤ (x2 : Int) ∧ ((x2 : Int) : Int) ≤ (jff h)) ∧ (0 ≤ (x2 : Int).toNat)) ∧ ((slQ 3 2 ((x2 : Int).toNat - 0) : Value) = slQ 3 2 x2 ∧ (true = true ∧ (0 ≤ x2) ∧ (true = true ∧ (jf11 = nI jf1i ∧ jf0 h l x2) ∧ ((keptR 11 (.cells true 0 (jfq h x2))) ∧ (some (.cells true 1 ((ovH l h x2).flatMap intC) : KObj) = some (.cells true 1 ((ovI l h x2 0).flatMap intC) : KObj) ∧ belowO 11 (.cells true 1 ((ovI l h x2 0).flatMap intC) : KObj) = true) ∧ True) ∧ jfv) ∧ (∀ x3 : Nat, true = true) ∧ ∀ x3 : Nat, (x3 ≤ x2) → (((decide (((x3 : Int) : Int) < (x2 : Int))) = true → (((0 : Int) ≤ (x3 : Int) ∧ ((x3 : Int) : Int) < (x2 : Int)) ∧ ((partA 5 (h.flatMap svC) (0 + Int.toNat (x3 : Int) * 5) = some (jf1j h x3)) ∧ (((someR (.cells true 0 (jfn f l))) ∧ (someR (.cells false 0 (inL f.t))) ∧ (jf1v f) ∧ (someR (.cells false 0 (jf1l l))) ∧ (someR (.cells true 1 (krep [nI 0] f.b.length))) ∧ (someR (.cells true 1 (jf12 f))) ∧ True) ∧ (∀ H' : Heap, H'.length = 12 → (H'[8]? = some (.cells true 0 (jfn f l) : KObj) ∧ H'[0]? = some (.cells false 0 (inL f.t) : KObj) ∧ H'[1]? = some (.cells false 0 (jf12 f) : KObj) ∧ H'[2]? = some (.cells false 0 (jf1l l) : KObj) ∧ H'[6]? = some (.cells true 1 (krep [nI 0] f.b.length) : KObj) ∧ H'[7]? = some (.cells true 1 (jf12 f) : KObj) ∧ True) → KCall prog 120 [.pointer (some ⟨8, 0, none⟩), nI (jfi h x2).rq, nI (h.getD x3 zeroV).rq] H' [] (Is (nI (jf1p l h x2 x3)) H')) ∧ (((decide (((jf1p l h x2 x3) : Int) < 0)) = true → ((jfw h x2 l) ∧ ((((ovI l h x2 x3).flatMap intC)[(0 + Int.toNat (jfi h x2).rq * 1)]? = some (nI ((ovI l h x2 x3).getD (Int.toNat (jfi h x2).rq) 0))) ∧ ((nI (IntKind.wrap .i64 (((ovI l h x2 x3).getD (Int.toNat (jfi h x2).rq) 0) + 1)) : Value) = nI (((ovI l h x2 x3).getD (Int.toNat (jfi h x2).rq) 0) + 1) ∧ ((jfw h x2 l) ∧ (((0 + Int.toNat (jfi h x2).rq * 1) + 1 ≤ List.length ((ovI l h x2 x3).flatMap intC)) ∧ true = true ∧ ((nI (IntKind.wrap .i64 ((x3 : Int) + 1)) : Value) = nI ((x3 : Int) + 1) ∧ (∃ x3' : Nat, (x3' ≤ x2) ∧ (x2 - x3') < (x2 - x3) ∧ true = true ∧ ((nI ((x3 : Int) + 1) : Value) = nI (x3' : Int) ∧ jf0 h l x2) ∧ ((keptR 11 (.cells true 0 (jfq h x2))) ∧ (some (.cells true 1 (setl ((ovI l h x2 x3).flatMap intC) (0 + Int.toNat (jfi h x2).rq * 1) [nI (((ovI l h x2 x3).getD (Int.toNat (jfi h x2).rq) 0) + 1)]) : KObj) = some (jf22 l h x2 x3') ∧ belowO 11 (jf22 l h x2 x3') = true) ∧ True) ∧ jfv)))))))) ∧ ((decide (((jf1p l h x2 x3) : Int) < 0)) = false → ((nI (IntKind.wrap .i64 ((x3 : Int) + 1)) : Value) = nI ((x3 : Int) + 1) ∧ (∃ x3' : Nat, (x3' ≤ x2) ∧ (x2 - x3') < (x2 - x3) ∧ true = true ∧ ((nI ((x3 : Int) + 1) : Value) = nI (x3' : Int) ∧ jf0 h l x2) ∧ ((keptR 11 (.cells true 0 (jfq h x2))) ∧ (some (.cells true 1 ((ovI l h x2 x3).flatMap intC) : KObj) = some (jf22 l h x2 x3') ∧ belowO 11 (jf22 l h x2 x3') = true) ∧ True) ∧ jfv)))))))) ∧ ((decide (((x3 : Int) : Int) < (x2 : Int))) = false → ((jf1t x2) = nI ((x2 : Int) + 1) ∧ (∃ x2' : Nat, (x2' ≤ List.length h) ∧ (List.length h - x2') < (List.length h - x2) ∧ true = true ∧ ((nI ((x2 : Int) + 1) : Value) = nI (x2' : Int) ∧ wkR (slQ 3 2 h.length) ∧ jf2 l h) ∧ ((some (.cells true 1 ((ovI l h x2 x3).flatMap intC) : KObj) = some (.cells true 1 ((ovH l h x2').flatMap intC) : KObj) ∧ belowO 10 (.cells true 1 ((ovH l h x2').flatMap intC) : KObj) = true) ∧ True) ∧ jfv)))))))))) ∧ ((jf13 x2 h) = false → (true = true ∧ wk (jf1z l) (rn (sg 4 [(4, 9)]) 3 (.tuple #[slQ 4 2 (List.length (fOver f l h).1), nI (fOver f l h).2] : Value)) ∧ ((some (.cells true 1 ((ovH l h x2).flatMap intC) : KObj) = some (jf1k f l h) ∧ belowO 4 (jf1k f l h) = true) ∧ True)))))))))))
abbrev jf1c (f : Fleet) (l : List Rq) (h : List Sv) := newK ((jfc f l h) : HT).n 3 (.tuple #[slQ 4 2 (List.length (fOver f l h).1), nI (fOver f l h).2]) [(true, .cells true 1 (List.flatMap intC (fOver f l h).1))]
theorem EOver (f : Fleet) (l : List Rq) (h : List Sv) : vF prog msk (dm 0) 100000 true 40 true 41 (jf7 f l h) (jfc f l h) (some [])
  (.go 5 (.ans (jf9 f l h) (nI (errHist f l h)) [] (.go 2 (.fork jf1o (.go 9 (.need (.go 1 (.ans [(1, .cells false 0 (jf12 f))] (slQ 7 1 f.b.length) [.cells true 1 (jf12 f)] (.go 10 (.need (.go 3 (.inv 3 (Nat) (0) [] [9] (fun x2 => [(18, nI (x2 : Int)), (1, slQ 3 2 h.length), jf1a, jf1e, (jf1q l), (16, slQ 3 2 h.length), (17, nI (jff h))]) (fun x2 => [(9, true, .cells true 1 ((ovH l h x2).flatMap intC))]) (fun x2 => []) (fun x2 => []) (fun x2 => (x2 ≤ List.length h)) (fun x2 => (List.length h - x2)) (fun x2 => .go 0 (.fork (.go 0 (.need (.val (jfb h x2) (.go 4 (.need (.slot 25 (slQ 3 2 x2) (.go 1 (.inv 3 (Nat) (0) [] [10, 9] (fun x3 => [(27, nI (x3 : Int)), (17, nI (jff h)), (16, slQ 3 2 h.length), (jf1q l), jf1e, jf1a, (1, slQ 3 2 h.length), (18, nI (x2 : Int)), (7, .pointer (some ⟨10, 0, none⟩)), (6, nI (x2 : Int)), (25, slQ 3 2 x2), (26, nI (x2 : Int))]) (fun x3 => [(10, true, .cells true 0 (jfq h x2)), (9, true, .cells true 1 ((ovI l h x2 x3).flatMap intC))]) (fun x3 => []) (fun x3 => []) (fun x3 => (x3 ≤ x2)) (fun x3 => (x2 - x3)) (fun x3 => .go 0 (.fork (.need (.val (jf1j h x3) (.go 6 (.ans [(8, .cells true 0 (jfn f l)), (0, .cells false 0 (inL f.t)), (1, .cells false 0 (jf12 f)), (2, .cells false 0 (jf1l l)), (6, .cells true 1 (krep [nI 0] f.b.length)), (7, .cells true 1 (jf12 f))] (nI (jf1p l h x2 x3)) [] (.go 0 (.fork (.go 2 (.need (.val (nI ((ovI l h x2 x3).getD (Int.toNat (jfi h x2).rq) 0)) (.go 0 (.slot 43 (nI (((ovI l h x2 x3).getD (Int.toNat (jfi h x2).rq) 0) + 1)) (.need (.need (.go 0 (.slot 45 (nI ((x3 : Int) + 1)) jf14))))))))) (.go 0 (.slot 45 (nI ((x3 : Int) + 1)) jf14)))))))) (.go 0 (.slot 46 (nI ((x2 : Int) + 1)) jf14)))))))))))) (.go 3 (.again [(4, 9)]))))))))))))))))
  (jf1c f l h) = ROver f l h := by kernel_rfl
abbrev jfx (h : List Sv) (l : List Rq) : Prop := wkR (slQ 3 2 h.length) ∧ wkR (slQ 2 2 l.length) ∧ jfo = .slice none 0 0 ∧ (.slice (some ⟨5, 0, none⟩) l.length l.length : Value) = .slice (some ⟨5, 0, none⟩) l.length l.length ∧ True
abbrev jfe (l : List Rq) (h : List Sv) (x1 : Nat) : Prop := (.slice (some ⟨5, 0, none⟩) l.length l.length : Value) = .slice (some ⟨5, 0, none⟩) l.length l.length ∧ jfo = .slice none 0 0 ∧ wkR (slQ 2 2 l.length) ∧ wkR (slQ 3 2 h.length) ∧ (nI (x1 : Int) : Value) = nI (x1 : Int) ∧ True
abbrev jfk (x1 : Nat) (x2 : Nat) : Int := ((x1 + 1 + x2) : Nat)
abbrev jfm (h : List Sv) (x1 : Nat) (x2 : Nat) := h.getD (x1 + 1 + x2) zeroV
abbrev jf20 (h : List Sv) (x1 : Nat) (x2 : Nat) (l : List Rq) : Prop := (0 : Int) ≤ (jfm h x1 x2).rq ∧ ((jfm h x1 x2).rq : Int) < (jfd l)
abbrev jf3 (l : List Rq) (h : List Sv) (x1 : Nat) (x2 : Nat) := l.getD (Int.toNat (jfm h x1 x2).rq) zeroQ
abbrev jf16 (l : List Rq) (h : List Sv) (x1 : Nat) (x2 : Nat) : Value := .agg #[nI (jf3 l h x1 x2).id, nI (jf3 l h x1 x2).at_, nI (jf3 l h x1 x2).place, nI (jf3 l h x1 x2).dest, nI (jf3 l h x1 x2).len, nI (jf3 l h x1 x2).prio, nI (jf3 l h x1 x2).limit]
abbrev jf6 (l : List Rq) (h : List Sv) (x1 : Nat) := l.getD (Int.toNat (h.getD x1 zeroV).rq) zeroQ
abbrev jf1d (l : List Rq) (h : List Sv) (x1 : Nat) : Value := .agg #[nI (jf6 l h x1).id, nI (jf6 l h x1).at_, nI (jf6 l h x1).place, nI (jf6 l h x1).dest, nI (jf6 l h x1).len, nI (jf6 l h x1).prio, nI (jf6 l h x1).limit]
abbrev jf21 (l : List Rq) (h : List Sv) (x1 : Nat) (x2 : Nat) := pvH l h x1 (x1 + 1 + x2)
abbrev jf1n (l : List Rq) (h : List Sv) (x1 : Nat) (x2' : Nat) : KObj := .cells true 1 ((pvH l h x1 (x1 + 1 + x2')).flatMap intC)
def RrOver (f : Fleet) (l : List Rq) (h : List Sv) : Prop :=
  ((jf5 f l h) ∧ (jfz f l h) ∧ ((jft f l h) ∧ ((((errHist f l h) : Int) != 0) = false → ((jfr l) ∧ (true = true ∧ (0 ≤ List.length h) ∧ (true = true ∧ (jf11 = nI jf1i ∧ jfx h l) ∧ ((some (jf1w l) = some (.cells true 1 ((pvH l h 0 0).flatMap intC) : KObj) ∧ belowO 6 (.cells true 1 ((pvH l h 0 0).flatMap intC) : KObj) = true) ∧ True) ∧ jfv) ∧ (∀ x1 : Nat, true = true) ∧ ∀ x1 : Nat, (x1 ≤ List.length h) → (((decide ((jf1x x1) < (jff h))) = true → ((jf15 x1) = nI ((x1 : Int) + 1) ∧ (true = true ∧ (x1 + 1 + 0 ≤ List.length h) ∧ (true = true ∧ ((nI ((x1 : Int) + 1) : Value) = nI (((x1 + 1 + 0) : Nat) : Int) ∧ jfe l h x1) ∧ ((some (.cells true 1 ((pvH l h x1 0).flatMap intC) : KObj) = some (.cells true 1 ((pvH l h x1 (x1 + 1 + 0)).flatMap intC) : KObj) ∧ belowO 6 (.cells true 1 ((pvH l h x1 (x1 + 1 + 0)).flatMap intC) : KObj) = true) ∧ True) ∧ jfv) ∧ jf1r ∧ ∀ x2 : Nat, (x1 + 1 + x2 ≤ List.length h) → (((decide (((jfk x1 x2) : Int) < (jff h))) = true → (((0 : Int) ≤ (jfk x1 x2) ∧ ((jfk x1 x2) : Int) < (jff h)) ∧ (((h.flatMap svC)[((0 + Int.toNat (jfk x1 x2) * 5) + 0)]? = some (nI (jfm h x1 x2).rq)) ∧ ((jf20 h x1 x2 l) ∧ ((partA 7 (jf1l l) (0 + Int.toNat (jfm h x1 x2).rq * 7) = some (jf16 l h x1 x2)) ∧ (((0 : Int) ≤ (x1 : Int) ∧ (jf1x x1) < (jff h)) ∧ (((h.flatMap svC)[((0 + Int.toNat (x1 : Int) * 5) + 0)]? = some (nI (h.getD x1 zeroV).rq)) ∧ (((0 : Int) ≤ (h.getD x1 zeroV).rq ∧ ((h.getD x1 zeroV).rq : Int) < (jfd l)) ∧ ((partA 7 (jf1l l) (0 + Int.toNat (h.getD x1 zeroV).rq * 7) = some (jf1d l h x1)) ∧ ((True) ∧ (∀ H' : Heap, H'.length = 6 → (True) → KCall prog 142 [.agg #[nI (jf3 l h x1 x2).id, nI (jf3 l h x1 x2).at_, nI (jf3 l h x1 x2).place, nI (jf3 l h x1 x2).dest, nI (jf3 l h x1 x2).len, nI (jf3 l h x1 x2).prio, nI (jf3 l h x1 x2).limit], .agg #[nI (jf6 l h x1).id, nI (jf6 l h x1).at_, nI (jf6 l h x1).place, nI (jf6 l h x1).dest, nI (jf6 l h x1).len, nI (jf6 l h x1).prio, nI (jf6 l h x1).limit]] H' [] (Is (.bool (befB (jf3 l h x1 x2) (jf6 l h x1))) H')) ∧ (((befB (jf3 l h x1 x2) (jf6 l h x1)) = true → (((0 : Int) ≤ (jfk x1 x2) ∧ ((jfk x1 x2) : Int) < (jff h)) ∧ (((h.flatMap svC)[((0 + Int.toNat (jfk x1 x2) * 5) + 0)]? = some (nI (jfm h x1 x2).rq)) ∧ ((jf20 h x1 x2 l) ∧ ((((jf21 l h x1 x2).flatMap intC)[(0 + Int.toNat (jfm h x1 x2).rq * 1)]? = some (nI ((jf21 l h x1 x2).getD (Int.toNat (jfm h x1 x2).rq) 0))) ∧ ((nI (IntKind.wrap .i64 (((jf21 l h x1 x2).getD (Int.toNat (jfm h x1 x2).rq) 0) + 1)) : Value) = nI (((jf21 l h x1 x2).getD (Int.toNat (jfm h x1 x2).rq) 0) + 1) ∧ ((jf20 h x1 x2 l) ∧ (((0 + Int.toNat (jfm h x1 x2).rq * 1) + 1 ≤ List.length ((jf21 l h x1 x2).flatMap intC)) ∧ true = true ∧ ((nI (IntKind.wrap .i64 ((jfk x1 x2) + 1)) : Value) = nI ((jfk x1 x2) + 1) ∧ (∃ x2' : Nat, (x1 + 1 + x2' ≤ List.length h) ∧ (List.length h - x2') < (List.length h - x2) ∧ true = true ∧ ((nI ((jfk x1 x2) + 1) : Value) = nI (((x1 + 1 + x2') : Nat) : Int) ∧ jfe l h x1) ∧ ((some (.cells true 1 (setl ((jf21 l h x1 x2).flatMap intC) (0 + Int.toNat (jfm h x1 x2).rq * 1) [nI (((jf21 l h x1 x2).getD (Int.toNat (jfm h x1 x2).rq) 0) + 1)]) : KObj) = some (jf1n l h x1 x2') ∧ belowO 6 (jf1n l h x1 x2') = true) ∧ True) ∧ jfv)))))))))) ∧ ((befB (jf3 l h x1 x2) (jf6 l h x1)) = false → ((nI (IntKind.wrap .i64 ((jfk x1 x2) + 1)) : Value) = nI ((jfk x1 x2) + 1) ∧ (∃ x2' : Nat, (x1 + 1 + x2' ≤ List.length h) ∧ (List.length h - x2') < (List.length h - x2) ∧ true = true ∧ ((nI ((jfk x1 x2) + 1) : Value) = nI (((x1 + 1 + x2') : Nat) : Int) ∧ jfe l h x1) ∧ ((some (.cells true 1 ((jf21 l h x1 x2).flatMap intC) : KObj) = some (jf1n l h x1 x2') ∧ belowO 6 (jf1n l h x1 x2') = true) ∧ True) ∧ jfv)))))))))))))) ∧ ((decide (((jfk x1 x2) : Int) < (jff h))) = false → ((jf15 x1) = nI ((x1 : Int) + 1) ∧ (∃ x1' : Nat, (x1' ≤ List.length h) ∧ (List.length h - x1') < (List.length h - x1) ∧ true = true ∧ ((nI ((x1 : Int) + 1) : Value) = nI (x1' : Int) ∧ jfx h l) ∧ ((some (.cells true 1 ((jf21 l h x1 x2).flatMap intC) : KObj) = some (.cells true 1 ((pvH l h x1' 0).flatMap intC) : KObj) ∧ belowO 6 (.cells true 1 ((pvH l h x1' 0).flatMap intC) : KObj) = true) ∧ True) ∧ jfv))))))) ∧ ((decide ((jf1x x1) < (jff h))) = false → (true = true ∧ wk (.tuple #[.slice (some ⟨5, 0, none⟩) l.length l.length, nI 0] : Value) (rn (sg 4 [(4, 5)]) 3 (.tuple #[slQ 4 2 (List.length (fOver f l h).1), nI (fOver f l h).2] : Value)) ∧ ((some (.cells true 1 ((pvH l h x1 0).flatMap intC) : KObj) = some (jf1k f l h) ∧ belowO 4 (jf1k f l h) = true) ∧ True)))))))))
theorem ErOver (f : Fleet) (l : List Rq) (h : List Sv) : vF prog msk (dm 0) 100000 true 40 true 47 (jf7 f l h) (jfc f l h) (some [])
  (.go 5 (.ans (jf9 f l h) (nI (errHist f l h)) [] (.go 2 (.fork jf1o (.go 5 (.need (.go 1 (.inv 3 (Nat) (0) [] [5] (fun x1 => [(6, nI (x1 : Int)), (1, slQ 3 2 h.length), (0, slQ 2 2 l.length), jf1e, (5, .slice (some ⟨5, 0, none⟩) l.length l.length)]) (fun x1 => [(5, true, .cells true 1 ((pvH l h x1 0).flatMap intC))]) (fun x1 => []) (fun x1 => []) (fun x1 => (x1 ≤ List.length h)) (fun x1 => (List.length h - x1)) (fun x1 => .go 3 (.fork (.go 1 (.slot 18 (nI ((x1 : Int) + 1)) (.go 0 (.inv 3 (Nat) (0) [] [5] (fun x2 => [(7, nI (jfk x1 x2)), (5, .slice (some ⟨5, 0, none⟩) l.length l.length), jf1e, (0, slQ 2 2 l.length), (1, slQ 3 2 h.length), (6, nI (x1 : Int))]) (fun x2 => [(5, true, .cells true 1 ((jf21 l h x1 x2).flatMap intC))]) (fun x2 => []) (fun x2 => []) (fun x2 => (x1 + 1 + x2 ≤ List.length h)) (fun x2 => (List.length h - x2)) (fun x2 => .go 3 (.fork (.go 2 (.need (.go 0 (.val (nI (jfm h x1 x2).rq) (.need (.val (jf16 l h x1 x2) (.go 2 (.need (.go 0 (.val (nI (h.getD x1 zeroV).rq) (.need (.val (jf1d l h x1) (.ans [] (.bool (befB (jf3 l h x1 x2) (jf6 l h x1))) [] (.fork (.go 2 (.need (.go 0 (.val (nI (jfm h x1 x2).rq) (.need (.val (nI ((jf21 l h x1 x2).getD (Int.toNat (jfm h x1 x2).rq) 0)) (.go 0 (.slot 50 (nI (((jf21 l h x1 x2).getD (Int.toNat (jfm h x1 x2).rq) 0) + 1)) (.need (.need (.go 1 (.slot 24 (nI ((jfk x1 x2) + 1)) jf14)))))))))))) (.go 1 (.slot 24 (nI ((jfk x1 x2) + 1)) jf14)))))))))))))))) (.go 1 (.slot 16 (nI ((x1 : Int) + 1)) jf14)))))))) (.go 3 (.again [(4, 5)]))))))))))))
  (jf1c f l h) = RrOver f l h := by kernel_rfl
end
end Go.Proofs.YthdekmpkioikdaaGreat
/- Request: how long requests wait in a history. No condition. -/
namespace Go.Proofs.YthdekmpkioikdaaGreat
open Go Go.K
set_option maxRecDepth 100000
set_option linter.unusedVariables false
set_option linter.unusedSimpArgs false
noncomputable section
attribute [local irreducible] vF
theorem kCmp (a b : Int) (H : Heap) : KCall prog 152 [nI a, nI b] H [] (Is (.int .i64 (cmpI a b)) H) := by
  refine valK 40 (fun σ => rfl) rfl (Eq.mpr (Ecmp _ a b) ?_) H
  delta Rcmp jf11
  refine forkF (bne_self_eq_false _) (forkF (bne_self_eq_false _) (forkD (fun h => iEq (if_pos h).symm) (fun h => forkD (fun h2 => iEq ?_) (fun h2 => iEq ?_))))
  · unfold cmpI; rw [if_neg h, if_pos h2]
  · unfold cmpI; rw [if_neg h, if_neg h2]
theorem kBefore (a b : Rq) (H : Heap) : KCall prog 142 [.agg ⟨rqC a⟩, .agg ⟨rqC b⟩] H [] (Is (.bool (befB a b)) H) := by
  refine valK 40 (fun σ => rfl) rfl (Eq.mpr (Ebefore _ a b) ?_) H
  unfold Rbefore
  refine forkD (fun h => bEq ?_) (fun h => forkEq (fun h2 => bEq ?_) (fun h2 => bEq ?_))
  · unfold befB; rw [decide_eq_true h]; rfl
  · unfold befB; rw [decide_eq_false h, decide_eq_true h2]; rfl
  · unfold befB; rw [decide_eq_false h, decide_eq_false h2]; rfl
theorem kLater (f : Fleet) (l : List Rq) (X Y : List Int) (i k : Int) (hi : 0 ≤ i ∧ i < (l.length : Int)) (hk : 0 ≤ k ∧ k < (l.length : Int)) {H : Heap} {j0 j1 j2 j3 j4 j5 : Nat} {o0 o1 o2 o3 o4 o5 : Bool} {z0 z1 z2 z3 z4 z5 : Nat}
    (e5 : H[j5]? = some (.cells o5 z5 [.slice (some ⟨j0, 0, some 2⟩) f.t.length f.t.length, .slice (some ⟨j1, 0, some 2⟩) f.b.length f.b.length, .slice (some ⟨j2, 0, some 2⟩) l.length l.length, .slice (some ⟨j3, 0, none⟩) X.length X.length, .slice (some ⟨j4, 0, some 1⟩) Y.length Y.length]))
    (e0 : H[j0]? = some (.cells o0 z0 (inL f.t))) (e1 : H[j1]? = some (.cells o1 z1 (f.b.flatMap intC))) (e2 : H[j2]? = some (.cells o2 z2 (l.flatMap rqC))) (e3 : H[j3]? = some (.cells o3 z3 (X.flatMap intC))) (e4 : H[j4]? = some (.cells o4 z4 (Y.flatMap intC))) :
    KCall prog 120 [.pointer (some ⟨j5, 0, none⟩), nI i, nI k] H [] (Is (.int .i64 (laterV (rqAt l i) (rqAt l k))) H) := by
  have hv : Rlater (.int .i64 (laterV (rqAt l i) (rqAt l k))) f l X Y i k := by
    delta Rlater jfd jf1l jfj jf18 jfl jf19 jf11
    have h1 : Int.toNat i < l.length := by omega
    have h2 : Int.toNat k < l.length := by omega
    refine ⟨by omega, partQ h1 (by omega), by omega, partQ h2 (by omega), trivial, fun H' _ _ => kCmp _ _ H', trivial, fun H' _ _ => kCmp _ _ H', _, rfl, forkNe (fun h => iEq (first2_1 h).symm) (fun h => ⟨_, rfl, forkNe (fun g => iEq (first2_2 h).symm) (fun g => iEq ?_)⟩)⟩
    exact ((first2_2 h).trans g).symm
  have hp : ∀ (l : List Value), l.all (belowC 0) = true → l.map (rn (sgR 0 [j0, j1, j2, j3, j4, j5]) 3) = l := fun l hl => (rnCl (d := 0) hl).1
  refine valRA (css := [inL f.t, f.b.flatMap intC, l.flatMap rqC, X.flatMap intC, Y.flatMap intC, wkC f l X Y]) (Eq.mpr (Elater _ f l X Y i k) hv) rfl [j0, j1, j2, j3, j4, j5] rfl ?_
  intro n cs h
  match n with
  | 0 => cases h; exact ⟨_, _, _, rfl, by rw [hp _ (inL_b 0 _)]; exact e0⟩
  | 1 => cases h; exact ⟨_, _, _, rfl, by rw [hp _ (plainIL 0 _)]; exact e1⟩
  | 2 => cases h; exact ⟨_, _, _, rfl, by rw [hp _ (plainRQ 0 _)]; exact e2⟩
  | 3 => cases h; exact ⟨_, _, _, rfl, by rw [hp _ (plainIL 0 _)]; exact e3⟩
  | 4 => cases h; exact ⟨_, _, _, rfl, by rw [hp _ (plainIL 0 _)]; exact e4⟩
  | 5 => cases h; exact ⟨_, _, _, rfl, e5⟩
  | n + 6 => cases h
abbrev lV (i : Nat) (r : List Int × Int) : Value := .tuple #[.slice (some ⟨i, 0, some 2⟩) r.1.length r.1.length, .int .i64 r.2]
theorem wk_RI {id n m : Nat} (h : m = n) : wk (.slice (some ⟨id, 0, none⟩) n n) (.slice (some ⟨id, 0, some 2⟩) m m) := by subst h; exact wk_R
set_option maxHeartbeats 2000000 in
theorem kWaits (f : Fleet) (l : List Rq) (h : List Sv) (ht : f.t.length ≤ 4294967296) (hb : f.b.length ≤ 4294967296) (hs : shortI f.t) (hh : h.length ≤ 4294967296) {H : Heap} {L : Nat} (hL : H.length = L) {i0 i1 i2 i3 : Nat} {o0 o1 o2 o3 : Bool} {z0 z1 z2 z3 : Nat} (e0 : H[i0]? = some (.cells o0 z0 (inL f.t))) (e1 : H[i1]? = some (.cells o1 z1 (f.b.flatMap intC))) (e2 : H[i2]? = some (.cells o2 z2 (l.flatMap rqC))) (e3 : H[i3]? = some (.cells o3 z3 (h.flatMap svC))) :
    KCall prog 42 [fleetV f i0 i1, .slice (some ⟨i2, 0, some 2⟩) l.length l.length, .slice (some ⟨i3, 0, some 2⟩) h.length h.length] H [] (Is (lV L (fWaits f l h)) (H ++ [.cells true 1 ((fWaits f l h).1.flatMap intC)])) := by
  subst hL
  refine valNs (fun i => lV i (fWaits f l h)) (css := [inL f.t, f.b.flatMap intC, l.flatMap rqC, h.flatMap svC]) (new := [.cells true 1 ((fWaits f l h).1.flatMap intC)]) (Eq.mpr (EWaits f l h) ?_) ⟨inL_b 0 _, plainIL 0 _, plainRQ 0 _, plainSV 0 _, trivial⟩ ⟨⟨_, _, rfl, plainIL 0 _⟩, trivial⟩ rfl rfl (fun _ => rfl) (ids := [i0, i1, i2, i3]) ⟨⟨_, _, e0⟩, ⟨_, _, e1⟩, ⟨_, _, e2⟩, ⟨_, _, e3⟩, trivial⟩ rfl
  delta RWaits jf12 jf1v jf1l jf5 jf1 jf7 jfy jfs jfh jfg jfd jfr jf11 jf1i jfo jff jf2 jf1w jfv jf1r jf13 jf1s jfi jfb jf1g jfw jf4 jf1t jf1z jf1h
  refine ⟨⟨rfl, rfl, rfl, rfl, trivial⟩, fun H' _ hd => kHist f l h ht hb hs hh hd.1 hd.2.1 hd.2.2.1 hd.2.2.2.1, forkNe (fun e => ?_) (fun e => ?_)⟩
  · rw [fWaits_e e]
    repeat' first | exact inL_b _ _ | exact plainIL _ _ | exact plainBL _ _ | exact plainRQ _ _ | exact plainSV _ _ | exact plainBR _ _ | exact (inV_rn _ 0 _).symm | exact wk_QR | exact wk_nil _ _ _ (.inr rfl) | exact trivial | exact rfl | exact wk_refl _ | refine wkO_cells ?_ | refine wks_cons ?_ ?_ | exact wks_nil | exact wk_nil _ _ _ (.inl rfl) | (exact wk_Q (by omega)) | refine wk_tupL ?_ | refine wk_aggL ?_ | refine joinMax ?_ ?_ ?_ | refine joinMin ?_ ?_ ?_ | refine toMax ?_ | refine toMin ?_ | refine ⟨rfl, ?_⟩ | refine ⟨trivial, ?_⟩ | (refine forkD (fun h => ?_) (fun h => ?_)) | (refine forkNe (fun h => ?_) (fun h => ?_)) | (refine forkEq (fun h => ?_) (fun h => ?_)) | refine forkNot ?_ | (refine ⟨vI64 (by omega), ?_⟩) | (refine And.intro (by omega) ?_) | apply And.intro | (exact iEq (by omega)) | (exact vI64 (by omega))
  have o := histOk e
  have m1 := o.fl.b1
  have m2 := o.fl.b2
  have l30 := o.ls.len
  have hhl := o.len
  rw [fWaits_0 e]
  refine ⟨by omega, ⟨rfl, trivial⟩, fun H' hL hd => kCloneR f.b hb (by omega) hL hd.1, by omega, rfl, Nat.zero_le _, ?_, fun _ => rfl, ?_⟩
  · rw [krep_int, wtH_0]
    repeat' first | exact inL_b _ _ | exact plainIL _ _ | exact plainBL _ _ | exact plainRQ _ _ | exact plainSV _ _ | exact plainBR _ _ | exact (inV_rn _ 0 _).symm | exact wk_QR | exact wk_nil _ _ _ (.inr rfl) | exact trivial | exact rfl | exact wk_refl _ | refine wkO_cells ?_ | refine wks_cons ?_ ?_ | exact wks_nil | exact wk_nil _ _ _ (.inl rfl) | (exact wk_Q (by omega)) | refine wk_tupL ?_ | refine wk_aggL ?_ | refine joinMax ?_ ?_ ?_ | refine joinMin ?_ ?_ ?_ | refine toMax ?_ | refine toMin ?_ | refine ⟨rfl, ?_⟩ | refine ⟨trivial, ?_⟩ | (refine forkD (fun h => ?_) (fun h => ?_)) | (refine forkNe (fun h => ?_) (fun h => ?_)) | (refine forkEq (fun h => ?_) (fun h => ?_)) | refine forkNot ?_ | (refine ⟨vI64 (by omega), ?_⟩) | (refine And.intro (by omega) ?_) | apply And.intro | (exact iEq (by omega)) | (exact vI64 (by omega))
  intro x hx
  refine forkD (fun k => ?_) (fun k => ?_)
  · have hlt : x < h.length := by omega
    have r1 := o.rq x hlt
    have b1 := o.bgIn hlt
    have hrq : Int.toNat (svAt h x).rq < l.length := by omega
    have q3 := (o.ls.ok _ hrq).at_
    have g1 := flat_set intC_len (wtH l h x) (Int.toNat (svAt h x).rq) (by rw [wtH_len]; exact hrq) ((svAt h x).bg - (rqAt l (svAt h x).rq).at_)
    rw [← wtH_succ o hlt] at g1
    have g1' : setl ((wtH l h x).flatMap intC) (0 + Int.toNat (svAt h x).rq * 1) [.int .i64 ((svAt h x).bg - (l.getD (Int.toNat (svAt h x).rq) zeroQ).at_)] = (wtH l h (x + 1)).flatMap intC := by rw [Nat.zero_add]; exact g1
    rw [show h.getD x zeroV = svAt h x from rfl]
    refine ⟨by omega, partV hlt (by omega), r1, atAt hrq (by omega), vI64 (by omega), r1, by rw [flat_len intC_len, wtH_len]; omega, rfl, vI64 (by omega), x + 1, by omega, by omega, rfl, ?_⟩
    rw [g1']
    repeat' first | exact inL_b _ _ | exact plainIL _ _ | exact plainBL _ _ | exact plainRQ _ _ | exact plainSV _ _ | exact plainBR _ _ | exact (inV_rn _ 0 _).symm | exact wk_QR | exact wk_nil _ _ _ (.inr rfl) | exact trivial | exact rfl | exact wk_refl _ | refine wkO_cells ?_ | refine wks_cons ?_ ?_ | exact wks_nil | exact wk_nil _ _ _ (.inl rfl) | (exact wk_Q (by omega)) | refine wk_tupL ?_ | refine wk_aggL ?_ | refine joinMax ?_ ?_ ?_ | refine joinMin ?_ ?_ ?_ | refine toMax ?_ | refine toMin ?_ | refine ⟨rfl, ?_⟩ | refine ⟨trivial, ?_⟩ | (refine forkD (fun h => ?_) (fun h => ?_)) | (refine forkNe (fun h => ?_) (fun h => ?_)) | (refine forkEq (fun h => ?_) (fun h => ?_)) | refine forkNot ?_ | (refine ⟨vI64 (by omega), ?_⟩) | (refine And.intro (by omega) ?_) | apply And.intro | (exact iEq (by omega)) | (exact vI64 (by omega))
  · obtain rfl : x = h.length := by omega
    rw [wtH_all]
    repeat' first | exact inL_b _ _ | exact plainIL _ _ | exact plainBL _ _ | exact plainRQ _ _ | exact plainSV _ _ | exact plainBR _ _ | exact (inV_rn _ 0 _).symm | exact wk_QR | exact wk_nil _ _ _ (.inr rfl) | exact wk_RI (waitsL_len l h) | exact trivial | exact rfl | exact wk_refl _ | refine wkO_cells ?_ | refine wks_cons ?_ ?_ | exact wks_nil | exact wk_nil _ _ _ (.inl rfl) | (exact wk_Q (by omega)) | refine wk_tupL ?_ | refine wk_aggL ?_ | refine joinMax ?_ ?_ ?_ | refine joinMin ?_ ?_ ?_ | refine toMax ?_ | refine toMin ?_ | refine ⟨rfl, ?_⟩ | refine ⟨trivial, ?_⟩ | (refine forkD (fun h => ?_) (fun h => ?_)) | (refine forkNe (fun h => ?_) (fun h => ?_)) | (refine forkEq (fun h => ?_) (fun h => ?_)) | refine forkNot ?_ | (refine ⟨vI64 (by omega), ?_⟩) | (refine And.intro (by omega) ?_) | apply And.intro | (exact iEq (by omega)) | (exact vI64 (by omega))
theorem bgAt {l : List Sv} {k : Nat} (h : k < l.length) {off : Nat} (ho : off = k * 5 + 3) : (l.flatMap svC)[off]? = some (.int .i64 (l.getD k zeroV).bg) := cell_at (n := 5) (d := zeroV) (c := 3) svC_len h ho rfl
theorem kWait (l : List Rq) (h : List Sv) (i : Int) (hi : 0 ≤ i ∧ i < (l.length : Int)) (hh : h.length ≤ 4294967296) (hb : ∀ k, k < h.length → 0 ≤ (svAt h k).bg ∧ (svAt h k).bg ≤ 1000000100) (ha : ∀ k, k < l.length → 0 ≤ (l.getD k zeroQ).at_ ∧ (l.getD k zeroQ).at_ ≤ 10000) {H : Heap} {i0 i1 : Nat} {o0 o1 : Bool} {z0 z1 : Nat} (e0 : H[i0]? = some (.cells o0 z0 (l.flatMap rqC))) (e1 : H[i1]? = some (.cells o1 z1 (h.flatMap svC))) :
    KCall prog 91 [.slice (some ⟨i0, 0, some 2⟩) l.length l.length, .slice (some ⟨i1, 0, some 2⟩) h.length h.length, nI i] H [] (Is (.int .i64 (waitOf l h i)) H) := by
  refine valRx (Eq.mpr (Ewait _ l h i) ?_) ⟨plainRQ 0 _, plainSV 0 _, trivial⟩ rfl (ids := [i0, i1]) ⟨⟨_, _, e0⟩, ⟨_, _, e1⟩, trivial⟩ rfl
  delta Rwait jf11 jf1i jfv jff jfd jf1l jfj
  refine ⟨rfl, ⟨Nat.zero_le _, rfl⟩, ?_, fun _ => rfl, ?_⟩
  · repeat' first | exact inL_b _ _ | exact plainIL _ _ | exact plainBL _ _ | exact plainRQ _ _ | exact plainSV _ _ | exact plainBR _ _ | exact (inV_rn _ 0 _).symm | exact wk_QR | exact wk_nil _ _ _ (.inr rfl) | exact trivial | exact rfl | exact wk_refl _ | refine wkO_cells ?_ | refine wks_cons ?_ ?_ | exact wks_nil | exact wk_nil _ _ _ (.inl rfl) | (exact wk_Q (by omega)) | refine wk_tupL ?_ | refine wk_aggL ?_ | refine joinMax ?_ ?_ ?_ | refine joinMin ?_ ?_ ?_ | refine toMax ?_ | refine toMin ?_ | refine ⟨rfl, ?_⟩ | refine ⟨trivial, ?_⟩ | (refine forkD (fun h => ?_) (fun h => ?_)) | (refine forkNe (fun h => ?_) (fun h => ?_)) | (refine forkEq (fun h => ?_) (fun h => ?_)) | refine forkNot ?_ | (refine ⟨vI64 (by omega), ?_⟩) | (refine And.intro (by omega) ?_) | apply And.intro | (exact iEq (by omega)) | (exact vI64 (by omega))
  rintro x ⟨hx, hn⟩
  refine forkD (fun k => ?_) (fun k => iEq (waitOf_no h (any_end (by omega) hn)).symm)
  have hlt : x < h.length := by omega
  have hir : Int.toNat i < l.length := by omega
  have b1 : 0 ≤ (h.getD x zeroV).bg ∧ (h.getD x zeroV).bg ≤ 1000000100 := hb x hlt
  have a1 := ha _ hir
  refine ⟨by omega, srqAt hlt (by omega), forkEq (fun c => ⟨by omega, bgAt hlt (by omega), by omega, atAt hir (by omega), vI64 (by omega), _, rfl, iEq (waitOf_at h x hlt c hn).symm⟩) (fun c => ⟨vI64 (by omega), x + 1, ⟨by omega, any_snoc (d := zeroV) hlt hn (decide_eq_false c)⟩, by omega, rfl, ?_⟩)⟩
  repeat' first | exact inL_b _ _ | exact plainIL _ _ | exact plainBL _ _ | exact plainRQ _ _ | exact plainSV _ _ | exact plainBR _ _ | exact (inV_rn _ 0 _).symm | exact wk_QR | exact wk_nil _ _ _ (.inr rfl) | exact trivial | exact rfl | exact wk_refl _ | refine wkO_cells ?_ | refine wks_cons ?_ ?_ | exact wks_nil | exact wk_nil _ _ _ (.inl rfl) | (exact wk_Q (by omega)) | refine wk_tupL ?_ | refine wk_aggL ?_ | refine joinMax ?_ ?_ ?_ | refine joinMin ?_ ?_ ?_ | refine toMax ?_ | refine toMin ?_ | refine ⟨rfl, ?_⟩ | refine ⟨trivial, ?_⟩ | (refine forkD (fun h => ?_) (fun h => ?_)) | (refine forkNe (fun h => ?_) (fun h => ?_)) | (refine forkEq (fun h => ?_) (fun h => ?_)) | refine forkNot ?_ | (refine ⟨vI64 (by omega), ?_⟩) | (refine And.intro (by omega) ?_) | apply And.intro | (exact iEq (by omega)) | (exact vI64 (by omega))
end
end Go.Proofs.YthdekmpkioikdaaGreat
/- Request: who is detained, as plain lists. No condition. -/
namespace Go.Proofs.YthdekmpkioikdaaGreat
set_option linter.unusedSimpArgs false
open Go Go.K
set_option linter.unusedVariables false
noncomputable section
theorem dtH_1 {l : List Rq} {h : List Sv} {k : Nat} (hk : k < h.length) (e : lateS l (svAt h k) = true) : dtH l h (k + 1) = dtH l h k ++ [(svAt h k).rq] := by
  unfold dtH
  have e' : lateS l (h.getD k zeroV) = true := e
  rw [take_snoc (d := zeroV) hk, List.filter_append, List.map_append, List.filter_cons, if_pos e']; rfl
theorem dtH_0 {l : List Rq} {h : List Sv} {k : Nat} (hk : k < h.length) (e : lateS l (svAt h k) = false) : dtH l h (k + 1) = dtH l h k := by
  unfold dtH
  have e' : lateS l (h.getD k zeroV) = false := e
  rw [take_snoc (d := zeroV) hk, List.filter_append, List.map_append, List.filter_cons, if_neg (by rw [e']; decide)]
  simp
theorem dtH_le (l : List Rq) (h : List Sv) (k : Nat) : (dtH l h k).length ≤ k := by
  unfold dtH; rw [List.length_map]; exact Nat.le_trans (List.length_filter_le _ _) (by rw [List.length_take]; omega)
theorem lateTo_1 {l : List Rq} {h : List Sv} {k : Nat} (e : lateB l h k = true) : lateTo l h (k + 1) = lateTo l h k ++ [(k : Int)] := by
  unfold lateTo
  rw [List.range_succ, List.filter_append, List.map_append, List.filter_cons, if_pos e]; rfl
theorem lateTo_0 {l : List Rq} {h : List Sv} {k : Nat} (e : lateB l h k = false) : lateTo l h (k + 1) = lateTo l h k := by
  unfold lateTo
  rw [List.range_succ, List.filter_append, List.map_append, List.filter_cons, if_neg (by rw [e]; decide)]
  simp
theorem lateTo_le (l : List Rq) (h : List Sv) (k : Nat) : (lateTo l h k).length ≤ k := by
  unfold lateTo; rw [List.length_map]; exact Nat.le_trans (List.length_filter_le _ _) (by rw [List.length_range]; omega)
theorem lt_ext : ∀ {A B : List Int}, A.Pairwise (· < ·) → B.Pairwise (· < ·) → (∀ z, z ∈ A ↔ z ∈ B) → A = B
  | [], [], _, _, _ => rfl
  | [], b :: B, _, _, h => absurd ((h b).2 (List.mem_cons_self ..)) (by simp)
  | a :: A, [], _, _, h => absurd ((h a).1 (List.mem_cons_self ..)) (by simp)
  | a :: A, b :: B, ha, hb, h => by
    rw [List.pairwise_cons] at ha hb
    have e : a = b := by
      rcases List.mem_cons.1 ((h a).1 (List.mem_cons_self ..)) with e | m
      · exact e
      · rcases List.mem_cons.1 ((h b).2 (List.mem_cons_self ..)) with e | m2
        · exact e.symm
        · have := hb.1 a m; have := ha.1 b m2; omega
    subst e
    rw [lt_ext ha.2 hb.2 fun z => ⟨fun hz => by
      rcases List.mem_cons.1 ((h z).1 (List.mem_cons_of_mem _ hz)) with e | m
      · have := ha.1 z hz; omega
      · exact m, fun hz => by
      rcases List.mem_cons.1 ((h z).2 (List.mem_cons_of_mem _ hz)) with e | m
      · have := hb.1 z hz; omega
      · exact m⟩]
theorem HOk.pw {f : Fleet} {l : List Rq} {h : List Sv} (o : HOk f l h) : h.Pairwise fun a b => a.rq ≠ b.rq := by
  rw [List.pairwise_iff_getElem]
  intro i j hi hj hij
  have := o.inj hj hij
  have e1 : svAt h i = h[i] := by show h.getD i zeroV = _; rw [List.getD_eq_getElem?_getD, List.getElem?_eq_getElem hi]; rfl
  have e2 : svAt h j = h[j] := by show h.getD j zeroV = _; rw [List.getD_eq_getElem?_getD, List.getElem?_eq_getElem hj]; rfl
  rw [e1, e2] at this; exact this
theorem dt_late {f : Fleet} {l : List Rq} {h : List Sv} (o : HOk f l h) : srtI (dtH l h h.length) = lateL l h := by
  have nd : (dtH l h h.length).Pairwise (· ≠ ·) := by
    unfold dtH
    rw [List.take_length, List.pairwise_map]
    exact (List.Pairwise.filter _ o.pw)
  have nd2 : (srtI (dtH l h h.length)).Pairwise (· ≠ ·) := (List.mergeSort_perm (dtH l h h.length) _).symm.pairwise nd (fun h e => h e.symm)
  have s1 : (srtI (dtH l h h.length)).Pairwise (· < ·) := ((srt_le _).and nd2).imp fun ⟨a, b⟩ => by omega
  have s2 : (lateL l h).Pairwise (· < ·) := by
    unfold lateL lateTo
    rw [List.pairwise_map]
    exact (List.Pairwise.filter _ (List.pairwise_lt_range (n := l.length))).imp fun h => by omega
  refine lt_ext s1 s2 fun z => ?_
  rw [srt_mem]
  unfold dtH lateL lateTo
  rw [List.take_length, List.mem_map, List.mem_map]
  constructor
  · rintro ⟨s, hs, rfl⟩
    obtain ⟨h1, h2⟩ := List.mem_filter.1 hs
    obtain ⟨k, hk, e⟩ := mem_getD zeroV h1
    have r := o.rq k hk
    have es : svAt h k = s := e
    rw [es] at r
    have hw := waitOf_at (l := l) h k hk rfl (o.ne k hk)
    have hw : waitOf l h s.rq = s.bg - (rqAt l s.rq).at_ := by rw [← es]; exact hw
    refine ⟨Int.toNat s.rq, List.mem_filter.2 ⟨List.mem_range.2 (by omega), ?_⟩, by omega⟩
    unfold lateB
    rw [Int.toNat_of_nonneg r.1, hw]
    exact h2
  · rintro ⟨i, hi, rfl⟩
    obtain ⟨h1, h2⟩ := List.mem_filter.1 hi
    have hin := List.mem_range.1 h1
    unfold lateB at h2
    rw [Bool.and_eq_true] at h2
    have l1 := of_decide_eq_true h2.1
    have l2 := of_decide_eq_true h2.2
    cases hc : h.any (isRq (i : Int)) with
    | false => rw [waitOf_no h hc] at l2; omega
    | true =>
      obtain ⟨s, hs, e⟩ := List.any_eq_true.1 hc
      have er : s.rq = (i : Int) := of_decide_eq_true e
      obtain ⟨k, hk, e2⟩ := mem_getD zeroV hs
      have es : svAt h k = s := e2
      have hw := waitOf_at (l := l) h k hk rfl (o.ne k hk)
      have hw : waitOf l h s.rq = s.bg - (rqAt l s.rq).at_ := by rw [← es]; exact hw
      refine ⟨s, List.mem_filter.2 ⟨hs, ?_⟩, er⟩
      rw [← er, hw] at l2
      unfold lateS
      have e3 : rqAt l s.rq = l.getD i zeroQ := by unfold rqAt; rw [er]; rfl
      rw [e3] at l2 ⊢
      rw [decide_eq_true l1, decide_eq_true l2]; rfl
end
end Go.Proofs.YthdekmpkioikdaaGreat
/- Request: how long requests wait, and who is detained. No condition. -/
namespace Go.Proofs.YthdekmpkioikdaaGreat
open Go Go.K
set_option maxRecDepth 100000
set_option linter.unusedVariables false
set_option linter.unusedSimpArgs false
noncomputable section
attribute [local irreducible] vF
set_option maxHeartbeats 2000000 in
theorem krWaits (f : Fleet) (l : List Rq) (h : List Sv) (ht : f.t.length ≤ 4294967296) (hb : f.b.length ≤ 4294967296) (hs : shortI f.t) (hh : h.length ≤ 4294967296) {H : Heap} {L : Nat} (hL : H.length = L) {i0 i1 i2 i3 : Nat} {o0 o1 o2 o3 : Bool} {z0 z1 z2 z3 : Nat} (e0 : H[i0]? = some (.cells o0 z0 (inL f.t))) (e1 : H[i1]? = some (.cells o1 z1 (f.b.flatMap intC))) (e2 : H[i2]? = some (.cells o2 z2 (l.flatMap rqC))) (e3 : H[i3]? = some (.cells o3 z3 (h.flatMap svC))) :
    KCall prog 43 [fleetV f i0 i1, .slice (some ⟨i2, 0, some 2⟩) l.length l.length, .slice (some ⟨i3, 0, some 2⟩) h.length h.length] H [] (Is (lV L (fWaits f l h)) (H ++ [.cells true 1 ((fWaits f l h).1.flatMap intC)])) := by
  subst hL
  refine valNs (fun i => lV i (fWaits f l h)) (css := [inL f.t, f.b.flatMap intC, l.flatMap rqC, h.flatMap svC]) (new := [.cells true 1 ((fWaits f l h).1.flatMap intC)]) (Eq.mpr (ErWaits f l h) ?_) ⟨inL_b 0 _, plainIL 0 _, plainRQ 0 _, plainSV 0 _, trivial⟩ ⟨⟨_, _, rfl, plainIL 0 _⟩, trivial⟩ rfl rfl (fun _ => rfl) (ids := [i0, i1, i2, i3]) ⟨⟨_, _, e0⟩, ⟨_, _, e1⟩, ⟨_, _, e2⟩, ⟨_, _, e3⟩, trivial⟩ rfl
  delta RrWaits jf12 jf1v jf1l jf5 jf1 jf7 jfz jfs jf11 jf1i jfo jf1u jf1y jf1x jfd jfp jf15 jf1h
  refine ⟨⟨rfl, rfl, rfl, rfl, trivial⟩, fun H' _ hd => krHist f l h ht hb hs hh hd.1 hd.2.1 hd.2.2.1 hd.2.2.2.1, forkNe (fun e => ?_) (fun e => ?_)⟩
  · rw [fWaits_e e]
    repeat' first | exact inL_b _ _ | exact plainIL _ _ | exact plainBL _ _ | exact plainRQ _ _ | exact plainSV _ _ | exact plainBR _ _ | exact (inV_rn _ 0 _).symm | exact wk_QR | exact wk_nil _ _ _ (.inr rfl) | exact trivial | exact rfl | exact wk_refl _ | refine wkO_cells ?_ | refine wks_cons ?_ ?_ | exact wks_nil | exact wk_nil _ _ _ (.inl rfl) | (exact wk_Q (by omega)) | refine wk_tupL ?_ | refine wk_aggL ?_ | refine joinMax ?_ ?_ ?_ | refine joinMin ?_ ?_ ?_ | refine toMax ?_ | refine toMin ?_ | refine ⟨rfl, ?_⟩ | refine ⟨trivial, ?_⟩ | (refine forkD (fun h => ?_) (fun h => ?_)) | (refine forkNe (fun h => ?_) (fun h => ?_)) | (refine forkEq (fun h => ?_) (fun h => ?_)) | refine forkNot ?_ | (refine ⟨vI64 (by omega), ?_⟩) | (refine And.intro (by omega) ?_) | apply And.intro | (exact iEq (by omega)) | (exact vI64 (by omega))
  have o := histOk e
  have m1 := o.fl.b1
  have m2 := o.fl.b2
  have l30 := o.ls.len
  have hhl := o.len
  rw [fWaits_0 e]
  refine ⟨rfl, Nat.zero_le _, ?_, fun _ => rfl, ?_⟩
  · repeat' first | exact inL_b _ _ | exact plainIL _ _ | exact plainBL _ _ | exact plainRQ _ _ | exact plainSV _ _ | exact plainBR _ _ | exact (inV_rn _ 0 _).symm | exact wk_QR | exact wk_nil _ _ _ (.inr rfl) | exact trivial | exact rfl | exact wk_refl _ | refine wkO_cells ?_ | refine wks_cons ?_ ?_ | exact wks_nil | exact wk_nil _ _ _ (.inl rfl) | (exact wk_Q (by omega)) | refine wk_tupL ?_ | refine wk_aggL ?_ | refine joinMax ?_ ?_ ?_ | refine joinMin ?_ ?_ ?_ | refine toMax ?_ | refine toMin ?_ | refine ⟨rfl, ?_⟩ | refine ⟨trivial, ?_⟩ | (refine forkD (fun h => ?_) (fun h => ?_)) | (refine forkNe (fun h => ?_) (fun h => ?_)) | (refine forkEq (fun h => ?_) (fun h => ?_)) | refine forkNot ?_ | (refine ⟨vI64 (by omega), ?_⟩) | (refine And.intro (by omega) ?_) | apply And.intro | (exact iEq (by omega)) | (exact vI64 (by omega))
  intro x hx
  have hwl := waitsL_len l h
  have htl : (List.take x (waitsL l h)).length = x := take_len (by omega)
  refine forkD (fun k => ?_) (fun k => ?_)
  · have hlt : x < l.length := by omega
    have hsn := take_snoc (d := 0) (l := waitsL l h) (k := x) (by omega)
    have hg : (waitsL l h).getD x 0 = waitOf l h (x : Int) := tabP_get hlt
    rw [hg] at hsn
    have hfs := flat_snoc intC_len (List.take x (waitsL l h)) (waitOf l h (x : Int)) htl.symm
    rw [← hsn] at hfs
    refine ⟨⟨rfl, rfl, trivial⟩, fun H' _ hd => kWait l h x (by omega) hh (fun k hk => o.bgIn hk) (fun k hk => (o.ls.ok k hk).at_) hd.1 hd.2.1, ⟨by omega, by decide, ⟨Nat.le_refl _, by rw [flat_len intC_len, htl]; omega⟩, ⟨Nat.le_refl _, Nat.le_refl _⟩, rfl⟩, rfl, vI64 (by omega), x + 1, by omega, by omega, rfl, ?_⟩
    repeat' first | exact inL_b _ _ | exact plainIL _ _ | exact plainBL _ _ | exact plainRQ _ _ | exact plainSV _ _ | exact plainBR _ _ | exact (inV_rn _ 0 _).symm | exact wk_QR | exact wk_nil _ _ _ (.inr rfl) | (exact congrArg (fun l => some (KObj.cells true 1 l)) hfs) | exact trivial | exact rfl | exact wk_refl _ | refine wkO_cells ?_ | refine wks_cons ?_ ?_ | exact wks_nil | exact wk_nil _ _ _ (.inl rfl) | (exact wk_Q (by omega)) | refine wk_tupL ?_ | refine wk_aggL ?_ | refine joinMax ?_ ?_ ?_ | refine joinMin ?_ ?_ ?_ | refine toMax ?_ | refine toMin ?_ | refine ⟨rfl, ?_⟩ | refine ⟨trivial, ?_⟩ | (refine forkD (fun h => ?_) (fun h => ?_)) | (refine forkNe (fun h => ?_) (fun h => ?_)) | (refine forkEq (fun h => ?_) (fun h => ?_)) | refine forkNot ?_ | (refine ⟨vI64 (by omega), ?_⟩) | (refine And.intro (by omega) ?_) | apply And.intro | (exact iEq (by omega)) | (exact vI64 (by omega))
  · obtain rfl : x = (waitsL l h).length := by omega
    rw [List.take_length]
    repeat' first | exact inL_b _ _ | exact plainIL _ _ | exact plainBL _ _ | exact plainRQ _ _ | exact plainSV _ _ | exact plainBR _ _ | exact (inV_rn _ 0 _).symm | exact wk_QR | exact wk_nil _ _ _ (.inr rfl) | exact trivial | exact rfl | exact wk_refl _ | refine wkO_cells ?_ | refine wks_cons ?_ ?_ | exact wks_nil | exact wk_nil _ _ _ (.inl rfl) | (exact wk_Q (by omega)) | refine wk_tupL ?_ | refine wk_aggL ?_ | refine joinMax ?_ ?_ ?_ | refine joinMin ?_ ?_ ?_ | refine toMax ?_ | refine toMin ?_ | refine ⟨rfl, ?_⟩ | refine ⟨trivial, ?_⟩ | (refine forkD (fun h => ?_) (fun h => ?_)) | (refine forkNe (fun h => ?_) (fun h => ?_)) | (refine forkEq (fun h => ?_) (fun h => ?_)) | refine forkNot ?_ | (refine ⟨vI64 (by omega), ?_⟩) | (refine And.intro (by omega) ?_) | apply And.intro | (exact iEq (by omega)) | (exact vI64 (by omega))
set_option maxHeartbeats 2000000 in
theorem kDet (f : Fleet) (l : List Rq) (h : List Sv) (ht : f.t.length ≤ 4294967296) (hb : f.b.length ≤ 4294967296) (hs : shortI f.t) (hh : h.length ≤ 4294967296) {H : Heap} {L : Nat} (hL : H.length = L) {i0 i1 i2 i3 : Nat} {o0 o1 o2 o3 : Bool} {z0 z1 z2 z3 : Nat} (e0 : H[i0]? = some (.cells o0 z0 (inL f.t))) (e1 : H[i1]? = some (.cells o1 z1 (f.b.flatMap intC))) (e2 : H[i2]? = some (.cells o2 z2 (l.flatMap rqC))) (e3 : H[i3]? = some (.cells o3 z3 (h.flatMap svC))) :
    KCall prog 45 [fleetV f i0 i1, .slice (some ⟨i2, 0, some 2⟩) l.length l.length, .slice (some ⟨i3, 0, some 2⟩) h.length h.length] H [] (Is (lV L (fDet f l h)) (H ++ [.cells true 1 ((fDet f l h).1.flatMap intC)])) := by
  subst hL
  refine valNs (fun i => lV i (fDet f l h)) (css := [inL f.t, f.b.flatMap intC, l.flatMap rqC, h.flatMap svC]) (new := [.cells true 1 ((fDet f l h).1.flatMap intC)]) (Eq.mpr (EDet f l h) ?_) ⟨inL_b 0 _, plainIL 0 _, plainRQ 0 _, plainSV 0 _, trivial⟩ ⟨⟨_, _, rfl, plainIL 0 _⟩, trivial⟩ rfl rfl (fun _ => rfl) (ids := [i0, i1, i2, i3]) ⟨⟨_, _, e0⟩, ⟨_, _, e1⟩, ⟨_, _, e2⟩, ⟨_, _, e3⟩, trivial⟩ rfl
  delta RDet jf12 jf1v jf1l jf5 jf1 jf7 jfy jfu jfh jfg jf11 jf1i jfo jff jf10 jf1r jf13 jf1s jfi jfb jf1g jfd jfw jf4 jf1b jf1t jf8 jf1m
  refine ⟨⟨rfl, rfl, rfl, rfl, trivial⟩, fun H' _ hd => kHist f l h ht hb hs hh hd.1 hd.2.1 hd.2.2.1 hd.2.2.2.1, forkNe (fun e => ?_) (fun e => ?_)⟩
  · rw [fDet_e e]
    repeat' first | exact inL_b _ _ | exact plainIL _ _ | exact plainBL _ _ | exact plainRQ _ _ | exact plainSV _ _ | exact plainBR _ _ | exact (inV_rn _ 0 _).symm | exact wk_QR | exact wk_nil _ _ _ (.inr rfl) | exact trivial | exact rfl | exact wk_refl _ | refine wkO_cells ?_ | refine wks_cons ?_ ?_ | exact wks_nil | exact wk_nil _ _ _ (.inl rfl) | (exact wk_Q (by omega)) | refine wk_tupL ?_ | refine wk_aggL ?_ | refine joinMax ?_ ?_ ?_ | refine joinMin ?_ ?_ ?_ | refine toMax ?_ | refine toMin ?_ | refine ⟨rfl, ?_⟩ | refine ⟨trivial, ?_⟩ | (refine forkD (fun h => ?_) (fun h => ?_)) | (refine forkNe (fun h => ?_) (fun h => ?_)) | (refine forkEq (fun h => ?_) (fun h => ?_)) | refine forkNot ?_ | (refine ⟨vI64 (by omega), ?_⟩) | (refine And.intro (by omega) ?_) | apply And.intro | (exact iEq (by omega)) | (exact vI64 (by omega))
  have o := histOk e
  have m1 := o.fl.b1
  have m2 := o.fl.b2
  have l30 := o.ls.len
  have hhl := o.len
  rw [fDet_0 e]
  refine ⟨by omega, ⟨rfl, trivial⟩, fun H' hL hd => kCloneR f.b hb (by omega) hL hd.1, rfl, Nat.zero_le _, ?_, fun _ => rfl, ?_⟩
  · repeat' first | exact inL_b _ _ | exact plainIL _ _ | exact plainBL _ _ | exact plainRQ _ _ | exact plainSV _ _ | exact plainBR _ _ | exact (inV_rn _ 0 _).symm | exact wk_QR | exact wk_nil _ _ _ (.inr rfl) | exact trivial | exact rfl | exact wk_refl _ | refine wkO_cells ?_ | refine wks_cons ?_ ?_ | exact wks_nil | exact wk_nil _ _ _ (.inl rfl) | (exact wk_Q (by omega)) | refine wk_tupL ?_ | refine wk_aggL ?_ | refine joinMax ?_ ?_ ?_ | refine joinMin ?_ ?_ ?_ | refine toMax ?_ | refine toMin ?_ | refine ⟨rfl, ?_⟩ | refine ⟨trivial, ?_⟩ | (refine forkD (fun h => ?_) (fun h => ?_)) | (refine forkNe (fun h => ?_) (fun h => ?_)) | (refine forkEq (fun h => ?_) (fun h => ?_)) | refine forkNot ?_ | (refine ⟨vI64 (by omega), ?_⟩) | (refine And.intro (by omega) ?_) | apply And.intro | (exact iEq (by omega)) | (exact vI64 (by omega))
  intro x hx
  have hdl := dtH_le l h x
  refine forkD (fun k => ?_) (fun k => ?_)
  · have hlt : x < h.length := by omega
    have r1 := o.rq x hlt
    have b1 := o.bgIn hlt
    have hrq : Int.toNat (svAt h x).rq < l.length := by omega
    have q := o.ls.ok _ hrq
    have q3 := q.at_
    have q4 := q.limit
    rw [show h.getD x zeroV = svAt h x from rfl]
    refine ⟨by omega, partV hlt (by omega), r1, partQ hrq (by omega), forkD (fun c1 => ⟨vI64 (by omega), forkD (fun c2 => ?_) (fun c2 => ?_)⟩) (fun c1 => ?_)⟩
    · have hM := dtH_1 hlt (show lateS l (svAt h x) = true from Bool.and_eq_true _ _ ▸ ⟨decide_eq_true c1, decide_eq_true c2⟩)
      refine ⟨⟨by omega, by decide, ⟨Nat.le_refl _, flat_le intC_len _⟩, ⟨Nat.le_refl _, Nat.le_refl _⟩, rfl⟩, rfl, vI64 (by omega), x + 1, by omega, by omega, rfl, ?_⟩
      repeat' first | exact inL_b _ _ | exact plainIL _ _ | exact plainBL _ _ | exact plainRQ _ _ | exact plainSV _ _ | exact plainBR _ _ | exact (inV_rn _ 0 _).symm | exact wk_QR | exact wk_nil _ _ _ (.inr rfl) | exact wk_snoc hM | exact ob_snoc intC_len hM rfl | exact trivial | exact rfl | exact wk_refl _ | refine wkO_cells ?_ | refine wks_cons ?_ ?_ | exact wks_nil | exact wk_nil _ _ _ (.inl rfl) | (exact wk_Q (by omega)) | refine wk_tupL ?_ | refine wk_aggL ?_ | refine joinMax ?_ ?_ ?_ | refine joinMin ?_ ?_ ?_ | refine toMax ?_ | refine toMin ?_ | refine ⟨rfl, ?_⟩ | refine ⟨trivial, ?_⟩ | (refine forkD (fun h => ?_) (fun h => ?_)) | (refine forkNe (fun h => ?_) (fun h => ?_)) | (refine forkEq (fun h => ?_) (fun h => ?_)) | refine forkNot ?_ | (refine ⟨vI64 (by omega), ?_⟩) | (refine And.intro (by omega) ?_) | apply And.intro | (exact iEq (by omega)) | (exact vI64 (by omega))
    · have hM := dtH_0 hlt (show lateS l (svAt h x) = false from Bool.and_eq_false_iff.2 (.inr (decide_eq_false c2)))
      refine ⟨vI64 (by omega), x + 1, by omega, by omega, rfl, ?_⟩
      rw [hM]
      repeat' first | exact inL_b _ _ | exact plainIL _ _ | exact plainBL _ _ | exact plainRQ _ _ | exact plainSV _ _ | exact plainBR _ _ | exact (inV_rn _ 0 _).symm | exact wk_QR | exact wk_nil _ _ _ (.inr rfl) | exact trivial | exact rfl | exact wk_refl _ | refine wkO_cells ?_ | refine wks_cons ?_ ?_ | exact wks_nil | exact wk_nil _ _ _ (.inl rfl) | (exact wk_Q (by omega)) | refine wk_tupL ?_ | refine wk_aggL ?_ | refine joinMax ?_ ?_ ?_ | refine joinMin ?_ ?_ ?_ | refine toMax ?_ | refine toMin ?_ | refine ⟨rfl, ?_⟩ | refine ⟨trivial, ?_⟩ | (refine forkD (fun h => ?_) (fun h => ?_)) | (refine forkNe (fun h => ?_) (fun h => ?_)) | (refine forkEq (fun h => ?_) (fun h => ?_)) | refine forkNot ?_ | (refine ⟨vI64 (by omega), ?_⟩) | (refine And.intro (by omega) ?_) | apply And.intro | (exact iEq (by omega)) | (exact vI64 (by omega))
    · have hM := dtH_0 hlt (show lateS l (svAt h x) = false from Bool.and_eq_false_iff.2 (.inl (decide_eq_false c1)))
      refine ⟨vI64 (by omega), x + 1, by omega, by omega, rfl, ?_⟩
      rw [hM]
      repeat' first | exact inL_b _ _ | exact plainIL _ _ | exact plainBL _ _ | exact plainRQ _ _ | exact plainSV _ _ | exact plainBR _ _ | exact (inV_rn _ 0 _).symm | exact wk_QR | exact wk_nil _ _ _ (.inr rfl) | exact trivial | exact rfl | exact wk_refl _ | refine wkO_cells ?_ | refine wks_cons ?_ ?_ | exact wks_nil | exact wk_nil _ _ _ (.inl rfl) | (exact wk_Q (by omega)) | refine wk_tupL ?_ | refine wk_aggL ?_ | refine joinMax ?_ ?_ ?_ | refine joinMin ?_ ?_ ?_ | refine toMax ?_ | refine toMin ?_ | refine ⟨rfl, ?_⟩ | refine ⟨trivial, ?_⟩ | (refine forkD (fun h => ?_) (fun h => ?_)) | (refine forkNe (fun h => ?_) (fun h => ?_)) | (refine forkEq (fun h => ?_) (fun h => ?_)) | refine forkNot ?_ | (refine ⟨vI64 (by omega), ?_⟩) | (refine And.intro (by omega) ?_) | apply And.intro | (exact iEq (by omega)) | (exact vI64 (by omega))
  · obtain rfl : x = h.length := by omega
    have hl : (dtH l h h.length).length = (lateL l h).length := by rw [← dt_late o, srt_len]
    refine ⟨⟨rfl, trivial⟩, fun H' _ hd => ?_, ?_⟩
    · have := kSort (L0 := dtH l h h.length) (by omega) hd.1
      rw [dt_late o] at this; exact this
    · rw [hl]
      repeat' first | exact inL_b _ _ | exact plainIL _ _ | exact plainBL _ _ | exact plainRQ _ _ | exact plainSV _ _ | exact plainBR _ _ | exact (inV_rn _ 0 _).symm | exact wk_QR | exact wk_nil _ _ _ (.inr rfl) | exact trivial | exact rfl | exact wk_refl _ | refine wkO_cells ?_ | refine wks_cons ?_ ?_ | exact wks_nil | exact wk_nil _ _ _ (.inl rfl) | (exact wk_Q (by omega)) | refine wk_tupL ?_ | refine wk_aggL ?_ | refine joinMax ?_ ?_ ?_ | refine joinMin ?_ ?_ ?_ | refine toMax ?_ | refine toMin ?_ | refine ⟨rfl, ?_⟩ | refine ⟨trivial, ?_⟩ | (refine forkD (fun h => ?_) (fun h => ?_)) | (refine forkNe (fun h => ?_) (fun h => ?_)) | (refine forkEq (fun h => ?_) (fun h => ?_)) | refine forkNot ?_ | (refine ⟨vI64 (by omega), ?_⟩) | (refine And.intro (by omega) ?_) | apply And.intro | (exact iEq (by omega)) | (exact vI64 (by omega))
theorem limAt {l : List Rq} {k : Nat} (h : k < l.length) {off : Nat} (ho : off = k * 7 + 6) : (l.flatMap rqC)[off]? = some (.int .i64 (l.getD k zeroQ).limit) := cell_at (n := 7) (d := zeroQ) (c := 6) rqC_len h ho rfl
set_option maxHeartbeats 2000000 in
theorem krDet (f : Fleet) (l : List Rq) (h : List Sv) (ht : f.t.length ≤ 4294967296) (hb : f.b.length ≤ 4294967296) (hs : shortI f.t) (hh : h.length ≤ 4294967296) {H : Heap} {L : Nat} (hL : H.length = L) {i0 i1 i2 i3 : Nat} {o0 o1 o2 o3 : Bool} {z0 z1 z2 z3 : Nat} (e0 : H[i0]? = some (.cells o0 z0 (inL f.t))) (e1 : H[i1]? = some (.cells o1 z1 (f.b.flatMap intC))) (e2 : H[i2]? = some (.cells o2 z2 (l.flatMap rqC))) (e3 : H[i3]? = some (.cells o3 z3 (h.flatMap svC))) :
    KCall prog 46 [fleetV f i0 i1, .slice (some ⟨i2, 0, some 2⟩) l.length l.length, .slice (some ⟨i3, 0, some 2⟩) h.length h.length] H [] (Is (lV L (fDet f l h)) (H ++ [.cells true 1 ((fDet f l h).1.flatMap intC)])) := by
  subst hL
  refine valNs (fun i => lV i (fDet f l h)) (css := [inL f.t, f.b.flatMap intC, l.flatMap rqC, h.flatMap svC]) (new := [.cells true 1 ((fDet f l h).1.flatMap intC)]) (Eq.mpr (ErDet f l h) ?_) ⟨inL_b 0 _, plainIL 0 _, plainRQ 0 _, plainSV 0 _, trivial⟩ ⟨⟨_, _, rfl, plainIL 0 _⟩, trivial⟩ rfl rfl (fun _ => rfl) (ids := [i0, i1, i2, i3]) ⟨⟨_, _, e0⟩, ⟨_, _, e1⟩, ⟨_, _, e2⟩, ⟨_, _, e3⟩, trivial⟩ rfl
  delta RrDet jf12 jf1v jf1l jf5 jf1 jf7 jfz jfu jf11 jf1i jfo jf1x jfd jfp jf15 jfa jf1m
  refine ⟨⟨rfl, rfl, rfl, rfl, trivial⟩, fun H' _ hd => krHist f l h ht hb hs hh hd.1 hd.2.1 hd.2.2.1 hd.2.2.2.1, forkNe (fun e => ?_) (fun e => ?_)⟩
  · rw [fDet_e e]
    repeat' first | exact inL_b _ _ | exact plainIL _ _ | exact plainBL _ _ | exact plainRQ _ _ | exact plainSV _ _ | exact plainBR _ _ | exact (inV_rn _ 0 _).symm | exact wk_QR | exact wk_nil _ _ _ (.inr rfl) | exact trivial | exact rfl | exact wk_refl _ | refine wkO_cells ?_ | refine wks_cons ?_ ?_ | exact wks_nil | exact wk_nil _ _ _ (.inl rfl) | (exact wk_Q (by omega)) | refine wk_tupL ?_ | refine wk_aggL ?_ | refine joinMax ?_ ?_ ?_ | refine joinMin ?_ ?_ ?_ | refine toMax ?_ | refine toMin ?_ | refine ⟨rfl, ?_⟩ | refine ⟨trivial, ?_⟩ | (refine forkD (fun h => ?_) (fun h => ?_)) | (refine forkNe (fun h => ?_) (fun h => ?_)) | (refine forkEq (fun h => ?_) (fun h => ?_)) | refine forkNot ?_ | (refine ⟨vI64 (by omega), ?_⟩) | (refine And.intro (by omega) ?_) | apply And.intro | (exact iEq (by omega)) | (exact vI64 (by omega))
  have o := histOk e
  have m1 := o.fl.b1
  have m2 := o.fl.b2
  have l30 := o.ls.len
  have hhl := o.len
  rw [fDet_0 e]
  refine ⟨rfl, Nat.zero_le _, ?_, fun _ => rfl, ?_⟩
  · repeat' first | exact inL_b _ _ | exact plainIL _ _ | exact plainBL _ _ | exact plainRQ _ _ | exact plainSV _ _ | exact plainBR _ _ | exact (inV_rn _ 0 _).symm | exact wk_QR | exact wk_nil _ _ _ (.inr rfl) | exact trivial | exact rfl | exact wk_refl _ | refine wkO_cells ?_ | refine wks_cons ?_ ?_ | exact wks_nil | exact wk_nil _ _ _ (.inl rfl) | (exact wk_Q (by omega)) | refine wk_tupL ?_ | refine wk_aggL ?_ | refine joinMax ?_ ?_ ?_ | refine joinMin ?_ ?_ ?_ | refine toMax ?_ | refine toMin ?_ | refine ⟨rfl, ?_⟩ | refine ⟨trivial, ?_⟩ | (refine forkD (fun h => ?_) (fun h => ?_)) | (refine forkNe (fun h => ?_) (fun h => ?_)) | (refine forkEq (fun h => ?_) (fun h => ?_)) | refine forkNot ?_ | (refine ⟨vI64 (by omega), ?_⟩) | (refine And.intro (by omega) ?_) | apply And.intro | (exact iEq (by omega)) | (exact vI64 (by omega))
  intro x hx
  have hdl := lateTo_le l h x
  refine forkD (fun k => ?_) (fun k => ?_)
  · have hlt : x < l.length := by omega
    refine ⟨by omega, limAt hlt (by omega), forkD (fun c1 => ⟨by omega, limAt hlt (by omega), ⟨rfl, rfl, trivial⟩, fun H' _ hd => kWait l h x (by omega) hh (fun k hk => o.bgIn hk) (fun k hk => (o.ls.ok k hk).at_) hd.1 hd.2.1, forkD (fun c2 => ?_) (fun c2 => ?_)⟩) (fun c1 => ?_)⟩
    · have hM := lateTo_1 (show lateB l h x = true from Bool.and_eq_true _ _ ▸ ⟨decide_eq_true c1, decide_eq_true c2⟩)
      refine ⟨⟨by omega, by decide, ⟨Nat.le_refl _, flat_le intC_len _⟩, ⟨Nat.le_refl _, Nat.le_refl _⟩, rfl⟩, rfl, vI64 (by omega), x + 1, by omega, by omega, rfl, ?_⟩
      repeat' first | exact inL_b _ _ | exact plainIL _ _ | exact plainBL _ _ | exact plainRQ _ _ | exact plainSV _ _ | exact plainBR _ _ | exact (inV_rn _ 0 _).symm | exact wk_QR | exact wk_nil _ _ _ (.inr rfl) | exact wk_snoc hM | exact ob_snoc intC_len hM rfl | exact trivial | exact rfl | exact wk_refl _ | refine wkO_cells ?_ | refine wks_cons ?_ ?_ | exact wks_nil | exact wk_nil _ _ _ (.inl rfl) | (exact wk_Q (by omega)) | refine wk_tupL ?_ | refine wk_aggL ?_ | refine joinMax ?_ ?_ ?_ | refine joinMin ?_ ?_ ?_ | refine toMax ?_ | refine toMin ?_ | refine ⟨rfl, ?_⟩ | refine ⟨trivial, ?_⟩ | (refine forkD (fun h => ?_) (fun h => ?_)) | (refine forkNe (fun h => ?_) (fun h => ?_)) | (refine forkEq (fun h => ?_) (fun h => ?_)) | refine forkNot ?_ | (refine ⟨vI64 (by omega), ?_⟩) | (refine And.intro (by omega) ?_) | apply And.intro | (exact iEq (by omega)) | (exact vI64 (by omega))
    · have hM := lateTo_0 (show lateB l h x = false from Bool.and_eq_false_iff.2 (.inr (decide_eq_false c2)))
      refine ⟨vI64 (by omega), x + 1, by omega, by omega, rfl, ?_⟩
      rw [hM]
      repeat' first | exact inL_b _ _ | exact plainIL _ _ | exact plainBL _ _ | exact plainRQ _ _ | exact plainSV _ _ | exact plainBR _ _ | exact (inV_rn _ 0 _).symm | exact wk_QR | exact wk_nil _ _ _ (.inr rfl) | exact trivial | exact rfl | exact wk_refl _ | refine wkO_cells ?_ | refine wks_cons ?_ ?_ | exact wks_nil | exact wk_nil _ _ _ (.inl rfl) | (exact wk_Q (by omega)) | refine wk_tupL ?_ | refine wk_aggL ?_ | refine joinMax ?_ ?_ ?_ | refine joinMin ?_ ?_ ?_ | refine toMax ?_ | refine toMin ?_ | refine ⟨rfl, ?_⟩ | refine ⟨trivial, ?_⟩ | (refine forkD (fun h => ?_) (fun h => ?_)) | (refine forkNe (fun h => ?_) (fun h => ?_)) | (refine forkEq (fun h => ?_) (fun h => ?_)) | refine forkNot ?_ | (refine ⟨vI64 (by omega), ?_⟩) | (refine And.intro (by omega) ?_) | apply And.intro | (exact iEq (by omega)) | (exact vI64 (by omega))
    · have hM := lateTo_0 (show lateB l h x = false from Bool.and_eq_false_iff.2 (.inl (decide_eq_false c1)))
      refine ⟨vI64 (by omega), x + 1, by omega, by omega, rfl, ?_⟩
      rw [hM]
      repeat' first | exact inL_b _ _ | exact plainIL _ _ | exact plainBL _ _ | exact plainRQ _ _ | exact plainSV _ _ | exact plainBR _ _ | exact (inV_rn _ 0 _).symm | exact wk_QR | exact wk_nil _ _ _ (.inr rfl) | exact trivial | exact rfl | exact wk_refl _ | refine wkO_cells ?_ | refine wks_cons ?_ ?_ | exact wks_nil | exact wk_nil _ _ _ (.inl rfl) | (exact wk_Q (by omega)) | refine wk_tupL ?_ | refine wk_aggL ?_ | refine joinMax ?_ ?_ ?_ | refine joinMin ?_ ?_ ?_ | refine toMax ?_ | refine toMin ?_ | refine ⟨rfl, ?_⟩ | refine ⟨trivial, ?_⟩ | (refine forkD (fun h => ?_) (fun h => ?_)) | (refine forkNe (fun h => ?_) (fun h => ?_)) | (refine forkEq (fun h => ?_) (fun h => ?_)) | refine forkNot ?_ | (refine ⟨vI64 (by omega), ?_⟩) | (refine And.intro (by omega) ?_) | apply And.intro | (exact iEq (by omega)) | (exact vI64 (by omega))
  · obtain rfl : x = l.length := by omega
    repeat' first | exact inL_b _ _ | exact plainIL _ _ | exact plainBL _ _ | exact plainRQ _ _ | exact plainSV _ _ | exact plainBR _ _ | exact (inV_rn _ 0 _).symm | exact wk_QR | exact wk_nil _ _ _ (.inr rfl) | exact trivial | exact rfl | exact wk_refl _ | refine wkO_cells ?_ | refine wks_cons ?_ ?_ | exact wks_nil | exact wk_nil _ _ _ (.inl rfl) | (exact wk_Q (by omega)) | refine wk_tupL ?_ | refine wk_aggL ?_ | refine joinMax ?_ ?_ ?_ | refine joinMin ?_ ?_ ?_ | refine toMax ?_ | refine toMin ?_ | refine ⟨rfl, ?_⟩ | refine ⟨trivial, ?_⟩ | (refine forkD (fun h => ?_) (fun h => ?_)) | (refine forkNe (fun h => ?_) (fun h => ?_)) | (refine forkEq (fun h => ?_) (fun h => ?_)) | refine forkNot ?_ | (refine ⟨vI64 (by omega), ?_⟩) | (refine And.intro (by omega) ?_) | apply And.intro | (exact iEq (by omega)) | (exact vI64 (by omega))
end
end Go.Proofs.YthdekmpkioikdaaGreat
/- Request: who is overtaken, as plain lists. No condition. -/
namespace Go.Proofs.YthdekmpkioikdaaGreat
set_option linter.unusedSimpArgs false
open Go Go.K
set_option linter.unusedVariables false
set_option linter.unusedSectionVars false
noncomputable section
theorem asg_len (n : Nat) (h : List Sv) (v : Nat → Nat) : ∀ m, (asg n h v m).length = n
  | 0 => List.length_replicate ..
  | m + 1 => by show ((asg n h v m).set _ _).length = _; rw [List.length_set, asg_len n h v m]
theorem asg_congr {n : Nat} {h : List Sv} {v u : Nat → Nat} : ∀ {m : Nat}, (∀ j, j < m → v j = u j) → asg n h v m = asg n h u m
  | 0, _ => rfl
  | m + 1, e => by
    show (asg n h v m).set _ _ = (asg n h u m).set _ _
    rw [asg_congr fun j hj => e j (by omega), e m (by omega)]
theorem asg_zero {n : Nat} {h : List Sv} : ∀ m, asg n h (fun _ => 0) m = List.replicate n 0
  | 0 => rfl
  | m + 1 => by
    show (asg n h _ m).set _ _ = _
    rw [asg_zero m]
    refine list_ext 0 (by rw [List.length_set]) fun j hj => ?_
    rw [List.length_set] at hj
    have e : (List.replicate n (0 : Int)).getD j 0 = 0 := by rw [List.getD_eq_getElem?_getD, List.getElem?_replicate, if_pos (by rw [List.length_replicate] at hj; exact hj)]; rfl
    rw [getD_setN hj, e]
    split <;> rfl
section
variable {f : Fleet} {l : List Rq} {h : List Sv} (o : HOk f l h)
include o
theorem HOk.nat_ne {j k : Nat} (hk : k < h.length) (hj : j < k) : Int.toNat (svAt h j).rq ≠ Int.toNat (svAt h k).rq := by
  have h1 := o.inj hk hj
  have h2 := o.rq k hk
  have h3 := o.rq j (by omega)
  omega
theorem HOk.nat_lt {k : Nat} (hk : k < h.length) : Int.toNat (svAt h k).rq < l.length := by
  have h2 := o.rq k hk
  omega
theorem asg_no {v : Nat → Nat} {k : Nat} (hk : k < h.length) : ∀ {m : Nat}, m ≤ k → (asg l.length h v m).getD (Int.toNat (svAt h k).rq) 0 = 0
  | 0, _ => by
    show (List.replicate _ _).getD _ _ = _
    rw [List.getD_eq_getElem?_getD, List.getElem?_replicate, if_pos (o.nat_lt hk)]; rfl
  | m + 1, hm => by
    show ((asg l.length h v m).set _ _).getD _ _ = _
    rw [getD_setN (by rw [asg_len]; exact o.nat_lt hk), if_neg (o.nat_ne hk (by omega)), asg_no hk (by omega)]
theorem asg_get {v : Nat → Nat} : ∀ {m : Nat}, m ≤ h.length → ∀ {j : Nat}, j < m → (asg l.length h v m).getD (Int.toNat (svAt h j).rq) 0 = (v j : Int)
  | m + 1, hm, j, hj => by
    show ((asg l.length h v m).set _ _).getD _ _ = _
    rw [getD_setN (by rw [asg_len]; exact o.nat_lt (by omega))]
    split
    · rename_i e
      have : j = m := by
        rcases Nat.lt_or_ge j m with k | k
        · exact absurd e.symm (o.nat_ne (by omega) k)
        · omega
      rw [this]
    · rename_i e
      have : j ≠ m := fun k => e (by rw [k])
      exact asg_get (by omega) (by omega)
theorem asg_set {v : Nat → Nat} {x : Nat} : ∀ {m : Nat}, m ≤ h.length → ∀ {j : Nat}, j < m → (asg l.length h v m).set (Int.toNat (svAt h j).rq) (x : Int) = asg l.length h (fun t => if t = j then x else v t) m
  | m + 1, hm, j, hj => by
    show ((asg l.length h v m).set _ _).set _ _ = (asg l.length h _ m).set _ ((if m = j then x else v m : Nat) : Int)
    by_cases e : j = m
    · subst e
      rw [List.set_set, asg_congr (v := fun t => if t = j then x else v t) (u := v) (fun t ht => if_neg (by omega)), if_pos rfl]
    · rw [List.set_comm _ _ (o.nat_ne (by omega) (show j < m by omega)).symm, asg_set (by omega) (by omega), if_neg (fun k : m = j => e k.symm)]
theorem cntB_succ (k : Nat) {j : Nat} (hj : j < h.length) : cntB l h k (j + 1) = cntB l h k j + (if befB (rqAt l (svAt h k).rq) (rqAt l (svAt h j).rq) = true then 1 else 0) := by
  unfold cntB
  rw [take_snoc (d := zeroV) hj, List.filter_append, List.length_append]
  congr 1
  show (List.filter _ [svAt h j]).length = _
  rw [List.filter_cons]
  split <;> rfl
theorem cntB_le (k j : Nat) : cntB l h k j ≤ j := by
  unfold cntB; exact Nat.le_trans (List.length_filter_le _ _) (by rw [List.length_take]; omega)
theorem ovI_0 {k : Nat} (hk : k < h.length) : ovI l h k 0 = ovH l h k := by
  unfold ovI
  have e := asg_no o (v := fun m => cntB l h m m) hk (Nat.le_refl k)
  refine list_ext 0 (by rw [List.length_set]) fun j hj => ?_
  rw [List.length_set] at hj
  rw [getD_setN hj]
  split
  · rename_i c; subst c; exact e.symm
  · rfl
theorem ovI_len (k j : Nat) : (ovI l h k j).length = l.length := by unfold ovI ovH; rw [List.length_set, asg_len]
theorem ovI_get {k : Nat} (hk : k < h.length) (j : Nat) : (ovI l h k j).getD (Int.toNat (svAt h k).rq) 0 = (cntB l h k j : Int) := by
  unfold ovI; rw [getD_setN (by unfold ovH; rw [asg_len]; exact o.nat_lt hk), if_pos rfl]
theorem ovI_set {k : Nat} (j : Nat) (x : Int) (hx : x = (cntB l h k (j + 1) : Int)) : (ovI l h k j).set (Int.toNat (svAt h k).rq) x = ovI l h k (j + 1) := by
  unfold ovI; rw [List.set_set, hx]
theorem ovI_end (k : Nat) : ovI l h k k = ovH l h (k + 1) := rfl
theorem pv_0 : pvH l h 0 0 = List.replicate l.length 0 := by
  unfold pvH
  rw [asg_congr (u := fun _ => 0) fun j hj => by
    rw [if_neg (by omega), Nat.zero_min]; unfold cntB; rw [List.take_zero]; rfl, asg_zero]
theorem pv_in (k : Nat) : pvH l h k 0 = pvH l h k (k + 1) := asg_congr fun j hj => by
  show cntB l h j (if k < j ∧ j < 0 then _ else _) = cntB l h j (if k < j ∧ j < k + 1 then _ else _)
  rw [if_neg (by omega), if_neg (by omega)]
theorem pv_len (k j : Nat) : (pvH l h k j).length = l.length := asg_len ..
theorem pv_get {k j : Nat} (hk : k < j) (hj : j < h.length) : (pvH l h k j).getD (Int.toNat (svAt h j).rq) 0 = (cntB l h j k : Int) := by
  unfold pvH; rw [asg_get o (Nat.le_refl _) hj]
  show ((cntB l h j (if k < j ∧ j < j then _ else min k j) : Nat) : Int) = _
  rw [if_neg (by omega), Nat.min_eq_left (by omega)]
theorem pv_set {k j : Nat} (hk : k < j) (hj : j < h.length) (x : Int) (hx : x = (cntB l h j (k + 1) : Int)) : (pvH l h k j).set (Int.toNat (svAt h j).rq) x = pvH l h k (j + 1) := by
  unfold pvH
  rw [hx, asg_set o (Nat.le_refl _) hj]
  refine asg_congr fun t ht => ?_
  show (if t = j then cntB l h j (k + 1) else cntB l h t (if k < t ∧ t < j then k + 1 else min k t)) = cntB l h t (if k < t ∧ t < j + 1 then k + 1 else min k t)
  by_cases e : t = j
  · subst e; rw [if_pos rfl, if_pos (by omega)]
  · rw [if_neg e]
    by_cases c : k < t ∧ t < j
    · rw [if_pos c, if_pos (by omega)]
    · rw [if_neg c, if_neg (by omega)]
theorem pv_same {k j : Nat} (hk : k < j) (hj : j < h.length) (hx : cntB l h j (k + 1) = cntB l h j k) : pvH l h k j = pvH l h k (j + 1) := by
  refine asg_congr fun t ht => ?_
  show cntB l h t (if k < t ∧ t < j then k + 1 else min k t) = cntB l h t (if k < t ∧ t < j + 1 then k + 1 else min k t)
  by_cases e : t = j
  · subst e; rw [if_neg (by omega), if_pos (by omega), hx, Nat.min_eq_left (by omega)]
  · by_cases c : k < t ∧ t < j
    · rw [if_pos c, if_pos (by omega)]
    · rw [if_neg c, if_neg (by omega)]
theorem pv_end (k : Nat) : pvH l h k h.length = pvH l h (k + 1) 0 := asg_congr fun t ht => by
  show cntB l h t (if k < t ∧ t < h.length then k + 1 else min k t) = cntB l h t (if k + 1 < t ∧ t < 0 then _ else min (k + 1) t)
  rw [if_neg (show ¬ (k + 1 < t ∧ t < 0) by omega)]
  congr 1
  split <;> omega
theorem pv_all : pvH l h h.length 0 = ovL l h := asg_congr fun t ht => by
  show cntB l h t (if h.length < t ∧ t < 0 then _ else min h.length t) = _
  rw [if_neg (by omega), Nat.min_eq_right (by omega)]
end
theorem ov_len (l : List Rq) (h : List Sv) : (ovL l h).length = l.length := asg_len ..
end
end Go.Proofs.YthdekmpkioikdaaGreat
