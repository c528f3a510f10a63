/- Closed calls: blocks that are read, by their addresses. No condition. -/
import Derived.Test.YthdekmpkioikdaaGreatGK27xR1g
namespace Go.Proofs.YthdekmpkioikdaaGreat
set_option linter.unusedSimpArgs false
set_option linter.unusedVariables false
open Go Go.K
noncomputable section
abbrev sL (i n c : Nat) : Value := .slice (some ⟨i, 0, none⟩) n c
def InsA (H : Heap) (σ : Nat → Option Nat) : List Nat → List (List Value) → Prop
  | [], [] => True
  | i :: is, c :: cs => (∃ own z, H[i]? = some (KObj.cells own z (c.map (rn σ 3)))) ∧ InsA H σ is cs
  | _, _ => False
theorem InsA.len {H : Heap} {σ : Nat → Option Nat} : ∀ {ids : List Nat} {css : List (List Value)}, InsA H σ ids css → ids.length = css.length
  | [], [], _ => rfl
  | i :: is, c :: cs, h => by rw [List.length_cons, List.length_cons, h.2.len]
theorem InsA.get {H : Heap} {σ : Nat → Option Nat} : ∀ {ids : List Nat} {css : List (List Value)}, InsA H σ ids css → ∀ (k : Nat) (cs : List Value), css[k]? = some cs → ∃ id own z, ids[k]? = some id ∧ H[id]? = some (KObj.cells own z (cs.map (rn σ 3)))
  | [], [], _, k, d, e => by cases e
  | i :: is, c :: cs, h, 0, d, e => by cases e; obtain ⟨own, z, h1⟩ := h.1; exact ⟨i, own, z, rfl, h1⟩
  | i :: is, c :: cs, h, k + 1, d, e => h.2.get k d e
abbrev jz0 : List Value := [nI 1, nI 0, nI 1, nI 1, nI 10, nI 1, nI 0, nI 2, nI 1, nI 0, nI 0, nI 5, nI 1, nI 0, nI 3, nI 2, nI 0, nI 0, nI 5, nI 3, nI 0]
abbrev jz1 : List Value := [.agg #[nI 1, nI 0, nI 1, nI 1, nI 1], .agg #[sL 0 2 2, sL 1 1 1], sL 2 3 3, sL 3 1 1]
abbrev jz2 : KObj := .cells false 0 [nI 0, nI 4]
abbrev jz3 : KObj := .cells false 0 [nI 4, nI 0]
abbrev jz4 : KObj := .cells false 0 [nI 0]
abbrev jz5 : KObj := .cells false 0 [sL 3 2 2, sL 4 2 2]
abbrev jz6 : KObj := .cells false 0 jz0
abbrev jz7 : List Value := [.agg #[nI 1, nI 0, nI 1, nI 1, nI 1], .agg #[sL 0 2 2, sL 1 1 1], sL 2 3 3, sL 3 1 1, nI 32]
abbrev jz8 : Hint := .go 6 (.into (some [7, 8]) (.go 64 (.into (some (List.range' 7 8)) (.go 89 (.into (some (List.range' 7 10)) (.go 89 (.into (some (List.range' 7 12)) (.go 74 (.into (some (List.range' 7 14)) (.go 3 (.into (some (List.range' 7 14)) (.go 11 (.into (some (List.range' 7 14)) (.go 437 (.into (some (List.range' 7 20)) (.go 79 (.into (some (List.range' 7 26)) (.go 28 (.into (some (List.range' 7 26)) (.go 11 (.into (some (List.range' 7 26)) (.auto))))))))))))))))))))))
abbrev jz9 : Hint := .go 6 (.into (some [7, 8]) (.go 64 (.into (some (List.range' 7 8)) (.go 89 (.into (some (List.range' 7 10)) (.go 74 (.into (some (List.range' 7 12)) (.go 3 (.into (some (List.range' 7 12)) (.go 11 (.into (some (List.range' 7 12)) (.go 366 (.into (some (List.range' 7 18)) (.go 55 (.into (some (List.range' 7 22)) (.go 28 (.into (some (List.range' 7 22)) (.go 11 (.into (some (List.range' 7 22)) (.auto))))))))))))))))))))
abbrev jza : List Value := [.bool false, .bool false, .bool true, .bool true, .bool false, .bool false, .bool true, .bool false, .bool true, .bool false, .bool false, .bool true, .bool false, .bool true]
abbrev jzb : KObj := .cells false 0 [sL 4 2 2, sL 5 2 2]
abbrev jzc : Nat × KObj := (0, .cells false 0 [sL 3 2 2, sL 4 2 2])
abbrev jzd : Nat × KObj := (1, .cells false 0 [nI 0])
abbrev jze : Nat × KObj := (2, .cells false 0 jz0)
abbrev jzf : Nat × KObj := (3, .cells false 0 [nI 0, nI 4])
abbrev jzg : Nat × KObj := (4, .cells false 0 [nI 4, nI 0])
abbrev jzh : Hint := .go 6 (.into (some [7, 8]) (.go 64 (.into (some (List.range' 7 8)) (.go 74 (.into (some (List.range' 7 10)) (.go 3 (.into (some (List.range' 7 10)) (.go 11 (.into (some (List.range' 7 10)) (.go 275 (.into (some (List.range' 7 16)) (.go 31 (.into (some (List.range' 7 18)) (.go 28 (.into (some (List.range' 7 18)) (.go 11 (.into (some (List.range' 7 18)) (.auto))))))))))))))))))
abbrev jzi : Nat × KObj := (0, .cells false 0 [sL 4 2 2, sL 5 2 2])
abbrev jzj : List Value := [.agg #[sL 0 2 2, sL 1 1 1], .agg #[nI 1, nI 0, nI 1, nI 1, nI 1], sL 2 3 3]
abbrev jzk := readsT 0 [[sL 3 2 2, sL 4 2 2], [nI 0], jz0, [nI 0, nI 4], [nI 4, nI 0]]
abbrev jzl : Nat × KObj := (4, .cells false 0 [nI 0, nI 4])
abbrev jzm : Nat × KObj := (5, .cells false 0 [nI 4, nI 0])
abbrev jzn : List Value := [nI 0, nI 0, nI 0, nI 4, nI 14, nI 2, nI 0, nI 14, nI 18, nI 23, nI 1, nI 0, nI 23, nI 23, nI 28]
abbrev jzo : Hint := .go 41 (.into (some [7, 8]) (.go 64 (.into (some (List.range' 7 8)) (.go 89 (.into (some (List.range' 7 10)) (.go 89 (.into (some (List.range' 7 12)) (.go 74 (.into (some (List.range' 7 14)) (.go 3 (.into (some (List.range' 7 14)) (.go 11 (.into (some (List.range' 7 14)) (.go 94 (.into (some (List.range' 7 14)) (.go 3 (.into (some (List.range' 7 15)) (.go 79 (.into (some (List.range' 7 21)) (.go 28 (.into (some (List.range' 7 21)) (.go 11 (.into (some (List.range' 7 21)) (.auto))))))))))))))))))))))))
abbrev jzp : Value := .tuple #[nI 42, .bool false]
abbrev jzq : List Value := [nI 1, nI 0, nI 2]
abbrev jzr (H' : Heap) : Prop := H'[0]? = some jz5 ∧ H'[1]? = some jz4 ∧ H'[2]? = some jz6 ∧ H'[3]? = some jz2 ∧ H'[4]? = some jz3 ∧ True
abbrev jz1q : KObj := .cells true 1 [nI 0, nI 4]
abbrev jz1r : KObj := .cells true 1 [nI 4, nI 0]
abbrev jzs : Prop := (someR jz1q) ∧ (someR jz1r) ∧ True
abbrev jzt : KObj := .cells false 0 [sL 6 2 2]
abbrev jzu : Prop := (someR jz5) ∧ (someR jz4) ∧ (someR jz6) ∧ (someR jz2) ∧ (someR jz3) ∧ True
abbrev jzv : KObj := .cells true 1 [nI 0]
abbrev jzw : KObj := .cells true 1 jzq
abbrev jzx : List Value := [nI 1, nI 2, nI 0]
abbrev jzy : List Value := [nI 2, nI 0, nI 1]
abbrev jzz : List Value := [nI 2, nI 1, nI 0]
abbrev jz10 : List Value := [.agg #[nI 1, nI 0, nI 1, nI 1, nI 1], .agg #[sL 0 2 2, sL 1 1 1], sL 2 3 3]
abbrev jz11 : List Value := jz1
abbrev jz12 : KObj := .cells false 0 [sL 6 3 3]
abbrev jz13 : List Value := [.slice none 0 0]
abbrev jz14 : List Value := jz7
abbrev jz15 : List (Bool × KObj) := [(false, .cells true 1 [sL 6 3 3]), (false, .cells true 1 jzq)]
abbrev jz2y : KObj := .cells true 1 [nI 0, nI 1]
abbrev jz16 : Prop := (someR jz2) ∧ (someR jz3) ∧ (someR jz2y) ∧ True
abbrev jz2z : KObj := .cells true 1 [nI 0, nI 2]
abbrev jz17 : Prop := (someR jz2) ∧ (someR jz3) ∧ (someR jz2z) ∧ True
abbrev jz18 : KObj := .cells true 7 jz0
abbrev jz19 : KObj := .cells false 0 [sL 6 1 1]
abbrev jz1a : Prop := (someR jz2) ∧ (someR jz3) ∧ (someR (.cells true 1 jzx : KObj)) ∧ True
abbrev jz1b : Prop := (someR jz2) ∧ (someR jz3) ∧ (someR (.cells true 1 jzy : KObj)) ∧ True
abbrev jz1c : Prop := (someR jz2) ∧ (someR jz3) ∧ (someR (.cells true 1 jzz : KObj)) ∧ True
abbrev jz1d : Value := .tuple #[nI 29, .bool false]
abbrev jz1e : Value := .tuple #[nI 10, .bool false]
abbrev jz1f : Value := .tuple #[nI 28, .bool false]
abbrev jz1g : Value := .tuple #[nI 32, .bool false]
abbrev jz1h : Value := .tuple #[nI 15, .bool false]
abbrev jz1i : Value := .tuple #[nI 19, .bool false]
abbrev jz1j : Value := .tuple #[nI 13, .bool false]
abbrev jz1k : Value := .tuple #[nI 31, .bool false]
abbrev jz1l : Value := .tuple #[nI 35, .bool false]
abbrev jz1m : Value := .tuple #[nI 18, .bool false]
abbrev jz1n : Value := .tuple #[nI 22, .bool false]
abbrev jz1o : Nat × KObj := (3, .cells false 0 [sL 6 2 2])
abbrev jz1p : Value := .tuple #[nI 0, .bool false]
abbrev jz1s : Prop := (someR jz5) ∧ (someR jz4) ∧ (someR jz6) ∧ (someR (.cells true 1 jz13 : KObj)) ∧ (someR jz2) ∧ (someR jz3) ∧ True
abbrev jz1t : Value := .bool false
abbrev jz1u := some (List.range' 6 14)
abbrev jz1v (H' : Heap) := Is (.bool true) H'
abbrev jz1w : Value := .tuple #[nI 42, .bool false]
abbrev jz1x := readsT 0 [[sL 4 2 2, sL 5 2 2], [nI 0], jz0, [sL 6 2 2], [nI 0, nI 4], [nI 4, nI 0], [nI 0, nI 1]]
abbrev jz1y := readsT 0 [[sL 4 2 2, sL 5 2 2], [nI 0], jz0, [sL 6 2 2], [nI 0, nI 4], [nI 4, nI 0], [nI 0, nI 2]]
abbrev jz1z := readsT 0 [[sL 4 2 2, sL 5 2 2], [nI 0], jz0, [sL 6 2 2], [nI 0, nI 4], [nI 4, nI 0], [nI 1, nI 0]]
abbrev jz20 := readsT 0 [[sL 4 2 2, sL 5 2 2], [nI 0], jz0, [sL 6 2 2], [nI 0, nI 4], [nI 4, nI 0], [nI 1, nI 2]]
abbrev jz21 := readsT 0 [[sL 4 2 2, sL 5 2 2], [nI 0], jz0, [sL 6 2 2], [nI 0, nI 4], [nI 4, nI 0], [nI 2, nI 0]]
abbrev jz22 := readsT 0 [[sL 4 2 2, sL 5 2 2], [nI 0], jz0, [sL 6 2 2], [nI 0, nI 4], [nI 4, nI 0], [nI 2, nI 1]]
abbrev jz23 : Value := .bool true
abbrev jz24 : Prop := (someR jz2) ∧ (someR jz3) ∧ (someR jzw) ∧ True
abbrev jz25 : KObj := .cells true 1 [nI 1, nI 0]
abbrev jz26 : KObj := .cells true 1 [nI 1, nI 2]
abbrev jz27 : KObj := .cells true 1 [nI 2, nI 0]
abbrev jz28 : KObj := .cells true 1 [nI 2, nI 1]
abbrev jz29 : List Value := [.agg #[sL 0 2 2, sL 1 1 1], .agg #[nI 1, nI 0, nI 1, nI 1, nI 1], sL 2 3 3, nI 32, sL 3 14 14]
abbrev jz2a := readsT 0 [[sL 4 2 2, sL 5 2 2], [nI 0], jz0, [sL 6 1 1], [nI 0, nI 4], [nI 4, nI 0], [nI 0]]
abbrev jz2b := readsT 0 [[sL 4 2 2, sL 5 2 2], [nI 0], jz0, [sL 6 1 1], [nI 0, nI 4], [nI 4, nI 0], [nI 1]]
abbrev jz2c := readsT 0 [[sL 4 2 2, sL 5 2 2], [nI 0], jz0, [sL 6 1 1], [nI 0, nI 4], [nI 4, nI 0], [nI 2]]
abbrev jz2d := some (List.range' 5 100)
abbrev jz2e : KObj := .cells true 1 jza
abbrev jz2f := readsT 0 [[sL 4 2 2, sL 5 2 2], [nI 0], jz0, [sL 6 3 3], [nI 0, nI 4], [nI 4, nI 0], jzq]
abbrev jz2g := readsT 0 [[sL 4 2 2, sL 5 2 2], [nI 0], jz0, [sL 6 3 3], [nI 0, nI 4], [nI 4, nI 0], jzx]
abbrev jz2h := readsT 0 [[sL 4 2 2, sL 5 2 2], [nI 0], jz0, [sL 6 3 3], [nI 0, nI 4], [nI 4, nI 0], jzy]
abbrev jz2i := readsT 0 [[sL 4 2 2, sL 5 2 2], [nI 0], jz0, [sL 6 3 3], [nI 0, nI 4], [nI 4, nI 0], jzz]
abbrev jz2j : List Value := [.agg #[sL 0 2 2, sL 1 1 1], .agg #[nI 1, nI 0, nI 1, nI 1, nI 1], sL 2 3 3, nI 32]
abbrev jz2k : Nat × KObj := (3, .cells false 0 [sL 6 3 3])
abbrev jz2l := readsT 0 [[sL 4 2 2, sL 5 2 2], [nI 0], jz0, jz13, [nI 0, nI 4], [nI 4, nI 0]]
abbrev jz2m : KObj := .cells true 1 [nI 1]
abbrev jz2n : KObj := .cells true 1 [nI 2]
abbrev jz2o : Value := .tuple #[.bool true, nI 0]
abbrev jz2p : List Value := [nI 0, nI 1, nI 2]
abbrev jz2q : List Value := [nI 0, nI 2, nI 1]
abbrev jz2r (H' : Heap) := Is (.bool false) H'
abbrev jz2s := some (List.range' 5 163)
abbrev jz2t := some (List.range' 5 213)
abbrev jz2u := some (List.range' 5 285)
abbrev jz2v : Prop := (someR jzv) ∧ (someR jz18) ∧ jzs
abbrev jz2w := some (List.range' 5 50)
abbrev jz2x := some (List.range' 5 57)
abbrev jz30 : KObj := .cells true 1 [sL 146 3 3]
abbrev jz31 : Value := .tuple #[nI 60, nI 0]
abbrev jz32 : List Value := [.agg #[sL 0 2 2, sL 1 1 1], .agg #[nI 2, nI 12, nI 10]]
abbrev jz33 : Nat × KObj := (3, .cells false 0 [sL 6 1 1])
abbrev jz34 := some [5, 6, 7, 8, 9, 10, 11]
abbrev jz35 : Prop := (someR jz2) ∧ (someR jz3) ∧ (someR jz2m) ∧ True
abbrev jz36 : Prop := (someR jz2) ∧ (someR jz3) ∧ (someR jz25) ∧ True
abbrev jz37 : Prop := (someR jz2) ∧ (someR jz3) ∧ (someR jz26) ∧ True
abbrev jz38 : Prop := (someR jz2) ∧ (someR jz3) ∧ (someR jz2n) ∧ True
abbrev jz39 : Prop := (someR jz2) ∧ (someR jz3) ∧ (someR jz27) ∧ True
abbrev jz3a : Prop := (someR jz2) ∧ (someR jz3) ∧ (someR jz28) ∧ True
abbrev jz3b : Prop := (someR jz2) ∧ (someR jz3) ∧ (someR jzv) ∧ True
end
end Go.Proofs.YthdekmpkioikdaaGreat
/- Closed calls of the chapter's examples. Printed by a program. No condition. -/
namespace Go.Proofs.YthdekmpkioikdaaGreat
set_option linter.unusedSimpArgs false
open Go Go.K
set_option maxRecDepth 1000000
set_option maxHeartbeats 4000000
set_option linter.unusedVariables false
noncomputable section
attribute [local irreducible] vF
def R30_k (sp : Value) : Prop :=
  (nI 0 : Value) = sp
theorem E30_k (sp : Value) : vF prog msk (dm 0) 100000 true 40 true 30 jzj jzk (some [])
  (.auto)
  (fun v _ _ => v = sp) = R30_k sp := by kernel_rfl
theorem P30_k : R30_k (nI 0) := rfl
theorem C30_k {H : Heap} (ids : List Nat) (h : InsA H (sgR 0 ids) ids [[sL 3 2 2, sL 4 2 2], [nI 0], jz0, [nI 0, nI 4], [nI 4, nI 0]]) : KCall prog 30 ((jzj : List Value).map (rn (sgR 0 ids) 3)) H [] (Is (nI 0) H) :=
  valRA (css := [[sL 3 2 2, sL 4 2 2], [nI 0], jz0, [nI 0, nI 4], [nI 4, nI 0]]) (Eq.mpr (E30_k _) P30_k) rfl ids h.len h.get
def R39_l (sp : Value) : Prop :=
  (.tuple #[nI 60, nI 0] : Value) = sp
theorem E39_l (sp : Value) : vF prog msk (dm 0) 100000 true 40 true 39 jz32 (readsT 0 [[sL 2 2 2, sL 3 2 2], [nI 0], [nI 0, nI 4], [nI 4, nI 0]]) (some [])
  (.auto)
  (fun v _ _ => v = sp) = R39_l sp := by kernel_rfl
theorem P39_l : R39_l jz31 := rfl
theorem C39_l {H : Heap} (ids : List Nat) (h : InsA H (sgR 0 ids) ids [[sL 2 2 2, sL 3 2 2], [nI 0], [nI 0, nI 4], [nI 4, nI 0]]) : KCall prog 39 ((jz32 : List Value).map (rn (sgR 0 ids) 3)) H [] (Is jz31 H) :=
  valRA (css := [[sL 2 2 2, sL 3 2 2], [nI 0], [nI 0, nI 4], [nI 4, nI 0]]) (Eq.mpr (E39_l _) P39_l) rfl ids h.len h.get
end
end Go.Proofs.YthdekmpkioikdaaGreat
/- Closed calls of the chapter's examples. Printed by a program. No condition. -/
namespace Go.Proofs.YthdekmpkioikdaaGreat
set_option linter.unusedSimpArgs false
open Go Go.K
set_option maxRecDepth 1000000
set_option maxHeartbeats 4000000
set_option linter.unusedVariables false
noncomputable section
attribute [local irreducible] vF
def R29_j : Prop :=
  (jzu ∧ (∀ H' : Heap, H'.length = 7 → (jzr H') → KCall prog 30 jzj H' [] (Is (nI 0) H')) ∧ (true = true ∧ wk (.tuple #[sL 98 3 3, nI 0] : Value) (rn (sg 5 [(5, 98)]) 3 (.tuple #[sL 5 3 3, nI 0] : Value)) ∧ (wkO (.cells true 5 jzn : KObj) (rno (sg 5 [(5, 98)]) 3 (.cells true 5 jzn : KObj)) ∧ True)))
theorem E29_j : vF prog msk (dm 0) 100000 true 40 true 29 jzj jzk (some [])
  (.go 6 (.ans [jzc, jzd, jze, jzf, jzg] (nI 0) [] (.go 29 (.into jz34 (.go 360 (.into (some (List.range' 5 19)) (.go 150 (.into (some (List.range' 5 29)) (.go 80 (.into (some (List.range' 5 32)) (.go 84 (.into (some (List.range' 5 35)) (.go 70 (.into (some (List.range' 5 38)) (.go 18 (.into (some ([43] ++ List.range' 5 38)) (.go 19 (.into (some (List.range' 5 39)) (.go 67 (.into (some (List.range' 5 44)) (.go 542 (.into (some (List.range' 5 47)) (.go 109 (.into jz2x (.go 114 (.into (some (List.range' 5 60)) (.go 122 (.into (some (List.range' 5 63)) (.go 267 (.into (some (List.range' 5 66)) (.go 18 (.into (some ([71] ++ List.range' 5 66)) (.go 19 (.into (some (List.range' 5 67)) (.go 67 (.into (some (List.range' 5 72)) (.go 255 (.into (some (List.range' 5 75)) (.go 84 (.into (some (List.range' 5 85)) (.go 77 (.into (some (List.range' 5 88)) (.go 18 (.into (some ([93] ++ List.range' 5 88)) (.go 19 (.into (some (List.range' 5 89)) (.go 67 (.into (some (List.range' 5 94)) (.go 59 (.again [(5, 98)]))))))))))))))))))))))))))))))))))))))))))))))))))
  (newK jzk.n 3 (.tuple #[sL 5 3 3, nI 0]) [(false, .cells true 5 jzn)]) = R29_j := by kernel_rfl
theorem P29_j : R29_j := ⟨⟨rfl, rfl, rfl, rfl, rfl, trivial⟩, fun H' _ h => C30_k [0, 1, 2, 3, 4] ⟨⟨_, _, h.1⟩, ⟨_, _, h.2.1⟩, ⟨_, _, h.2.2.1⟩, ⟨_, _, h.2.2.2.1⟩, ⟨_, _, h.2.2.2.2.1⟩, trivial⟩, ⟨rfl, wk_of_eq rfl, wkO_of_eq rfl, trivial⟩⟩
theorem C29_j {H : Heap} (ids : List Nat) (h : InsA H (sgR 0 ids) ids [[sL 3 2 2, sL 4 2 2], [nI 0], jz0, [nI 0, nI 4], [nI 4, nI 0]]) : KCall prog 29 ((jzj : List Value).map (rn (sgR 0 ids) 3)) H [] (Is (rn (sgUp 5 H.length) 3 (.tuple #[sL 5 3 3, nI 0])) (H ++ [rno (sgUp 5 H.length) 3 (.cells true 5 jzn)])) :=
  valNA (css := [[sL 3 2 2, sL 4 2 2], [nI 0], jz0, [nI 0, nI 4], [nI 4, nI 0]]) (v := .tuple #[sL 5 3 3, nI 0]) (new := [(false, .cells true 5 jzn)]) (Eq.mpr E29_j P29_j) rfl rfl rfl rfl ids h.len h.get
end
end Go.Proofs.YthdekmpkioikdaaGreat
/- Closed calls of the chapter's examples. Printed by a program. No condition. -/
namespace Go.Proofs.YthdekmpkioikdaaGreat
set_option linter.unusedSimpArgs false
open Go Go.K
set_option maxRecDepth 1000000
set_option maxHeartbeats 4000000
set_option linter.unusedVariables false
noncomputable section
attribute [local irreducible] vF
def R109_0 (sp : Value) : Prop :=
  (.tuple #[nI 0, .bool false] : Value) = sp
theorem E109_0 (sp : Value) : vF prog msk (dm 0) 100000 true 40 true 109 jz1 jz2l (some [])
  (.go 6 (.into (some [6, 7]) (.go 49 (.into (some (List.range' 6 8)) (.go 3 (.into (some (List.range' 6 8)) (.go 11 (.into (some (List.range' 6 8)) (.go 200 (.into jz1u (.go 7 (.into jz1u (.go 28 (.into jz1u (.go 11 (.into jz1u (.auto)))))))))))))))))
  (fun v _ _ => v = sp) = R109_0 sp := by kernel_rfl
theorem P109_0 : R109_0 jz1p := rfl
theorem C109_0 {H : Heap} (ids : List Nat) (h : InsA H (sgR 0 ids) ids [[sL 4 2 2, sL 5 2 2], [nI 0], jz0, jz13, [nI 0, nI 4], [nI 4, nI 0]]) : KCall prog 109 (jz11.map (rn (sgR 0 ids) 3)) H [] (Is jz1p H) :=
  valRA (css := [[sL 4 2 2, sL 5 2 2], [nI 0], jz0, jz13, [nI 0, nI 4], [nI 4, nI 0]]) (Eq.mpr (E109_0 _) P109_0) rfl ids h.len h.get
def R109_6 (sp : Value) : Prop :=
  (.tuple #[nI 29, .bool false] : Value) = sp
theorem E109_6 (sp : Value) : vF prog msk (dm 0) 100000 true 40 true 109 jz1 jz2a (some [])
  jzh
  (fun v _ _ => v = sp) = R109_6 sp := by kernel_rfl
theorem P109_6 : R109_6 jz1d := rfl
theorem C109_6 {H : Heap} (ids : List Nat) (h : InsA H (sgR 0 ids) ids [[sL 4 2 2, sL 5 2 2], [nI 0], jz0, [sL 6 1 1], [nI 0, nI 4], [nI 4, nI 0], [nI 0]]) : KCall prog 109 (jz11.map (rn (sgR 0 ids) 3)) H [] (Is jz1d H) :=
  valRA (css := [[sL 4 2 2, sL 5 2 2], [nI 0], jz0, [sL 6 1 1], [nI 0, nI 4], [nI 4, nI 0], [nI 0]]) (Eq.mpr (E109_6 _) P109_6) rfl ids h.len h.get
def R109_3 (sp : Value) : Prop :=
  jz1w = sp
theorem E109_3 (sp : Value) : vF prog msk (dm 0) 100000 true 40 true 109 jz1 jz1x (some [])
  jz9
  (fun v _ _ => v = sp) = R109_3 sp := by kernel_rfl
theorem P109_3 : R109_3 jzp := rfl
theorem C109_3 {H : Heap} (ids : List Nat) (h : InsA H (sgR 0 ids) ids [[sL 4 2 2, sL 5 2 2], [nI 0], jz0, [sL 6 2 2], [nI 0, nI 4], [nI 4, nI 0], [nI 0, nI 1]]) : KCall prog 109 (jz11.map (rn (sgR 0 ids) 3)) H [] (Is jzp H) :=
  valRA (css := [[sL 4 2 2, sL 5 2 2], [nI 0], jz0, [sL 6 2 2], [nI 0, nI 4], [nI 4, nI 0], [nI 0, nI 1]]) (Eq.mpr (E109_3 _) P109_3) rfl ids h.len h.get
def R109_9 (sp : Value) : Prop :=
  jz1w = sp
theorem E109_9 (sp : Value) : vF prog msk (dm 0) 100000 true 40 true 109 jz1 (readsT 0 [[sL 4 2 2, sL 5 2 2], [nI 0], jz0, [sL 6 3 3], [nI 0, nI 4], [nI 4, nI 0], jz2p]) (some [])
  jz8
  (fun v _ _ => v = sp) = R109_9 sp := by kernel_rfl
theorem P109_9 : R109_9 jzp := rfl
theorem C109_9 {H : Heap} (ids : List Nat) (h : InsA H (sgR 0 ids) ids [[sL 4 2 2, sL 5 2 2], [nI 0], jz0, [sL 6 3 3], [nI 0, nI 4], [nI 4, nI 0], jz2p]) : KCall prog 109 (jz11.map (rn (sgR 0 ids) 3)) H [] (Is jzp H) :=
  valRA (css := [[sL 4 2 2, sL 5 2 2], [nI 0], jz0, [sL 6 3 3], [nI 0, nI 4], [nI 4, nI 0], jz2p]) (Eq.mpr (E109_9 _) P109_9) rfl ids h.len h.get
def R109_a (sp : Value) : Prop :=
  jz1w = sp
theorem E109_a (sp : Value) : vF prog msk (dm 0) 100000 true 40 true 109 jz1 jz1y (some [])
  jz9
  (fun v _ _ => v = sp) = R109_a sp := by kernel_rfl
theorem P109_a : R109_a jzp := rfl
theorem C109_a {H : Heap} (ids : List Nat) (h : InsA H (sgR 0 ids) ids [[sL 4 2 2, sL 5 2 2], [nI 0], jz0, [sL 6 2 2], [nI 0, nI 4], [nI 4, nI 0], [nI 0, nI 2]]) : KCall prog 109 (jz11.map (rn (sgR 0 ids) 3)) H [] (Is jzp H) :=
  valRA (css := [[sL 4 2 2, sL 5 2 2], [nI 0], jz0, [sL 6 2 2], [nI 0, nI 4], [nI 4, nI 0], [nI 0, nI 2]]) (Eq.mpr (E109_a _) P109_a) rfl ids h.len h.get
def R109_5 (sp : Value) : Prop :=
  jz1w = sp
theorem E109_5 (sp : Value) : vF prog msk (dm 0) 100000 true 40 true 109 jz1 (readsT 0 [[sL 4 2 2, sL 5 2 2], [nI 0], jz0, [sL 6 3 3], [nI 0, nI 4], [nI 4, nI 0], jz2q]) (some [])
  jz8
  (fun v _ _ => v = sp) = R109_5 sp := by kernel_rfl
theorem P109_5 : R109_5 jzp := rfl
theorem C109_5 {H : Heap} (ids : List Nat) (h : InsA H (sgR 0 ids) ids [[sL 4 2 2, sL 5 2 2], [nI 0], jz0, [sL 6 3 3], [nI 0, nI 4], [nI 4, nI 0], jz2q]) : KCall prog 109 (jz11.map (rn (sgR 0 ids) 3)) H [] (Is jzp H) :=
  valRA (css := [[sL 4 2 2, sL 5 2 2], [nI 0], jz0, [sL 6 3 3], [nI 0, nI 4], [nI 4, nI 0], jz2q]) (Eq.mpr (E109_5 _) P109_5) rfl ids h.len h.get
def R109_1 (sp : Value) : Prop :=
  (.tuple #[nI 10, .bool false] : Value) = sp
theorem E109_1 (sp : Value) : vF prog msk (dm 0) 100000 true 40 true 109 jz1 jz2b (some [])
  jzh
  (fun v _ _ => v = sp) = R109_1 sp := by kernel_rfl
theorem P109_1 : R109_1 jz1e := rfl
theorem C109_1 {H : Heap} (ids : List Nat) (h : InsA H (sgR 0 ids) ids [[sL 4 2 2, sL 5 2 2], [nI 0], jz0, [sL 6 1 1], [nI 0, nI 4], [nI 4, nI 0], [nI 1]]) : KCall prog 109 (jz11.map (rn (sgR 0 ids) 3)) H [] (Is jz1e H) :=
  valRA (css := [[sL 4 2 2, sL 5 2 2], [nI 0], jz0, [sL 6 1 1], [nI 0, nI 4], [nI 4, nI 0], [nI 1]]) (Eq.mpr (E109_1 _) P109_1) rfl ids h.len h.get
def R109_d (sp : Value) : Prop :=
  (.tuple #[nI 28, .bool false] : Value) = sp
theorem E109_d (sp : Value) : vF prog msk (dm 0) 100000 true 40 true 109 jz1 jz1z (some [])
  jz9
  (fun v _ _ => v = sp) = R109_d sp := by kernel_rfl
theorem P109_d : R109_d jz1f := rfl
theorem C109_d {H : Heap} (ids : List Nat) (h : InsA H (sgR 0 ids) ids [[sL 4 2 2, sL 5 2 2], [nI 0], jz0, [sL 6 2 2], [nI 0, nI 4], [nI 4, nI 0], [nI 1, nI 0]]) : KCall prog 109 (jz11.map (rn (sgR 0 ids) 3)) H [] (Is jz1f H) :=
  valRA (css := [[sL 4 2 2, sL 5 2 2], [nI 0], jz0, [sL 6 2 2], [nI 0, nI 4], [nI 4, nI 0], [nI 1, nI 0]]) (Eq.mpr (E109_d _) P109_d) rfl ids h.len h.get
def R109_c (sp : Value) : Prop :=
  (.tuple #[nI 32, .bool false] : Value) = sp
theorem E109_c (sp : Value) : vF prog msk (dm 0) 100000 true 40 true 109 jz1 jz2f (some [])
  jz8
  (fun v _ _ => v = sp) = R109_c sp := by kernel_rfl
theorem P109_c : R109_c jz1g := rfl
theorem C109_c {H : Heap} (ids : List Nat) (h : InsA H (sgR 0 ids) ids [[sL 4 2 2, sL 5 2 2], [nI 0], jz0, [sL 6 3 3], [nI 0, nI 4], [nI 4, nI 0], jzq]) : KCall prog 109 (jz11.map (rn (sgR 0 ids) 3)) H [] (Is jz1g H) :=
  valRA (css := [[sL 4 2 2, sL 5 2 2], [nI 0], jz0, [sL 6 3 3], [nI 0, nI 4], [nI 4, nI 0], jzq]) (Eq.mpr (E109_c _) P109_c) rfl ids h.len h.get
def R109_2 (sp : Value) : Prop :=
  (.tuple #[nI 15, .bool false] : Value) = sp
theorem E109_2 (sp : Value) : vF prog msk (dm 0) 100000 true 40 true 109 jz1 jz20 (some [])
  jz9
  (fun v _ _ => v = sp) = R109_2 sp := by kernel_rfl
theorem P109_2 : R109_2 jz1h := rfl
theorem C109_2 {H : Heap} (ids : List Nat) (h : InsA H (sgR 0 ids) ids [[sL 4 2 2, sL 5 2 2], [nI 0], jz0, [sL 6 2 2], [nI 0, nI 4], [nI 4, nI 0], [nI 1, nI 2]]) : KCall prog 109 (jz11.map (rn (sgR 0 ids) 3)) H [] (Is jz1h H) :=
  valRA (css := [[sL 4 2 2, sL 5 2 2], [nI 0], jz0, [sL 6 2 2], [nI 0, nI 4], [nI 4, nI 0], [nI 1, nI 2]]) (Eq.mpr (E109_2 _) P109_2) rfl ids h.len h.get
def R109_4 (sp : Value) : Prop :=
  (.tuple #[nI 19, .bool false] : Value) = sp
theorem E109_4 (sp : Value) : vF prog msk (dm 0) 100000 true 40 true 109 jz1 jz2g (some [])
  jz8
  (fun v _ _ => v = sp) = R109_4 sp := by kernel_rfl
theorem P109_4 : R109_4 jz1i := rfl
theorem C109_4 {H : Heap} (ids : List Nat) (h : InsA H (sgR 0 ids) ids [[sL 4 2 2, sL 5 2 2], [nI 0], jz0, [sL 6 3 3], [nI 0, nI 4], [nI 4, nI 0], jzx]) : KCall prog 109 (jz11.map (rn (sgR 0 ids) 3)) H [] (Is jz1i H) :=
  valRA (css := [[sL 4 2 2, sL 5 2 2], [nI 0], jz0, [sL 6 3 3], [nI 0, nI 4], [nI 4, nI 0], jzx]) (Eq.mpr (E109_4 _) P109_4) rfl ids h.len h.get
def R109_7 (sp : Value) : Prop :=
  (.tuple #[nI 13, .bool false] : Value) = sp
theorem E109_7 (sp : Value) : vF prog msk (dm 0) 100000 true 40 true 109 jz1 jz2c (some [])
  jzh
  (fun v _ _ => v = sp) = R109_7 sp := by kernel_rfl
theorem P109_7 : R109_7 jz1j := rfl
theorem C109_7 {H : Heap} (ids : List Nat) (h : InsA H (sgR 0 ids) ids [[sL 4 2 2, sL 5 2 2], [nI 0], jz0, [sL 6 1 1], [nI 0, nI 4], [nI 4, nI 0], [nI 2]]) : KCall prog 109 (jz11.map (rn (sgR 0 ids) 3)) H [] (Is jz1j H) :=
  valRA (css := [[sL 4 2 2, sL 5 2 2], [nI 0], jz0, [sL 6 1 1], [nI 0, nI 4], [nI 4, nI 0], [nI 2]]) (Eq.mpr (E109_7 _) P109_7) rfl ids h.len h.get
def R109_e (sp : Value) : Prop :=
  (.tuple #[nI 31, .bool false] : Value) = sp
theorem E109_e (sp : Value) : vF prog msk (dm 0) 100000 true 40 true 109 jz1 jz21 (some [])
  jz9
  (fun v _ _ => v = sp) = R109_e sp := by kernel_rfl
theorem P109_e : R109_e jz1k := rfl
theorem C109_e {H : Heap} (ids : List Nat) (h : InsA H (sgR 0 ids) ids [[sL 4 2 2, sL 5 2 2], [nI 0], jz0, [sL 6 2 2], [nI 0, nI 4], [nI 4, nI 0], [nI 2, nI 0]]) : KCall prog 109 (jz11.map (rn (sgR 0 ids) 3)) H [] (Is jz1k H) :=
  valRA (css := [[sL 4 2 2, sL 5 2 2], [nI 0], jz0, [sL 6 2 2], [nI 0, nI 4], [nI 4, nI 0], [nI 2, nI 0]]) (Eq.mpr (E109_e _) P109_e) rfl ids h.len h.get
def R109_b (sp : Value) : Prop :=
  (.tuple #[nI 35, .bool false] : Value) = sp
theorem E109_b (sp : Value) : vF prog msk (dm 0) 100000 true 40 true 109 jz1 jz2h (some [])
  jz8
  (fun v _ _ => v = sp) = R109_b sp := by kernel_rfl
theorem P109_b : R109_b jz1l := rfl
theorem C109_b {H : Heap} (ids : List Nat) (h : InsA H (sgR 0 ids) ids [[sL 4 2 2, sL 5 2 2], [nI 0], jz0, [sL 6 3 3], [nI 0, nI 4], [nI 4, nI 0], jzy]) : KCall prog 109 (jz11.map (rn (sgR 0 ids) 3)) H [] (Is jz1l H) :=
  valRA (css := [[sL 4 2 2, sL 5 2 2], [nI 0], jz0, [sL 6 3 3], [nI 0, nI 4], [nI 4, nI 0], jzy]) (Eq.mpr (E109_b _) P109_b) rfl ids h.len h.get
def R109_8 (sp : Value) : Prop :=
  (.tuple #[nI 18, .bool false] : Value) = sp
theorem E109_8 (sp : Value) : vF prog msk (dm 0) 100000 true 40 true 109 jz1 jz22 (some [])
  jz9
  (fun v _ _ => v = sp) = R109_8 sp := by kernel_rfl
theorem P109_8 : R109_8 jz1m := rfl
theorem C109_8 {H : Heap} (ids : List Nat) (h : InsA H (sgR 0 ids) ids [[sL 4 2 2, sL 5 2 2], [nI 0], jz0, [sL 6 2 2], [nI 0, nI 4], [nI 4, nI 0], [nI 2, nI 1]]) : KCall prog 109 (jz11.map (rn (sgR 0 ids) 3)) H [] (Is jz1m H) :=
  valRA (css := [[sL 4 2 2, sL 5 2 2], [nI 0], jz0, [sL 6 2 2], [nI 0, nI 4], [nI 4, nI 0], [nI 2, nI 1]]) (Eq.mpr (E109_8 _) P109_8) rfl ids h.len h.get
def R109_f (sp : Value) : Prop :=
  (.tuple #[nI 22, .bool false] : Value) = sp
theorem E109_f (sp : Value) : vF prog msk (dm 0) 100000 true 40 true 109 jz1 jz2i (some [])
  jz8
  (fun v _ _ => v = sp) = R109_f sp := by kernel_rfl
theorem P109_f : R109_f jz1n := rfl
theorem C109_f {H : Heap} (ids : List Nat) (h : InsA H (sgR 0 ids) ids [[sL 4 2 2, sL 5 2 2], [nI 0], jz0, [sL 6 3 3], [nI 0, nI 4], [nI 4, nI 0], jzz]) : KCall prog 109 (jz11.map (rn (sgR 0 ids) 3)) H [] (Is jz1n H) :=
  valRA (css := [[sL 4 2 2, sL 5 2 2], [nI 0], jz0, [sL 6 3 3], [nI 0, nI 4], [nI 4, nI 0], jzz]) (Eq.mpr (E109_f _) P109_f) rfl ids h.len h.get
end
end Go.Proofs.YthdekmpkioikdaaGreat
