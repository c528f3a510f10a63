/- Closed calls of the chapter's examples. Printed by a program. No condition. -/
import Derived.Test.YthdekmpkioikdaaGreatGZ0xZ1
import Derived.Test.YthdekmpkioikdaaGreatZ4
import Derived.Test.YthdekmpkioikdaaGreatGR15xR17g
import Derived.Test.YthdekmpkioikdaaGreatGR11xR15f
import Derived.Test.YthdekmpkioikdaaGreatGK27xR1g
import Derived.Test.YthdekmpkioikdaaGreatRows
import Derived.JoinedCond
import Derived.Test.YthdekmpkioikdaaGreatGR1xR1s
namespace Go.Proofs.YthdekmpkioikdaaGreat
set_option linter.unusedSimpArgs false
open Go Go.K
set_option maxRecDepth 1000000
set_option maxHeartbeats 4000000
set_option linter.unusedVariables false
noncomputable section
attribute [local irreducible] vF
def R48_m : Prop :=
  (jzu ∧ (∀ H' : Heap, H'.length = 9 → (jzr H') → KCall prog 30 jzj H' [] (Is (nI 0) H')) ∧ (jzu ∧ (∀ H' : Heap, H'.length = 7 → (jzr H') → KCall prog 62 jz10 H' [] (Is (.tuple #[sL 7 1 1, nI 32, .bool true]) (H' ++ [(.cells true 1 [sL 8 3 3] : KObj), jzw]))) ∧ (true = true ∧ wk (.tuple #[sL 7 1 1, nI 32, nI 0] : Value) (rn (sg 5 [(5, 7), (6, 8)]) 3 (.tuple #[sL 5 1 1, nI 32, nI 0] : Value)) ∧ (wkO (.cells true 1 [sL 8 3 3] : KObj) (rno (sg 5 [(5, 7), (6, 8)]) 3 (.cells true 1 [sL 6 3 3] : KObj)) ∧ wkO jzw (rno (sg 5 [(5, 7), (6, 8)]) 3 jzw) ∧ True))))
theorem E48_m : vF prog msk (dm 0) 100000 true 40 true 48 jzj jzk (some [])
  (.go 14 (.ans [jzc, jzd, jze, jzf, jzg] (nI 0) [] (.go 16 (.ans [jzc, jzd, jze, jzf, jzg] (.tuple #[sL 7 1 1, nI 32, .bool true]) [.cells true 1 [sL 8 3 3], .cells true 1 jzq] (.go 14 (.again [(5, 7), (6, 8)]))))))
  (newK jzk.n 3 (.tuple #[sL 5 1 1, nI 32, nI 0]) jz15) = R48_m := by kernel_rfl
theorem P48_m : R48_m := ⟨⟨rfl, rfl, rfl, rfl, rfl, trivial⟩, fun H' _ h => C30_k [0, 1, 2, 3, 4] ⟨⟨_, _, h.1⟩, ⟨_, _, h.2.1⟩, ⟨_, _, h.2.2.1⟩, ⟨_, _, h.2.2.2.1⟩, ⟨_, _, h.2.2.2.2.1⟩, trivial⟩, ⟨⟨rfl, rfl, rfl, rfl, rfl, trivial⟩, fun H' hl h => (by have k := C62_n (H := H') [0, 1, 2, 3, 4] ⟨⟨_, _, h.1⟩, ⟨_, _, h.2.1⟩, ⟨_, _, h.2.2.1⟩, ⟨_, _, h.2.2.2.1⟩, ⟨_, _, h.2.2.2.2.1⟩, trivial⟩; rw [hl] at k; exact k), ⟨rfl, wk_of_eq rfl, wkO_of_eq rfl, wkO_of_eq rfl, trivial⟩⟩⟩
theorem C48_m {H : Heap} (ids : List Nat) (h : InsA H (sgR 0 ids) ids [[sL 3 2 2, sL 4 2 2], [nI 0], jz0, [nI 0, nI 4], [nI 4, nI 0]]) : KCall prog 48 ((jzj : List Value).map (rn (sgR 0 ids) 3)) H [] (Is (rn (sgUp 5 H.length) 3 (.tuple #[sL 5 1 1, nI 32, nI 0])) (H ++ [rno (sgUp 5 H.length) 3 (.cells true 1 [sL 6 3 3]), rno (sgUp 5 H.length) 3 (.cells true 1 jzq)])) :=
  valNA (css := [[sL 3 2 2, sL 4 2 2], [nI 0], jz0, [nI 0, nI 4], [nI 4, nI 0]]) (v := .tuple #[sL 5 1 1, nI 32, nI 0]) (new := jz15) (Eq.mpr E48_m P48_m) rfl rfl rfl rfl ids h.len h.get
end
end Go.Proofs.YthdekmpkioikdaaGreat
/- Closed calls of the chapter's examples. Printed by a program. No condition. -/
namespace Go.Proofs.YthdekmpkioikdaaGreat
set_option linter.unusedSimpArgs false
open Go Go.K
set_option maxRecDepth 1000000
set_option maxHeartbeats 4000000
set_option linter.unusedVariables false
noncomputable section
attribute [local irreducible] vF
def R64_r (sp : Value) : Prop :=
  (((someR jzb) ∧ (someR jz4) ∧ (someR jz6) ∧ (someR (.cells false 0 jz13 : KObj)) ∧ (someR jz2) ∧ (someR jz3) ∧ True) ∧ (∀ H' : Heap, H'.length = 8 → (H'[0]? = some jzb ∧ H'[1]? = some jz4 ∧ H'[2]? = some jz6 ∧ H'[3]? = some (.cells false 0 jz13 : KObj) ∧ H'[4]? = some jz2 ∧ H'[5]? = some jz3 ∧ True) → KCall prog 109 jz1 H' [] (Is jz1p H')) ∧ jz1t = sp)
theorem E64_r (sp : Value) : vF prog msk (dm 0) 100000 true 40 true 64 jz7 jz2l (some [])
  (.go 6 (.ans [jzi, jzd, jze, (3, .cells false 0 jz13), jzl, jzm] jz1p [] (.auto)))
  (fun v _ _ => v = sp) = R64_r sp := by kernel_rfl
theorem P64_r : R64_r (.bool false) := ⟨⟨rfl, rfl, rfl, rfl, rfl, rfl, trivial⟩, fun H' _ h => C109_0 [0, 1, 2, 3, 4, 5] ⟨⟨_, _, h.1⟩, ⟨_, _, h.2.1⟩, ⟨_, _, h.2.2.1⟩, ⟨_, _, h.2.2.2.1⟩, ⟨_, _, h.2.2.2.2.1⟩, ⟨_, _, h.2.2.2.2.2.1⟩, trivial⟩, rfl⟩
theorem C64_r {H : Heap} (ids : List Nat) (h : InsA H (sgR 0 ids) ids [[sL 4 2 2, sL 5 2 2], [nI 0], jz0, jz13, [nI 0, nI 4], [nI 4, nI 0]]) : KCall prog 64 (jz14.map (rn (sgR 0 ids) 3)) H [] (Is (.bool false) H) :=
  valRA (css := [[sL 4 2 2, sL 5 2 2], [nI 0], jz0, jz13, [nI 0, nI 4], [nI 4, nI 0]]) (Eq.mpr (E64_r _) P64_r) rfl ids h.len h.get
def R64_u (sp : Value) : Prop :=
  (((someR jzb) ∧ (someR jz4) ∧ (someR jz6) ∧ (someR jz19) ∧ (someR jz2) ∧ (someR jz3) ∧ (someR jz4) ∧ True) ∧ (∀ H' : Heap, H'.length = 9 → (H'[0]? = some jzb ∧ H'[1]? = some jz4 ∧ H'[2]? = some jz6 ∧ H'[3]? = some jz19 ∧ H'[4]? = some jz2 ∧ H'[5]? = some jz3 ∧ H'[6]? = some jz4 ∧ True) → KCall prog 109 jz1 H' [] (Is jz1d H')) ∧ jz1t = sp)
theorem E64_u (sp : Value) : vF prog msk (dm 0) 100000 true 40 true 64 jz7 jz2a (some [])
  (.go 6 (.ans [jzi, jzd, jze, jz33, jzl, jzm, (6, .cells false 0 [nI 0])] jz1d [] (.auto)))
  (fun v _ _ => v = sp) = R64_u sp := by kernel_rfl
theorem P64_u : R64_u (.bool false) := ⟨⟨rfl, rfl, rfl, rfl, rfl, rfl, rfl, trivial⟩, fun H' _ h => C109_6 [0, 1, 2, 3, 4, 5, 6] ⟨⟨_, _, h.1⟩, ⟨_, _, h.2.1⟩, ⟨_, _, h.2.2.1⟩, ⟨_, _, h.2.2.2.1⟩, ⟨_, _, h.2.2.2.2.1⟩, ⟨_, _, h.2.2.2.2.2.1⟩, ⟨_, _, h.2.2.2.2.2.2.1⟩, trivial⟩, rfl⟩
theorem C64_u {H : Heap} (ids : List Nat) (h : InsA H (sgR 0 ids) ids [[sL 4 2 2, sL 5 2 2], [nI 0], jz0, [sL 6 1 1], [nI 0, nI 4], [nI 4, nI 0], [nI 0]]) : KCall prog 64 (jz14.map (rn (sgR 0 ids) 3)) H [] (Is (.bool false) H) :=
  valRA (css := [[sL 4 2 2, sL 5 2 2], [nI 0], jz0, [sL 6 1 1], [nI 0, nI 4], [nI 4, nI 0], [nI 0]]) (Eq.mpr (E64_u _) P64_u) rfl ids h.len h.get
def R64_w (sp : Value) : Prop :=
  (((someR jzb) ∧ (someR jz4) ∧ (someR jz6) ∧ (someR jzt) ∧ (someR jz2) ∧ (someR jz3) ∧ (someR (.cells false 0 [nI 0, nI 1] : KObj)) ∧ True) ∧ (∀ H' : Heap, H'.length = 9 → (H'[0]? = some jzb ∧ H'[1]? = some jz4 ∧ H'[2]? = some jz6 ∧ H'[3]? = some jzt ∧ H'[4]? = some jz2 ∧ H'[5]? = some jz3 ∧ H'[6]? = some (.cells false 0 [nI 0, nI 1] : KObj) ∧ True) → KCall prog 109 jz1 H' [] (Is jzp H')) ∧ jz23 = sp)
theorem E64_w (sp : Value) : vF prog msk (dm 0) 100000 true 40 true 64 jz7 jz1x (some [])
  (.go 6 (.ans [jzi, jzd, jze, jz1o, jzl, jzm, (6, .cells false 0 [nI 0, nI 1])] jzp [] (.auto)))
  (fun v _ _ => v = sp) = R64_w sp := by kernel_rfl
theorem P64_w : R64_w (.bool true) := ⟨⟨rfl, rfl, rfl, rfl, rfl, rfl, rfl, trivial⟩, fun H' _ h => C109_3 [0, 1, 2, 3, 4, 5, 6] ⟨⟨_, _, h.1⟩, ⟨_, _, h.2.1⟩, ⟨_, _, h.2.2.1⟩, ⟨_, _, h.2.2.2.1⟩, ⟨_, _, h.2.2.2.2.1⟩, ⟨_, _, h.2.2.2.2.2.1⟩, ⟨_, _, h.2.2.2.2.2.2.1⟩, trivial⟩, rfl⟩
theorem C64_w {H : Heap} (ids : List Nat) (h : InsA H (sgR 0 ids) ids [[sL 4 2 2, sL 5 2 2], [nI 0], jz0, [sL 6 2 2], [nI 0, nI 4], [nI 4, nI 0], [nI 0, nI 1]]) : KCall prog 64 (jz14.map (rn (sgR 0 ids) 3)) H [] (Is (.bool true) H) :=
  valRA (css := [[sL 4 2 2, sL 5 2 2], [nI 0], jz0, [sL 6 2 2], [nI 0, nI 4], [nI 4, nI 0], [nI 0, nI 1]]) (Eq.mpr (E64_w _) P64_w) rfl ids h.len h.get
def R64_10 (sp : Value) : Prop :=
  (((someR jzb) ∧ (someR jz4) ∧ (someR jz6) ∧ (someR jzt) ∧ (someR jz2) ∧ (someR jz3) ∧ (someR (.cells false 0 [nI 0, nI 2] : KObj)) ∧ True) ∧ (∀ H' : Heap, H'.length = 9 → (H'[0]? = some jzb ∧ H'[1]? = some jz4 ∧ H'[2]? = some jz6 ∧ H'[3]? = some jzt ∧ H'[4]? = some jz2 ∧ H'[5]? = some jz3 ∧ H'[6]? = some (.cells false 0 [nI 0, nI 2] : KObj) ∧ True) → KCall prog 109 jz1 H' [] (Is jzp H')) ∧ jz23 = sp)
theorem E64_10 (sp : Value) : vF prog msk (dm 0) 100000 true 40 true 64 jz7 jz1y (some [])
  (.go 6 (.ans [jzi, jzd, jze, jz1o, jzl, jzm, (6, .cells false 0 [nI 0, nI 2])] jzp [] (.auto)))
  (fun v _ _ => v = sp) = R64_10 sp := by kernel_rfl
theorem P64_10 : R64_10 (.bool true) := ⟨⟨rfl, rfl, rfl, rfl, rfl, rfl, rfl, trivial⟩, fun H' _ h => C109_a [0, 1, 2, 3, 4, 5, 6] ⟨⟨_, _, h.1⟩, ⟨_, _, h.2.1⟩, ⟨_, _, h.2.2.1⟩, ⟨_, _, h.2.2.2.1⟩, ⟨_, _, h.2.2.2.2.1⟩, ⟨_, _, h.2.2.2.2.2.1⟩, ⟨_, _, h.2.2.2.2.2.2.1⟩, trivial⟩, rfl⟩
theorem C64_10 {H : Heap} (ids : List Nat) (h : InsA H (sgR 0 ids) ids [[sL 4 2 2, sL 5 2 2], [nI 0], jz0, [sL 6 2 2], [nI 0, nI 4], [nI 4, nI 0], [nI 0, nI 2]]) : KCall prog 64 (jz14.map (rn (sgR 0 ids) 3)) H [] (Is (.bool true) H) :=
  valRA (css := [[sL 4 2 2, sL 5 2 2], [nI 0], jz0, [sL 6 2 2], [nI 0, nI 4], [nI 4, nI 0], [nI 0, nI 2]]) (Eq.mpr (E64_10 _) P64_10) rfl ids h.len h.get
def R64_v (sp : Value) : Prop :=
  (((someR jzb) ∧ (someR jz4) ∧ (someR jz6) ∧ (someR jz19) ∧ (someR jz2) ∧ (someR jz3) ∧ (someR (.cells false 0 [nI 1] : KObj)) ∧ True) ∧ (∀ H' : Heap, H'.length = 9 → (H'[0]? = some jzb ∧ H'[1]? = some jz4 ∧ H'[2]? = some jz6 ∧ H'[3]? = some jz19 ∧ H'[4]? = some jz2 ∧ H'[5]? = some jz3 ∧ H'[6]? = some (.cells false 0 [nI 1] : KObj) ∧ True) → KCall prog 109 jz1 H' [] (Is jz1e H')) ∧ jz1t = sp)
theorem E64_v (sp : Value) : vF prog msk (dm 0) 100000 true 40 true 64 jz7 jz2b (some [])
  (.go 6 (.ans [jzi, jzd, jze, jz33, jzl, jzm, (6, .cells false 0 [nI 1])] jz1e [] (.auto)))
  (fun v _ _ => v = sp) = R64_v sp := by kernel_rfl
theorem P64_v : R64_v (.bool false) := ⟨⟨rfl, rfl, rfl, rfl, rfl, rfl, rfl, trivial⟩, fun H' _ h => C109_1 [0, 1, 2, 3, 4, 5, 6] ⟨⟨_, _, h.1⟩, ⟨_, _, h.2.1⟩, ⟨_, _, h.2.2.1⟩, ⟨_, _, h.2.2.2.1⟩, ⟨_, _, h.2.2.2.2.1⟩, ⟨_, _, h.2.2.2.2.2.1⟩, ⟨_, _, h.2.2.2.2.2.2.1⟩, trivial⟩, rfl⟩
theorem C64_v {H : Heap} (ids : List Nat) (h : InsA H (sgR 0 ids) ids [[sL 4 2 2, sL 5 2 2], [nI 0], jz0, [sL 6 1 1], [nI 0, nI 4], [nI 4, nI 0], [nI 1]]) : KCall prog 64 (jz14.map (rn (sgR 0 ids) 3)) H [] (Is (.bool false) H) :=
  valRA (css := [[sL 4 2 2, sL 5 2 2], [nI 0], jz0, [sL 6 1 1], [nI 0, nI 4], [nI 4, nI 0], [nI 1]]) (Eq.mpr (E64_v _) P64_v) rfl ids h.len h.get
def R64_11 (sp : Value) : Prop :=
  (((someR jzb) ∧ (someR jz4) ∧ (someR jz6) ∧ (someR jzt) ∧ (someR jz2) ∧ (someR jz3) ∧ (someR (.cells false 0 [nI 1, nI 0] : KObj)) ∧ True) ∧ (∀ H' : Heap, H'.length = 9 → (H'[0]? = some jzb ∧ H'[1]? = some jz4 ∧ H'[2]? = some jz6 ∧ H'[3]? = some jzt ∧ H'[4]? = some jz2 ∧ H'[5]? = some jz3 ∧ H'[6]? = some (.cells false 0 [nI 1, nI 0] : KObj) ∧ True) → KCall prog 109 jz1 H' [] (Is jz1f H')) ∧ jz1t = sp)
theorem E64_11 (sp : Value) : vF prog msk (dm 0) 100000 true 40 true 64 jz7 jz1z (some [])
  (.go 6 (.ans [jzi, jzd, jze, jz1o, jzl, jzm, (6, .cells false 0 [nI 1, nI 0])] jz1f [] (.auto)))
  (fun v _ _ => v = sp) = R64_11 sp := by kernel_rfl
theorem P64_11 : R64_11 (.bool false) := ⟨⟨rfl, rfl, rfl, rfl, rfl, rfl, rfl, trivial⟩, fun H' _ h => C109_d [0, 1, 2, 3, 4, 5, 6] ⟨⟨_, _, h.1⟩, ⟨_, _, h.2.1⟩, ⟨_, _, h.2.2.1⟩, ⟨_, _, h.2.2.2.1⟩, ⟨_, _, h.2.2.2.2.1⟩, ⟨_, _, h.2.2.2.2.2.1⟩, ⟨_, _, h.2.2.2.2.2.2.1⟩, trivial⟩, rfl⟩
theorem C64_11 {H : Heap} (ids : List Nat) (h : InsA H (sgR 0 ids) ids [[sL 4 2 2, sL 5 2 2], [nI 0], jz0, [sL 6 2 2], [nI 0, nI 4], [nI 4, nI 0], [nI 1, nI 0]]) : KCall prog 64 (jz14.map (rn (sgR 0 ids) 3)) H [] (Is (.bool false) H) :=
  valRA (css := [[sL 4 2 2, sL 5 2 2], [nI 0], jz0, [sL 6 2 2], [nI 0, nI 4], [nI 4, nI 0], [nI 1, nI 0]]) (Eq.mpr (E64_11 _) P64_11) rfl ids h.len h.get
def R64_q (sp : Value) : Prop :=
  (((someR jzb) ∧ (someR jz4) ∧ (someR jz6) ∧ (someR jz12) ∧ (someR jz2) ∧ (someR jz3) ∧ (someR (.cells false 0 jzq : KObj)) ∧ True) ∧ (∀ H' : Heap, H'.length = 9 → (H'[0]? = some jzb ∧ H'[1]? = some jz4 ∧ H'[2]? = some jz6 ∧ H'[3]? = some jz12 ∧ H'[4]? = some jz2 ∧ H'[5]? = some jz3 ∧ H'[6]? = some (.cells false 0 jzq : KObj) ∧ True) → KCall prog 109 jz1 H' [] (Is jz1g H')) ∧ jz23 = sp)
theorem E64_q (sp : Value) : vF prog msk (dm 0) 100000 true 40 true 64 jz7 jz2f (some [])
  (.go 6 (.ans [jzi, jzd, jze, jz2k, jzl, jzm, (6, .cells false 0 jzq)] jz1g [] (.auto)))
  (fun v _ _ => v = sp) = R64_q sp := by kernel_rfl
theorem P64_q : R64_q (.bool true) := ⟨⟨rfl, rfl, rfl, rfl, rfl, rfl, rfl, trivial⟩, fun H' _ h => C109_c [0, 1, 2, 3, 4, 5, 6] ⟨⟨_, _, h.1⟩, ⟨_, _, h.2.1⟩, ⟨_, _, h.2.2.1⟩, ⟨_, _, h.2.2.2.1⟩, ⟨_, _, h.2.2.2.2.1⟩, ⟨_, _, h.2.2.2.2.2.1⟩, ⟨_, _, h.2.2.2.2.2.2.1⟩, trivial⟩, rfl⟩
theorem C64_q {H : Heap} (ids : List Nat) (h : InsA H (sgR 0 ids) ids [[sL 4 2 2, sL 5 2 2], [nI 0], jz0, [sL 6 3 3], [nI 0, nI 4], [nI 4, nI 0], jzq]) : KCall prog 64 (jz14.map (rn (sgR 0 ids) 3)) H [] (Is (.bool true) H) :=
  valRA (css := [[sL 4 2 2, sL 5 2 2], [nI 0], jz0, [sL 6 3 3], [nI 0, nI 4], [nI 4, nI 0], jzq]) (Eq.mpr (E64_q _) P64_q) rfl ids h.len h.get
def R64_z (sp : Value) : Prop :=
  (((someR jzb) ∧ (someR jz4) ∧ (someR jz6) ∧ (someR jzt) ∧ (someR jz2) ∧ (someR jz3) ∧ (someR (.cells false 0 [nI 1, nI 2] : KObj)) ∧ True) ∧ (∀ H' : Heap, H'.length = 9 → (H'[0]? = some jzb ∧ H'[1]? = some jz4 ∧ H'[2]? = some jz6 ∧ H'[3]? = some jzt ∧ H'[4]? = some jz2 ∧ H'[5]? = some jz3 ∧ H'[6]? = some (.cells false 0 [nI 1, nI 2] : KObj) ∧ True) → KCall prog 109 jz1 H' [] (Is jz1h H')) ∧ jz1t = sp)
theorem E64_z (sp : Value) : vF prog msk (dm 0) 100000 true 40 true 64 jz7 jz20 (some [])
  (.go 6 (.ans [jzi, jzd, jze, jz1o, jzl, jzm, (6, .cells false 0 [nI 1, nI 2])] jz1h [] (.auto)))
  (fun v _ _ => v = sp) = R64_z sp := by kernel_rfl
theorem P64_z : R64_z (.bool false) := ⟨⟨rfl, rfl, rfl, rfl, rfl, rfl, rfl, trivial⟩, fun H' _ h => C109_2 [0, 1, 2, 3, 4, 5, 6] ⟨⟨_, _, h.1⟩, ⟨_, _, h.2.1⟩, ⟨_, _, h.2.2.1⟩, ⟨_, _, h.2.2.2.1⟩, ⟨_, _, h.2.2.2.2.1⟩, ⟨_, _, h.2.2.2.2.2.1⟩, ⟨_, _, h.2.2.2.2.2.2.1⟩, trivial⟩, rfl⟩
theorem C64_z {H : Heap} (ids : List Nat) (h : InsA H (sgR 0 ids) ids [[sL 4 2 2, sL 5 2 2], [nI 0], jz0, [sL 6 2 2], [nI 0, nI 4], [nI 4, nI 0], [nI 1, nI 2]]) : KCall prog 64 (jz14.map (rn (sgR 0 ids) 3)) H [] (Is (.bool false) H) :=
  valRA (css := [[sL 4 2 2, sL 5 2 2], [nI 0], jz0, [sL 6 2 2], [nI 0, nI 4], [nI 4, nI 0], [nI 1, nI 2]]) (Eq.mpr (E64_z _) P64_z) rfl ids h.len h.get
def R64_t (sp : Value) : Prop :=
  (((someR jzb) ∧ (someR jz4) ∧ (someR jz6) ∧ (someR jz12) ∧ (someR jz2) ∧ (someR jz3) ∧ (someR (.cells false 0 jzx : KObj)) ∧ True) ∧ (∀ H' : Heap, H'.length = 9 → (H'[0]? = some jzb ∧ H'[1]? = some jz4 ∧ H'[2]? = some jz6 ∧ H'[3]? = some jz12 ∧ H'[4]? = some jz2 ∧ H'[5]? = some jz3 ∧ H'[6]? = some (.cells false 0 jzx : KObj) ∧ True) → KCall prog 109 jz1 H' [] (Is jz1i H')) ∧ jz23 = sp)
theorem E64_t (sp : Value) : vF prog msk (dm 0) 100000 true 40 true 64 jz7 jz2g (some [])
  (.go 6 (.ans [jzi, jzd, jze, jz2k, jzl, jzm, (6, .cells false 0 jzx)] jz1i [] jzo))
  (fun v _ _ => v = sp) = R64_t sp := by kernel_rfl
theorem P64_t : R64_t (.bool true) := ⟨⟨rfl, rfl, rfl, rfl, rfl, rfl, rfl, trivial⟩, fun H' _ h => C109_4 [0, 1, 2, 3, 4, 5, 6] ⟨⟨_, _, h.1⟩, ⟨_, _, h.2.1⟩, ⟨_, _, h.2.2.1⟩, ⟨_, _, h.2.2.2.1⟩, ⟨_, _, h.2.2.2.2.1⟩, ⟨_, _, h.2.2.2.2.2.1⟩, ⟨_, _, h.2.2.2.2.2.2.1⟩, trivial⟩, rfl⟩
theorem C64_t {H : Heap} (ids : List Nat) (h : InsA H (sgR 0 ids) ids [[sL 4 2 2, sL 5 2 2], [nI 0], jz0, [sL 6 3 3], [nI 0, nI 4], [nI 4, nI 0], jzx]) : KCall prog 64 (jz14.map (rn (sgR 0 ids) 3)) H [] (Is (.bool true) H) :=
  valRA (css := [[sL 4 2 2, sL 5 2 2], [nI 0], jz0, [sL 6 3 3], [nI 0, nI 4], [nI 4, nI 0], jzx]) (Eq.mpr (E64_t _) P64_t) rfl ids h.len h.get
def R64_x (sp : Value) : Prop :=
  (((someR jzb) ∧ (someR jz4) ∧ (someR jz6) ∧ (someR jz19) ∧ (someR jz2) ∧ (someR jz3) ∧ (someR (.cells false 0 [nI 2] : KObj)) ∧ True) ∧ (∀ H' : Heap, H'.length = 9 → (H'[0]? = some jzb ∧ H'[1]? = some jz4 ∧ H'[2]? = some jz6 ∧ H'[3]? = some jz19 ∧ H'[4]? = some jz2 ∧ H'[5]? = some jz3 ∧ H'[6]? = some (.cells false 0 [nI 2] : KObj) ∧ True) → KCall prog 109 jz1 H' [] (Is jz1j H')) ∧ jz1t = sp)
theorem E64_x (sp : Value) : vF prog msk (dm 0) 100000 true 40 true 64 jz7 jz2c (some [])
  (.go 6 (.ans [jzi, jzd, jze, jz33, jzl, jzm, (6, .cells false 0 [nI 2])] jz1j [] (.auto)))
  (fun v _ _ => v = sp) = R64_x sp := by kernel_rfl
theorem P64_x : R64_x (.bool false) := ⟨⟨rfl, rfl, rfl, rfl, rfl, rfl, rfl, trivial⟩, fun H' _ h => C109_7 [0, 1, 2, 3, 4, 5, 6] ⟨⟨_, _, h.1⟩, ⟨_, _, h.2.1⟩, ⟨_, _, h.2.2.1⟩, ⟨_, _, h.2.2.2.1⟩, ⟨_, _, h.2.2.2.2.1⟩, ⟨_, _, h.2.2.2.2.2.1⟩, ⟨_, _, h.2.2.2.2.2.2.1⟩, trivial⟩, rfl⟩
theorem C64_x {H : Heap} (ids : List Nat) (h : InsA H (sgR 0 ids) ids [[sL 4 2 2, sL 5 2 2], [nI 0], jz0, [sL 6 1 1], [nI 0, nI 4], [nI 4, nI 0], [nI 2]]) : KCall prog 64 (jz14.map (rn (sgR 0 ids) 3)) H [] (Is (.bool false) H) :=
  valRA (css := [[sL 4 2 2, sL 5 2 2], [nI 0], jz0, [sL 6 1 1], [nI 0, nI 4], [nI 4, nI 0], [nI 2]]) (Eq.mpr (E64_x _) P64_x) rfl ids h.len h.get
def R64_y (sp : Value) : Prop :=
  (((someR jzb) ∧ (someR jz4) ∧ (someR jz6) ∧ (someR jzt) ∧ (someR jz2) ∧ (someR jz3) ∧ (someR (.cells false 0 [nI 2, nI 0] : KObj)) ∧ True) ∧ (∀ H' : Heap, H'.length = 9 → (H'[0]? = some jzb ∧ H'[1]? = some jz4 ∧ H'[2]? = some jz6 ∧ H'[3]? = some jzt ∧ H'[4]? = some jz2 ∧ H'[5]? = some jz3 ∧ H'[6]? = some (.cells false 0 [nI 2, nI 0] : KObj) ∧ True) → KCall prog 109 jz1 H' [] (Is jz1k H')) ∧ jz1t = sp)
theorem E64_y (sp : Value) : vF prog msk (dm 0) 100000 true 40 true 64 jz7 jz21 (some [])
  (.go 6 (.ans [jzi, jzd, jze, jz1o, jzl, jzm, (6, .cells false 0 [nI 2, nI 0])] jz1k [] (.auto)))
  (fun v _ _ => v = sp) = R64_y sp := by kernel_rfl
theorem P64_y : R64_y (.bool false) := ⟨⟨rfl, rfl, rfl, rfl, rfl, rfl, rfl, trivial⟩, fun H' _ h => C109_e [0, 1, 2, 3, 4, 5, 6] ⟨⟨_, _, h.1⟩, ⟨_, _, h.2.1⟩, ⟨_, _, h.2.2.1⟩, ⟨_, _, h.2.2.2.1⟩, ⟨_, _, h.2.2.2.2.1⟩, ⟨_, _, h.2.2.2.2.2.1⟩, ⟨_, _, h.2.2.2.2.2.2.1⟩, trivial⟩, rfl⟩
theorem C64_y {H : Heap} (ids : List Nat) (h : InsA H (sgR 0 ids) ids [[sL 4 2 2, sL 5 2 2], [nI 0], jz0, [sL 6 2 2], [nI 0, nI 4], [nI 4, nI 0], [nI 2, nI 0]]) : KCall prog 64 (jz14.map (rn (sgR 0 ids) 3)) H [] (Is (.bool false) H) :=
  valRA (css := [[sL 4 2 2, sL 5 2 2], [nI 0], jz0, [sL 6 2 2], [nI 0, nI 4], [nI 4, nI 0], [nI 2, nI 0]]) (Eq.mpr (E64_y _) P64_y) rfl ids h.len h.get
def R64_s (sp : Value) : Prop :=
  (((someR jzb) ∧ (someR jz4) ∧ (someR jz6) ∧ (someR jz12) ∧ (someR jz2) ∧ (someR jz3) ∧ (someR (.cells false 0 jzy : KObj)) ∧ True) ∧ (∀ H' : Heap, H'.length = 9 → (H'[0]? = some jzb ∧ H'[1]? = some jz4 ∧ H'[2]? = some jz6 ∧ H'[3]? = some jz12 ∧ H'[4]? = some jz2 ∧ H'[5]? = some jz3 ∧ H'[6]? = some (.cells false 0 jzy : KObj) ∧ True) → KCall prog 109 jz1 H' [] (Is jz1l H')) ∧ jz23 = sp)
theorem E64_s (sp : Value) : vF prog msk (dm 0) 100000 true 40 true 64 jz7 jz2h (some [])
  (.go 6 (.ans [jzi, jzd, jze, jz2k, jzl, jzm, (6, .cells false 0 jzy)] jz1l [] (.auto)))
  (fun v _ _ => v = sp) = R64_s sp := by kernel_rfl
theorem P64_s : R64_s (.bool true) := ⟨⟨rfl, rfl, rfl, rfl, rfl, rfl, rfl, trivial⟩, fun H' _ h => C109_b [0, 1, 2, 3, 4, 5, 6] ⟨⟨_, _, h.1⟩, ⟨_, _, h.2.1⟩, ⟨_, _, h.2.2.1⟩, ⟨_, _, h.2.2.2.1⟩, ⟨_, _, h.2.2.2.2.1⟩, ⟨_, _, h.2.2.2.2.2.1⟩, ⟨_, _, h.2.2.2.2.2.2.1⟩, trivial⟩, rfl⟩
theorem C64_s {H : Heap} (ids : List Nat) (h : InsA H (sgR 0 ids) ids [[sL 4 2 2, sL 5 2 2], [nI 0], jz0, [sL 6 3 3], [nI 0, nI 4], [nI 4, nI 0], jzy]) : KCall prog 64 (jz14.map (rn (sgR 0 ids) 3)) H [] (Is (.bool true) H) :=
  valRA (css := [[sL 4 2 2, sL 5 2 2], [nI 0], jz0, [sL 6 3 3], [nI 0, nI 4], [nI 4, nI 0], jzy]) (Eq.mpr (E64_s _) P64_s) rfl ids h.len h.get
def R64_o (sp : Value) : Prop :=
  (((someR jzb) ∧ (someR jz4) ∧ (someR jz6) ∧ (someR jzt) ∧ (someR jz2) ∧ (someR jz3) ∧ (someR (.cells false 0 [nI 2, nI 1] : KObj)) ∧ True) ∧ (∀ H' : Heap, H'.length = 9 → (H'[0]? = some jzb ∧ H'[1]? = some jz4 ∧ H'[2]? = some jz6 ∧ H'[3]? = some jzt ∧ H'[4]? = some jz2 ∧ H'[5]? = some jz3 ∧ H'[6]? = some (.cells false 0 [nI 2, nI 1] : KObj) ∧ True) → KCall prog 109 jz1 H' [] (Is jz1m H')) ∧ jz1t = sp)
theorem E64_o (sp : Value) : vF prog msk (dm 0) 100000 true 40 true 64 jz7 jz22 (some [])
  (.go 6 (.ans [jzi, jzd, jze, jz1o, jzl, jzm, (6, .cells false 0 [nI 2, nI 1])] jz1m [] (.auto)))
  (fun v _ _ => v = sp) = R64_o sp := by kernel_rfl
theorem P64_o : R64_o (.bool false) := ⟨⟨rfl, rfl, rfl, rfl, rfl, rfl, rfl, trivial⟩, fun H' _ h => C109_8 [0, 1, 2, 3, 4, 5, 6] ⟨⟨_, _, h.1⟩, ⟨_, _, h.2.1⟩, ⟨_, _, h.2.2.1⟩, ⟨_, _, h.2.2.2.1⟩, ⟨_, _, h.2.2.2.2.1⟩, ⟨_, _, h.2.2.2.2.2.1⟩, ⟨_, _, h.2.2.2.2.2.2.1⟩, trivial⟩, rfl⟩
theorem C64_o {H : Heap} (ids : List Nat) (h : InsA H (sgR 0 ids) ids [[sL 4 2 2, sL 5 2 2], [nI 0], jz0, [sL 6 2 2], [nI 0, nI 4], [nI 4, nI 0], [nI 2, nI 1]]) : KCall prog 64 (jz14.map (rn (sgR 0 ids) 3)) H [] (Is (.bool false) H) :=
  valRA (css := [[sL 4 2 2, sL 5 2 2], [nI 0], jz0, [sL 6 2 2], [nI 0, nI 4], [nI 4, nI 0], [nI 2, nI 1]]) (Eq.mpr (E64_o _) P64_o) rfl ids h.len h.get
def R64_p (sp : Value) : Prop :=
  (((someR jzb) ∧ (someR jz4) ∧ (someR jz6) ∧ (someR jz12) ∧ (someR jz2) ∧ (someR jz3) ∧ (someR (.cells false 0 jzz : KObj)) ∧ True) ∧ (∀ H' : Heap, H'.length = 9 → (H'[0]? = some jzb ∧ H'[1]? = some jz4 ∧ H'[2]? = some jz6 ∧ H'[3]? = some jz12 ∧ H'[4]? = some jz2 ∧ H'[5]? = some jz3 ∧ H'[6]? = some (.cells false 0 jzz : KObj) ∧ True) → KCall prog 109 jz1 H' [] (Is jz1n H')) ∧ jz23 = sp)
theorem E64_p (sp : Value) : vF prog msk (dm 0) 100000 true 40 true 64 jz7 jz2i (some [])
  (.go 6 (.ans [jzi, jzd, jze, jz2k, jzl, jzm, (6, .cells false 0 jzz)] jz1n [] jzo))
  (fun v _ _ => v = sp) = R64_p sp := by kernel_rfl
theorem P64_p : R64_p (.bool true) := ⟨⟨rfl, rfl, rfl, rfl, rfl, rfl, rfl, trivial⟩, fun H' _ h => C109_f [0, 1, 2, 3, 4, 5, 6] ⟨⟨_, _, h.1⟩, ⟨_, _, h.2.1⟩, ⟨_, _, h.2.2.1⟩, ⟨_, _, h.2.2.2.1⟩, ⟨_, _, h.2.2.2.2.1⟩, ⟨_, _, h.2.2.2.2.2.1⟩, ⟨_, _, h.2.2.2.2.2.2.1⟩, trivial⟩, rfl⟩
theorem C64_p {H : Heap} (ids : List Nat) (h : InsA H (sgR 0 ids) ids [[sL 4 2 2, sL 5 2 2], [nI 0], jz0, [sL 6 3 3], [nI 0, nI 4], [nI 4, nI 0], jzz]) : KCall prog 64 (jz14.map (rn (sgR 0 ids) 3)) H [] (Is (.bool true) H) :=
  valRA (css := [[sL 4 2 2, sL 5 2 2], [nI 0], jz0, [sL 6 3 3], [nI 0, nI 4], [nI 4, nI 0], jzz]) (Eq.mpr (E64_p _) P64_p) rfl ids h.len h.get
end
end Go.Proofs.YthdekmpkioikdaaGreat
/- Closed calls of the chapter's examples. Printed by a program. No condition. -/
namespace Go.Proofs.YthdekmpkioikdaaGreat
set_option linter.unusedSimpArgs false
open Go Go.K
set_option maxRecDepth 1000000
set_option maxHeartbeats 4000000
set_option linter.unusedVariables false
noncomputable section
attribute [local irreducible] vF
def R18_h : Prop :=
  (jzu ∧ (∀ H' : Heap, H'.length = 13 → (jzr H') → KCall prog 30 jzj H' [] (Is (nI 0) H')) ∧ (jzu ∧ (∀ H' : Heap, H'.length = 10 → (jzr H') → KCall prog 62 jz10 H' [] (Is (.tuple #[sL 10 1 1, nI 32, .bool true]) (H' ++ [(.cells true 1 [sL 11 3 3] : KObj), jzw]))) ∧ (jz1s ∧ (∀ H' : Heap, H'.length = 15 → (H'[0]? = some jz5 ∧ H'[1]? = some jz4 ∧ H'[2]? = some jz6 ∧ H'[14]? = some (.cells true 1 jz13 : KObj) ∧ H'[3]? = some jz2 ∧ H'[4]? = some jz3 ∧ True) → KCall prog 64 [.agg #[nI 1, nI 0, nI 1, nI 1, nI 1], .agg #[sL 0 2 2, sL 1 1 1], sL 2 3 3, sL 14 1 1, nI 32] H' [] (jz2r H')) ∧ (((someR jz5) ∧ (someR jz4) ∧ (someR jz6) ∧ (someR (.cells true 1 [sL 21 1 1] : KObj)) ∧ jz3b) ∧ (∀ H' : Heap, H'.length = 22 → (H'[0]? = some jz5 ∧ H'[1]? = some jz4 ∧ H'[2]? = some jz6 ∧ H'[19]? = some (.cells true 1 [sL 21 1 1] : KObj) ∧ H'[3]? = some jz2 ∧ H'[4]? = some jz3 ∧ H'[21]? = some jzv ∧ True) → KCall prog 64 [.agg #[nI 1, nI 0, nI 1, nI 1, nI 1], .agg #[sL 0 2 2, sL 1 1 1], sL 2 3 3, sL 19 1 1, nI 32] H' [] (jz2r H')) ∧ (((someR jz5) ∧ (someR jz4) ∧ (someR jz6) ∧ (someR (.cells true 1 [sL 31 2 2] : KObj)) ∧ jz16) ∧ (∀ H' : Heap, H'.length = 32 → (H'[0]? = some jz5 ∧ H'[1]? = some jz4 ∧ H'[2]? = some jz6 ∧ H'[27]? = some (.cells true 1 [sL 31 2 2] : KObj) ∧ H'[3]? = some jz2 ∧ H'[4]? = some jz3 ∧ H'[31]? = some jz2y ∧ True) → KCall prog 64 [.agg #[nI 1, nI 0, nI 1, nI 1, nI 1], .agg #[sL 0 2 2, sL 1 1 1], sL 2 3 3, sL 27 1 1, nI 32] H' [] (jz1v H')) ∧ (((someR jz5) ∧ (someR jz4) ∧ (someR jz6) ∧ (someR (.cells true 1 [sL 40 2 2] : KObj)) ∧ jz17) ∧ (∀ H' : Heap, H'.length = 41 → (H'[0]? = some jz5 ∧ H'[1]? = some jz4 ∧ H'[2]? = some jz6 ∧ H'[36]? = some (.cells true 1 [sL 40 2 2] : KObj) ∧ H'[3]? = some jz2 ∧ H'[4]? = some jz3 ∧ H'[40]? = some jz2z ∧ True) → KCall prog 64 [.agg #[nI 1, nI 0, nI 1, nI 1, nI 1], .agg #[sL 0 2 2, sL 1 1 1], sL 2 3 3, sL 36 1 1, nI 32] H' [] (jz1v H')) ∧ (((someR jz5) ∧ (someR jz4) ∧ (someR jz6) ∧ (someR (.cells true 1 [sL 47 1 1] : KObj)) ∧ jz35) ∧ (∀ H' : Heap, H'.length = 48 → (H'[0]? = some jz5 ∧ H'[1]? = some jz4 ∧ H'[2]? = some jz6 ∧ H'[45]? = some (.cells true 1 [sL 47 1 1] : KObj) ∧ H'[3]? = some jz2 ∧ H'[4]? = some jz3 ∧ H'[47]? = some jz2m ∧ True) → KCall prog 64 [.agg #[nI 1, nI 0, nI 1, nI 1, nI 1], .agg #[sL 0 2 2, sL 1 1 1], sL 2 3 3, sL 45 1 1, nI 32] H' [] (jz2r H')) ∧ (((someR jz5) ∧ (someR jz4) ∧ (someR jz6) ∧ (someR (.cells true 1 [sL 56 2 2] : KObj)) ∧ jz36) ∧ (∀ H' : Heap, H'.length = 57 → (H'[0]? = some jz5 ∧ H'[1]? = some jz4 ∧ H'[2]? = some jz6 ∧ H'[52]? = some (.cells true 1 [sL 56 2 2] : KObj) ∧ H'[3]? = some jz2 ∧ H'[4]? = some jz3 ∧ H'[56]? = some jz25 ∧ True) → KCall prog 64 [.agg #[nI 1, nI 0, nI 1, nI 1, nI 1], .agg #[sL 0 2 2, sL 1 1 1], sL 2 3 3, sL 52 1 1, nI 32] H' [] (jz2r H')) ∧ (((someR jz5) ∧ (someR jz4) ∧ (someR jz6) ∧ (someR (.cells true 1 [sL 67 3 3] : KObj)) ∧ jz24) ∧ (∀ H' : Heap, H'.length = 68 → (H'[0]? = some jz5 ∧ H'[1]? = some jz4 ∧ H'[2]? = some jz6 ∧ H'[63]? = some (.cells true 1 [sL 67 3 3] : KObj) ∧ H'[3]? = some jz2 ∧ H'[4]? = some jz3 ∧ H'[67]? = some jzw ∧ True) → KCall prog 64 [.agg #[nI 1, nI 0, nI 1, nI 1, nI 1], .agg #[sL 0 2 2, sL 1 1 1], sL 2 3 3, sL 63 1 1, nI 32] H' [] (jz1v H')) ∧ (((someR jz5) ∧ (someR jz4) ∧ (someR jz6) ∧ (someR (.cells true 1 [sL 77 2 2] : KObj)) ∧ jz37) ∧ (∀ H' : Heap, H'.length = 78 → (H'[0]? = some jz5 ∧ H'[1]? = some jz4 ∧ H'[2]? = some jz6 ∧ H'[73]? = some (.cells true 1 [sL 77 2 2] : KObj) ∧ H'[3]? = some jz2 ∧ H'[4]? = some jz3 ∧ H'[77]? = some jz26 ∧ True) → KCall prog 64 [.agg #[nI 1, nI 0, nI 1, nI 1, nI 1], .agg #[sL 0 2 2, sL 1 1 1], sL 2 3 3, sL 73 1 1, nI 32] H' [] (jz2r H')) ∧ (((someR jz5) ∧ (someR jz4) ∧ (someR jz6) ∧ (someR (.cells true 1 [sL 86 3 3] : KObj)) ∧ jz1a) ∧ (∀ H' : Heap, H'.length = 87 → (H'[0]? = some jz5 ∧ H'[1]? = some jz4 ∧ H'[2]? = some jz6 ∧ H'[82]? = some (.cells true 1 [sL 86 3 3] : KObj) ∧ H'[3]? = some jz2 ∧ H'[4]? = some jz3 ∧ H'[86]? = some (.cells true 1 jzx : KObj) ∧ True) → KCall prog 64 [.agg #[nI 1, nI 0, nI 1, nI 1, nI 1], .agg #[sL 0 2 2, sL 1 1 1], sL 2 3 3, sL 82 1 1, nI 32] H' [] (jz1v H')) ∧ (((someR jz5) ∧ (someR jz4) ∧ (someR jz6) ∧ (someR (.cells true 1 [sL 95 1 1] : KObj)) ∧ jz38) ∧ (∀ H' : Heap, H'.length = 96 → (H'[0]? = some jz5 ∧ H'[1]? = some jz4 ∧ H'[2]? = some jz6 ∧ H'[93]? = some (.cells true 1 [sL 95 1 1] : KObj) ∧ H'[3]? = some jz2 ∧ H'[4]? = some jz3 ∧ H'[95]? = some jz2n ∧ True) → KCall prog 64 [.agg #[nI 1, nI 0, nI 1, nI 1, nI 1], .agg #[sL 0 2 2, sL 1 1 1], sL 2 3 3, sL 93 1 1, nI 32] H' [] (jz2r H')) ∧ (((someR jz5) ∧ (someR jz4) ∧ (someR jz6) ∧ (someR (.cells true 1 [sL 104 2 2] : KObj)) ∧ jz39) ∧ (∀ H' : Heap, H'.length = 105 → (H'[0]? = some jz5 ∧ H'[1]? = some jz4 ∧ H'[2]? = some jz6 ∧ H'[100]? = some (.cells true 1 [sL 104 2 2] : KObj) ∧ H'[3]? = some jz2 ∧ H'[4]? = some jz3 ∧ H'[104]? = some jz27 ∧ True) → KCall prog 64 [.agg #[nI 1, nI 0, nI 1, nI 1, nI 1], .agg #[sL 0 2 2, sL 1 1 1], sL 2 3 3, sL 100 1 1, nI 32] H' [] (jz2r H')) ∧ (((someR jz5) ∧ (someR jz4) ∧ (someR jz6) ∧ (someR (.cells true 1 [sL 114 3 3] : KObj)) ∧ jz1b) ∧ (∀ H' : Heap, H'.length = 115 → (H'[0]? = some jz5 ∧ H'[1]? = some jz4 ∧ H'[2]? = some jz6 ∧ H'[110]? = some (.cells true 1 [sL 114 3 3] : KObj) ∧ H'[3]? = some jz2 ∧ H'[4]? = some jz3 ∧ H'[114]? = some (.cells true 1 jzy : KObj) ∧ True) → KCall prog 64 [.agg #[nI 1, nI 0, nI 1, nI 1, nI 1], .agg #[sL 0 2 2, sL 1 1 1], sL 2 3 3, sL 110 1 1, nI 32] H' [] (jz1v H')) ∧ (((someR jz5) ∧ (someR jz4) ∧ (someR jz6) ∧ (someR (.cells true 1 [sL 124 2 2] : KObj)) ∧ jz3a) ∧ (∀ H' : Heap, H'.length = 125 → (H'[0]? = some jz5 ∧ H'[1]? = some jz4 ∧ H'[2]? = some jz6 ∧ H'[120]? = some (.cells true 1 [sL 124 2 2] : KObj) ∧ H'[3]? = some jz2 ∧ H'[4]? = some jz3 ∧ H'[124]? = some jz28 ∧ True) → KCall prog 64 [.agg #[nI 1, nI 0, nI 1, nI 1, nI 1], .agg #[sL 0 2 2, sL 1 1 1], sL 2 3 3, sL 120 1 1, nI 32] H' [] (jz2r H')) ∧ (((someR jz5) ∧ (someR jz4) ∧ (someR jz6) ∧ (someR (.cells true 1 [sL 133 3 3] : KObj)) ∧ jz1c) ∧ (∀ H' : Heap, H'.length = 134 → (H'[0]? = some jz5 ∧ H'[1]? = some jz4 ∧ H'[2]? = some jz6 ∧ H'[129]? = some (.cells true 1 [sL 133 3 3] : KObj) ∧ H'[3]? = some jz2 ∧ H'[4]? = some jz3 ∧ H'[133]? = some (.cells true 1 jzz : KObj) ∧ True) → KCall prog 64 [.agg #[nI 1, nI 0, nI 1, nI 1, nI 1], .agg #[sL 0 2 2, sL 1 1 1], sL 2 3 3, sL 129 1 1, nI 32] H' [] (jz1v H')) ∧ (true = true ∧ wk (.tuple #[sL 135 14 14, nI 0] : Value) (rn (sg 5 [(5, 135)]) 3 (.tuple #[sL 5 14 14, nI 0] : Value)) ∧ (wkO jz2e (rno (sg 5 [(5, 135)]) 3 jz2e) ∧ True))))))))))))))))))
theorem E18_h : vF prog msk (dm 0) 100000 true 40 true 18 jz2j jzk (some [])
  (.go 23 (.ans [jzc, jzd, jze, jzf, jzg] (nI 0) [] (.go 38 (.ans [jzc, jzd, jze, jzf, jzg] (.tuple #[sL 10 1 1, nI 32, .bool true]) [.cells true 1 [sL 11 3 3], .cells true 1 jzq] (.go 22 (.into (some (List.range' 5 10)) (.go 5 (.ans [jzc, jzd, jze, (14, .cells true 1 jz13), jzf, jzg] (.bool false) [] (.go 10 (.into (some (List.range' 5 12)) (.go 93 (.into (some (List.range' 5 17)) (.go 5 (.ans [jzc, jzd, jze, (19, .cells true 1 [sL 21 1 1]), jzf, jzg, (21, .cells true 1 [nI 0])] (.bool false) [] (.go 10 (.into (some (List.range' 5 19)) (.go 171 (.into (some (List.range' 5 27)) (.go 5 (.ans [jzc, jzd, jze, (27, .cells true 1 [sL 31 2 2]), jzf, jzg, (31, .cells true 1 [nI 0, nI 1])] (.bool true) [] (.go 123 (.into (some (List.range' 5 36)) (.go 5 (.ans [jzc, jzd, jze, (36, .cells true 1 [sL 40 2 2]), jzf, jzg, (40, .cells true 1 [nI 0, nI 2])] (.bool true) [] (.go 120 (.into (some (List.range' 5 43)) (.go 5 (.ans [jzc, jzd, jze, (45, .cells true 1 [sL 47 1 1]), jzf, jzg, (47, .cells true 1 [nI 1])] (.bool false) [] (.go 10 (.into (some (List.range' 5 45)) (.go 109 (.into (some (List.range' 5 52)) (.go 5 (.ans [jzc, jzd, jze, (52, .cells true 1 [sL 56 2 2]), jzf, jzg, (56, .cells true 1 [nI 1, nI 0])] (.bool false) [] (.go 10 (.into (some (List.range' 5 54)) (.go 259 (.into (some (List.range' 5 63)) (.go 5 (.ans [jzc, jzd, jze, (63, .cells true 1 [sL 67 3 3]), jzf, jzg, (67, .cells true 1 jzq)] (.bool true) [] (.go 198 (.into (some (List.range' 5 73)) (.go 5 (.ans [jzc, jzd, jze, (73, .cells true 1 [sL 77 2 2]), jzf, jzg, (77, .cells true 1 [nI 1, nI 2])] (.bool false) [] (.go 10 (.into (some (List.range' 5 75)) (.go 122 (.into (some (List.range' 5 82)) (.go 5 (.ans [jzc, jzd, jze, (82, .cells true 1 [sL 86 3 3]), jzf, jzg, (86, .cells true 1 jzx)] (.bool true) [] (.go 270 (.into (some (List.range' 5 91)) (.go 5 (.ans [jzc, jzd, jze, (93, .cells true 1 [sL 95 1 1]), jzf, jzg, (95, .cells true 1 [nI 2])] (.bool false) [] (.go 10 (.into (some (List.range' 5 93)) (.go 109 (.into jz2d (.go 5 (.ans [jzc, jzd, jze, (100, .cells true 1 [sL 104 2 2]), jzf, jzg, (104, .cells true 1 [nI 2, nI 0])] (.bool false) [] (.go 10 (.into (some (List.range' 5 102)) (.go 197 (.into (some (List.range' 5 110)) (.go 5 (.ans [jzc, jzd, jze, (110, .cells true 1 [sL 114 3 3]), jzf, jzg, (114, .cells true 1 jzy)] (.bool true) [] (.go 198 (.into (some (List.range' 5 120)) (.go 5 (.ans [jzc, jzd, jze, (120, .cells true 1 [sL 124 2 2]), jzf, jzg, (124, .cells true 1 [nI 2, nI 1])] (.bool false) [] (.go 10 (.into (some (List.range' 5 122)) (.go 122 (.into (some (List.range' 5 129)) (.go 5 (.ans [jzc, jzd, jze, (129, .cells true 1 [sL 133 3 3]), jzf, jzg, (133, .cells true 1 jzz)] (.bool true) [] (.go 250 (.again [(5, 135)]))))))))))))))))))))))))))))))))))))))))))))))))))))))))))))))))))))))))))))))
  (newK jzk.n 3 (.tuple #[sL 5 14 14, nI 0]) [(false, .cells true 1 jza)]) = R18_h := by kernel_rfl
theorem P18_h : R18_h := ⟨⟨rfl, rfl, rfl, rfl, rfl, trivial⟩, fun H' _ h => C30_k [0, 1, 2, 3, 4] ⟨⟨_, _, h.1⟩, ⟨_, _, h.2.1⟩, ⟨_, _, h.2.2.1⟩, ⟨_, _, h.2.2.2.1⟩, ⟨_, _, h.2.2.2.2.1⟩, trivial⟩, ⟨⟨rfl, rfl, rfl, rfl, rfl, trivial⟩, fun H' hl h => (by have k := C62_n (H := H') [0, 1, 2, 3, 4] ⟨⟨_, _, h.1⟩, ⟨_, _, h.2.1⟩, ⟨_, _, h.2.2.1⟩, ⟨_, _, h.2.2.2.1⟩, ⟨_, _, h.2.2.2.2.1⟩, trivial⟩; rw [hl] at k; exact k), ⟨⟨rfl, rfl, rfl, rfl, rfl, rfl, trivial⟩, fun H' _ h => C64_r [0, 1, 2, 14, 3, 4] ⟨⟨_, _, h.1⟩, ⟨_, _, h.2.1⟩, ⟨_, _, h.2.2.1⟩, ⟨_, _, h.2.2.2.1⟩, ⟨_, _, h.2.2.2.2.1⟩, ⟨_, _, h.2.2.2.2.2.1⟩, trivial⟩, ⟨⟨rfl, rfl, rfl, rfl, rfl, rfl, rfl, trivial⟩, fun H' _ h => C64_u [0, 1, 2, 19, 3, 4, 21] ⟨⟨_, _, h.1⟩, ⟨_, _, h.2.1⟩, ⟨_, _, h.2.2.1⟩, ⟨_, _, h.2.2.2.1⟩, ⟨_, _, h.2.2.2.2.1⟩, ⟨_, _, h.2.2.2.2.2.1⟩, ⟨_, _, h.2.2.2.2.2.2.1⟩, trivial⟩, ⟨⟨rfl, rfl, rfl, rfl, rfl, rfl, rfl, trivial⟩, fun H' _ h => C64_w [0, 1, 2, 27, 3, 4, 31] ⟨⟨_, _, h.1⟩, ⟨_, _, h.2.1⟩, ⟨_, _, h.2.2.1⟩, ⟨_, _, h.2.2.2.1⟩, ⟨_, _, h.2.2.2.2.1⟩, ⟨_, _, h.2.2.2.2.2.1⟩, ⟨_, _, h.2.2.2.2.2.2.1⟩, trivial⟩, ⟨⟨rfl, rfl, rfl, rfl, rfl, rfl, rfl, trivial⟩, fun H' _ h => C64_10 [0, 1, 2, 36, 3, 4, 40] ⟨⟨_, _, h.1⟩, ⟨_, _, h.2.1⟩, ⟨_, _, h.2.2.1⟩, ⟨_, _, h.2.2.2.1⟩, ⟨_, _, h.2.2.2.2.1⟩, ⟨_, _, h.2.2.2.2.2.1⟩, ⟨_, _, h.2.2.2.2.2.2.1⟩, trivial⟩, ⟨⟨rfl, rfl, rfl, rfl, rfl, rfl, rfl, trivial⟩, fun H' _ h => C64_v [0, 1, 2, 45, 3, 4, 47] ⟨⟨_, _, h.1⟩, ⟨_, _, h.2.1⟩, ⟨_, _, h.2.2.1⟩, ⟨_, _, h.2.2.2.1⟩, ⟨_, _, h.2.2.2.2.1⟩, ⟨_, _, h.2.2.2.2.2.1⟩, ⟨_, _, h.2.2.2.2.2.2.1⟩, trivial⟩, ⟨⟨rfl, rfl, rfl, rfl, rfl, rfl, rfl, trivial⟩, fun H' _ h => C64_11 [0, 1, 2, 52, 3, 4, 56] ⟨⟨_, _, h.1⟩, ⟨_, _, h.2.1⟩, ⟨_, _, h.2.2.1⟩, ⟨_, _, h.2.2.2.1⟩, ⟨_, _, h.2.2.2.2.1⟩, ⟨_, _, h.2.2.2.2.2.1⟩, ⟨_, _, h.2.2.2.2.2.2.1⟩, trivial⟩, ⟨⟨rfl, rfl, rfl, rfl, rfl, rfl, rfl, trivial⟩, fun H' _ h => C64_q [0, 1, 2, 63, 3, 4, 67] ⟨⟨_, _, h.1⟩, ⟨_, _, h.2.1⟩, ⟨_, _, h.2.2.1⟩, ⟨_, _, h.2.2.2.1⟩, ⟨_, _, h.2.2.2.2.1⟩, ⟨_, _, h.2.2.2.2.2.1⟩, ⟨_, _, h.2.2.2.2.2.2.1⟩, trivial⟩, ⟨⟨rfl, rfl, rfl, rfl, rfl, rfl, rfl, trivial⟩, fun H' _ h => C64_z [0, 1, 2, 73, 3, 4, 77] ⟨⟨_, _, h.1⟩, ⟨_, _, h.2.1⟩, ⟨_, _, h.2.2.1⟩, ⟨_, _, h.2.2.2.1⟩, ⟨_, _, h.2.2.2.2.1⟩, ⟨_, _, h.2.2.2.2.2.1⟩, ⟨_, _, h.2.2.2.2.2.2.1⟩, trivial⟩, ⟨⟨rfl, rfl, rfl, rfl, rfl, rfl, rfl, trivial⟩, fun H' _ h => C64_t [0, 1, 2, 82, 3, 4, 86] ⟨⟨_, _, h.1⟩, ⟨_, _, h.2.1⟩, ⟨_, _, h.2.2.1⟩, ⟨_, _, h.2.2.2.1⟩, ⟨_, _, h.2.2.2.2.1⟩, ⟨_, _, h.2.2.2.2.2.1⟩, ⟨_, _, h.2.2.2.2.2.2.1⟩, trivial⟩, ⟨⟨rfl, rfl, rfl, rfl, rfl, rfl, rfl, trivial⟩, fun H' _ h => C64_x [0, 1, 2, 93, 3, 4, 95] ⟨⟨_, _, h.1⟩, ⟨_, _, h.2.1⟩, ⟨_, _, h.2.2.1⟩, ⟨_, _, h.2.2.2.1⟩, ⟨_, _, h.2.2.2.2.1⟩, ⟨_, _, h.2.2.2.2.2.1⟩, ⟨_, _, h.2.2.2.2.2.2.1⟩, trivial⟩, ⟨⟨rfl, rfl, rfl, rfl, rfl, rfl, rfl, trivial⟩, fun H' _ h => C64_y [0, 1, 2, 100, 3, 4, 104] ⟨⟨_, _, h.1⟩, ⟨_, _, h.2.1⟩, ⟨_, _, h.2.2.1⟩, ⟨_, _, h.2.2.2.1⟩, ⟨_, _, h.2.2.2.2.1⟩, ⟨_, _, h.2.2.2.2.2.1⟩, ⟨_, _, h.2.2.2.2.2.2.1⟩, trivial⟩, ⟨⟨rfl, rfl, rfl, rfl, rfl, rfl, rfl, trivial⟩, fun H' _ h => C64_s [0, 1, 2, 110, 3, 4, 114] ⟨⟨_, _, h.1⟩, ⟨_, _, h.2.1⟩, ⟨_, _, h.2.2.1⟩, ⟨_, _, h.2.2.2.1⟩, ⟨_, _, h.2.2.2.2.1⟩, ⟨_, _, h.2.2.2.2.2.1⟩, ⟨_, _, h.2.2.2.2.2.2.1⟩, trivial⟩, ⟨⟨rfl, rfl, rfl, rfl, rfl, rfl, rfl, trivial⟩, fun H' _ h => C64_o [0, 1, 2, 120, 3, 4, 124] ⟨⟨_, _, h.1⟩, ⟨_, _, h.2.1⟩, ⟨_, _, h.2.2.1⟩, ⟨_, _, h.2.2.2.1⟩, ⟨_, _, h.2.2.2.2.1⟩, ⟨_, _, h.2.2.2.2.2.1⟩, ⟨_, _, h.2.2.2.2.2.2.1⟩, trivial⟩, ⟨⟨rfl, rfl, rfl, rfl, rfl, rfl, rfl, trivial⟩, fun H' _ h => C64_p [0, 1, 2, 129, 3, 4, 133] ⟨⟨_, _, h.1⟩, ⟨_, _, h.2.1⟩, ⟨_, _, h.2.2.1⟩, ⟨_, _, h.2.2.2.1⟩, ⟨_, _, h.2.2.2.2.1⟩, ⟨_, _, h.2.2.2.2.2.1⟩, ⟨_, _, h.2.2.2.2.2.2.1⟩, trivial⟩, ⟨rfl, wk_of_eq rfl, wkO_of_eq rfl, trivial⟩⟩⟩⟩⟩⟩⟩⟩⟩⟩⟩⟩⟩⟩⟩⟩⟩
theorem C18_h {H : Heap} (ids : List Nat) (h : InsA H (sgR 0 ids) ids [[sL 3 2 2, sL 4 2 2], [nI 0], jz0, [nI 0, nI 4], [nI 4, nI 0]]) : KCall prog 18 ((jz2j : List Value).map (rn (sgR 0 ids) 3)) H [] (Is (rn (sgUp 5 H.length) 3 (.tuple #[sL 5 14 14, nI 0])) (H ++ [rno (sgUp 5 H.length) 3 (.cells true 1 jza)])) :=
  valNA (css := [[sL 3 2 2, sL 4 2 2], [nI 0], jz0, [nI 0, nI 4], [nI 4, nI 0]]) (v := .tuple #[sL 5 14 14, nI 0]) (new := [(false, .cells true 1 jza)]) (Eq.mpr E18_h P18_h) rfl rfl rfl rfl ids h.len h.get
end
end Go.Proofs.YthdekmpkioikdaaGreat
/- Closed calls of the chapter's examples. Printed by a program. No condition. -/
namespace Go.Proofs.YthdekmpkioikdaaGreat
set_option linter.unusedSimpArgs false
open Go Go.K
set_option maxRecDepth 1000000
set_option maxHeartbeats 4000000
set_option linter.unusedVariables false
noncomputable section
attribute [local irreducible] vF
def R23_i (sp : Value) : Prop :=
  (((someR jzb) ∧ (someR jz4) ∧ (someR jz6) ∧ (someR jz2) ∧ (someR jz3) ∧ True) ∧ (∀ H' : Heap, H'.length = 15 → (H'[0]? = some jzb ∧ H'[1]? = some jz4 ∧ H'[2]? = some jz6 ∧ H'[4]? = some jz2 ∧ H'[5]? = some jz3 ∧ True) → KCall prog 30 jzj H' [] (Is (nI 0) H')) ∧ (((someR jzb) ∧ (someR jz4) ∧ (someR jz6) ∧ (someR (.cells true 1 [sL 27 2 2] : KObj)) ∧ jz16) ∧ (∀ H' : Heap, H'.length = 28 → (H'[0]? = some jzb ∧ H'[1]? = some jz4 ∧ H'[2]? = some jz6 ∧ H'[23]? = some (.cells true 1 [sL 27 2 2] : KObj) ∧ H'[4]? = some jz2 ∧ H'[5]? = some jz3 ∧ H'[27]? = some jz2y ∧ True) → KCall prog 64 [.agg #[nI 1, nI 0, nI 1, nI 1, nI 1], .agg #[sL 0 2 2, sL 1 1 1], sL 2 3 3, sL 23 1 1, nI 32] H' [] (jz1v H')) ∧ (((someR jzb) ∧ (someR jz4) ∧ (someR jz6) ∧ (someR (.cells true 1 [sL 34 2 2] : KObj)) ∧ jz17) ∧ (∀ H' : Heap, H'.length = 35 → (H'[0]? = some jzb ∧ H'[1]? = some jz4 ∧ H'[2]? = some jz6 ∧ H'[30]? = some (.cells true 1 [sL 34 2 2] : KObj) ∧ H'[4]? = some jz2 ∧ H'[5]? = some jz3 ∧ H'[34]? = some jz2z ∧ True) → KCall prog 64 [.agg #[nI 1, nI 0, nI 1, nI 1, nI 1], .agg #[sL 0 2 2, sL 1 1 1], sL 2 3 3, sL 30 1 1, nI 32] H' [] (jz1v H')) ∧ (((someR jzb) ∧ (someR jz4) ∧ (someR jz6) ∧ (someR (.cells true 1 [sL 55 3 3] : KObj)) ∧ jz24) ∧ (∀ H' : Heap, H'.length = 56 → (H'[0]? = some jzb ∧ H'[1]? = some jz4 ∧ H'[2]? = some jz6 ∧ H'[51]? = some (.cells true 1 [sL 55 3 3] : KObj) ∧ H'[4]? = some jz2 ∧ H'[5]? = some jz3 ∧ H'[55]? = some jzw ∧ True) → KCall prog 64 [.agg #[nI 1, nI 0, nI 1, nI 1, nI 1], .agg #[sL 0 2 2, sL 1 1 1], sL 2 3 3, sL 51 1 1, nI 32] H' [] (jz1v H')) ∧ (((someR jzb) ∧ (someR jz4) ∧ (someR jz6) ∧ (someR (.cells true 1 [sL 70 3 3] : KObj)) ∧ jz1a) ∧ (∀ H' : Heap, H'.length = 71 → (H'[0]? = some jzb ∧ H'[1]? = some jz4 ∧ H'[2]? = some jz6 ∧ H'[66]? = some (.cells true 1 [sL 70 3 3] : KObj) ∧ H'[4]? = some jz2 ∧ H'[5]? = some jz3 ∧ H'[70]? = some (.cells true 1 jzx : KObj) ∧ True) → KCall prog 64 [.agg #[nI 1, nI 0, nI 1, nI 1, nI 1], .agg #[sL 0 2 2, sL 1 1 1], sL 2 3 3, sL 66 1 1, nI 32] H' [] (jz1v H')) ∧ (((someR jzb) ∧ (someR jz4) ∧ (someR jz6) ∧ (someR (.cells true 1 [sL 92 3 3] : KObj)) ∧ jz1b) ∧ (∀ H' : Heap, H'.length = 93 → (H'[0]? = some jzb ∧ H'[1]? = some jz4 ∧ H'[2]? = some jz6 ∧ H'[88]? = some (.cells true 1 [sL 92 3 3] : KObj) ∧ H'[4]? = some jz2 ∧ H'[5]? = some jz3 ∧ H'[92]? = some (.cells true 1 jzy : KObj) ∧ True) → KCall prog 64 [.agg #[nI 1, nI 0, nI 1, nI 1, nI 1], .agg #[sL 0 2 2, sL 1 1 1], sL 2 3 3, sL 88 1 1, nI 32] H' [] (jz1v H')) ∧ (((someR jzb) ∧ (someR jz4) ∧ (someR jz6) ∧ (someR (.cells true 1 [sL 107 3 3] : KObj)) ∧ jz1c) ∧ (∀ H' : Heap, H'.length = 108 → (H'[0]? = some jzb ∧ H'[1]? = some jz4 ∧ H'[2]? = some jz6 ∧ H'[103]? = some (.cells true 1 [sL 107 3 3] : KObj) ∧ H'[4]? = some jz2 ∧ H'[5]? = some jz3 ∧ H'[107]? = some (.cells true 1 jzz : KObj) ∧ True) → KCall prog 64 [.agg #[nI 1, nI 0, nI 1, nI 1, nI 1], .agg #[sL 0 2 2, sL 1 1 1], sL 2 3 3, sL 103 1 1, nI 32] H' [] (jz1v H')) ∧ (.tuple #[.bool true, nI 0] : Value) = sp)))))))
theorem E23_i (sp : Value) : vF prog msk (dm 0) 100000 true 40 true 23 jz29 (readsT 0 [[sL 4 2 2, sL 5 2 2], [nI 0], jz0, jza, [nI 0, nI 4], [nI 4, nI 0]]) (some [])
  (.go 24 (.ans [jzi, jzd, jze, jzl, jzm] (nI 0) [] (.go 49 (.into (some (List.range' 6 9)) (.go 44 (.into (some (List.range' 6 9)) (.go 93 (.into jz1u (.go 44 (.into jz1u (.go 171 (.into (some (List.range' 6 22)) (.go 19 (.ans [jzi, jzd, jze, (23, .cells true 1 [sL 27 2 2]), jzl, jzm, (27, .cells true 1 [nI 0, nI 1])] (.bool true) [] (.go 114 (.into (some (List.range' 6 29)) (.go 19 (.ans [jzi, jzd, jze, (30, .cells true 1 [sL 34 2 2]), jzl, jzm, (34, .cells true 1 [nI 0, nI 2])] (.bool true) [] (.go 111 (.into (some (List.range' 6 34)) (.go 44 (.into (some (List.range' 6 34)) (.go 109 (.into (some (List.range' 6 41)) (.go 44 (.into (some (List.range' 6 41)) (.go 259 (.into (some (List.range' 6 50)) (.go 19 (.ans [jzi, jzd, jze, (51, .cells true 1 [sL 55 3 3]), jzl, jzm, (55, .cells true 1 jzq)] (.bool true) [] (.go 189 (.into (some (List.range' 6 58)) (.go 44 (.into (some (List.range' 6 58)) (.go 122 (.into (some (List.range' 6 65)) (.go 19 (.ans [jzi, jzd, jze, (66, .cells true 1 [sL 70 3 3]), jzl, jzm, (70, .cells true 1 jzx)] (.bool true) [] (.go 261 (.into (some (List.range' 6 72)) (.go 44 (.into (some (List.range' 6 72)) (.go 109 (.into (some (List.range' 6 79)) (.go 44 (.into (some (List.range' 6 79)) (.go 197 (.into (some (List.range' 6 87)) (.go 19 (.ans [jzi, jzd, jze, (88, .cells true 1 [sL 92 3 3]), jzl, jzm, (92, .cells true 1 jzy)] (.bool true) [] (.go 189 (.into (some (List.range' 6 95)) (.go 44 (.into (some (List.range' 6 95)) (.go 122 (.into (some (List.range' 6 102)) (.go 19 (.ans [jzi, jzd, jze, (103, .cells true 1 [sL 107 3 3]), jzl, jzm, (107, .cells true 1 jzz)] (.bool true) [] (.auto)))))))))))))))))))))))))))))))))))))))))))))))))))))))))))
  (fun v _ _ => v = sp) = R23_i sp := by kernel_rfl
theorem P23_i : R23_i jz2o := ⟨⟨rfl, rfl, rfl, rfl, rfl, trivial⟩, fun H' _ h => C30_k [0, 1, 2, 4, 5] ⟨⟨_, _, h.1⟩, ⟨_, _, h.2.1⟩, ⟨_, _, h.2.2.1⟩, ⟨_, _, h.2.2.2.1⟩, ⟨_, _, h.2.2.2.2.1⟩, trivial⟩, ⟨⟨rfl, rfl, rfl, rfl, rfl, rfl, rfl, trivial⟩, fun H' _ h => C64_w [0, 1, 2, 23, 4, 5, 27] ⟨⟨_, _, h.1⟩, ⟨_, _, h.2.1⟩, ⟨_, _, h.2.2.1⟩, ⟨_, _, h.2.2.2.1⟩, ⟨_, _, h.2.2.2.2.1⟩, ⟨_, _, h.2.2.2.2.2.1⟩, ⟨_, _, h.2.2.2.2.2.2.1⟩, trivial⟩, ⟨⟨rfl, rfl, rfl, rfl, rfl, rfl, rfl, trivial⟩, fun H' _ h => C64_10 [0, 1, 2, 30, 4, 5, 34] ⟨⟨_, _, h.1⟩, ⟨_, _, h.2.1⟩, ⟨_, _, h.2.2.1⟩, ⟨_, _, h.2.2.2.1⟩, ⟨_, _, h.2.2.2.2.1⟩, ⟨_, _, h.2.2.2.2.2.1⟩, ⟨_, _, h.2.2.2.2.2.2.1⟩, trivial⟩, ⟨⟨rfl, rfl, rfl, rfl, rfl, rfl, rfl, trivial⟩, fun H' _ h => C64_q [0, 1, 2, 51, 4, 5, 55] ⟨⟨_, _, h.1⟩, ⟨_, _, h.2.1⟩, ⟨_, _, h.2.2.1⟩, ⟨_, _, h.2.2.2.1⟩, ⟨_, _, h.2.2.2.2.1⟩, ⟨_, _, h.2.2.2.2.2.1⟩, ⟨_, _, h.2.2.2.2.2.2.1⟩, trivial⟩, ⟨⟨rfl, rfl, rfl, rfl, rfl, rfl, rfl, trivial⟩, fun H' _ h => C64_t [0, 1, 2, 66, 4, 5, 70] ⟨⟨_, _, h.1⟩, ⟨_, _, h.2.1⟩, ⟨_, _, h.2.2.1⟩, ⟨_, _, h.2.2.2.1⟩, ⟨_, _, h.2.2.2.2.1⟩, ⟨_, _, h.2.2.2.2.2.1⟩, ⟨_, _, h.2.2.2.2.2.2.1⟩, trivial⟩, ⟨⟨rfl, rfl, rfl, rfl, rfl, rfl, rfl, trivial⟩, fun H' _ h => C64_s [0, 1, 2, 88, 4, 5, 92] ⟨⟨_, _, h.1⟩, ⟨_, _, h.2.1⟩, ⟨_, _, h.2.2.1⟩, ⟨_, _, h.2.2.2.1⟩, ⟨_, _, h.2.2.2.2.1⟩, ⟨_, _, h.2.2.2.2.2.1⟩, ⟨_, _, h.2.2.2.2.2.2.1⟩, trivial⟩, ⟨⟨rfl, rfl, rfl, rfl, rfl, rfl, rfl, trivial⟩, fun H' _ h => C64_p [0, 1, 2, 103, 4, 5, 107] ⟨⟨_, _, h.1⟩, ⟨_, _, h.2.1⟩, ⟨_, _, h.2.2.1⟩, ⟨_, _, h.2.2.2.1⟩, ⟨_, _, h.2.2.2.2.1⟩, ⟨_, _, h.2.2.2.2.2.1⟩, ⟨_, _, h.2.2.2.2.2.2.1⟩, trivial⟩, rfl⟩⟩⟩⟩⟩⟩⟩
theorem C23_i {H : Heap} (ids : List Nat) (h : InsA H (sgR 0 ids) ids [[sL 4 2 2, sL 5 2 2], [nI 0], jz0, jza, [nI 0, nI 4], [nI 4, nI 0]]) : KCall prog 23 ((jz29 : List Value).map (rn (sgR 0 ids) 3)) H [] (Is jz2o H) :=
  valRA (css := [[sL 4 2 2, sL 5 2 2], [nI 0], jz0, jza, [nI 0, nI 4], [nI 4, nI 0]]) (Eq.mpr (E23_i _) P23_i) rfl ids h.len h.get
end
end Go.Proofs.YthdekmpkioikdaaGreat
/- Closed calls of the chapter's examples. Printed by a program. No condition. -/
namespace Go.Proofs.YthdekmpkioikdaaGreat
set_option linter.unusedSimpArgs false
open Go Go.K
set_option maxRecDepth 1000000
set_option maxHeartbeats 4000000
set_option linter.unusedVariables false
noncomputable section
attribute [local irreducible] vF
def R14_g (sp : Value) : Prop :=
  (((someR (.cells true 1 [sL 2 2 2, sL 3 2 2] : KObj)) ∧ jz2v) ∧ (∀ H' : Heap, H'.length = 7 → (H'[4]? = some (.cells true 1 [sL 2 2 2, sL 3 2 2] : KObj) ∧ H'[5]? = some jzv ∧ H'[6]? = some jz18 ∧ H'[2]? = some jz1q ∧ H'[3]? = some jz1r ∧ True) → KCall prog 29 [.agg #[sL 4 2 2, sL 5 1 1], .agg #[nI 1, nI 0, nI 1, nI 1, nI 1], sL 6 3 3] H' [] (Is (.tuple #[sL 7 3 3, nI 0]) (H' ++ [(.cells true 5 jzn : KObj)]))) ∧ (((someR (.cells true 1 [sL 9 2 2, sL 10 2 2] : KObj)) ∧ jz2v) ∧ (∀ H' : Heap, H'.length = 14 → (H'[11]? = some (.cells true 1 [sL 9 2 2, sL 10 2 2] : KObj) ∧ H'[12]? = some jzv ∧ H'[13]? = some jz18 ∧ H'[9]? = some jz1q ∧ H'[10]? = some jz1r ∧ True) → KCall prog 48 [.agg #[sL 11 2 2, sL 12 1 1], .agg #[nI 1, nI 0, nI 1, nI 1, nI 1], sL 13 3 3] H' [] (Is (.tuple #[sL 14 1 1, nI 32, nI 0]) (H' ++ [(.cells true 1 [sL 15 3 3] : KObj), jzw]))) ∧ (((someR (.cells true 1 [sL 17 2 2, sL 18 2 2] : KObj)) ∧ (someR jzv) ∧ jzs) ∧ (∀ H' : Heap, H'.length = 21 → (H'[19]? = some (.cells true 1 [sL 17 2 2, sL 18 2 2] : KObj) ∧ H'[20]? = some jzv ∧ H'[17]? = some jz1q ∧ H'[18]? = some jz1r ∧ True) → KCall prog 39 [.agg #[sL 19 2 2, sL 20 1 1], .agg #[nI 2, nI 12, nI 10]] H' [] (Is jz31 H')) ∧ (((someR (.cells true 1 [sL 22 2 2, sL 23 2 2] : KObj)) ∧ jz2v) ∧ (∀ H' : Heap, H'.length = 27 → (H'[24]? = some (.cells true 1 [sL 22 2 2, sL 23 2 2] : KObj) ∧ H'[25]? = some jzv ∧ H'[26]? = some jz18 ∧ H'[22]? = some jz1q ∧ H'[23]? = some jz1r ∧ True) → KCall prog 18 [.agg #[sL 24 2 2, sL 25 1 1], .agg #[nI 1, nI 0, nI 1, nI 1, nI 1], sL 26 3 3, nI 32] H' [] (Is (.tuple #[sL 27 14 14, nI 0]) (H' ++ [jz2e]))) ∧ (((someR (.cells true 1 [sL 30 2 2, sL 31 2 2] : KObj)) ∧ (someR jzv) ∧ (someR jz18) ∧ (someR jz2e) ∧ jzs) ∧ (∀ H' : Heap, H'.length = 35 → (H'[32]? = some (.cells true 1 [sL 30 2 2, sL 31 2 2] : KObj) ∧ H'[33]? = some jzv ∧ H'[34]? = some jz18 ∧ H'[27]? = some jz2e ∧ H'[30]? = some jz1q ∧ H'[31]? = some jz1r ∧ True) → KCall prog 23 [.agg #[sL 32 2 2, sL 33 1 1], .agg #[nI 1, nI 0, nI 1, nI 1, nI 1], sL 34 3 3, nI 32, sL 27 14 14] H' [] (Is jz2o H')) ∧ jz23 = sp)))))
theorem E14_g (sp : Value) : vF prog msk (dm 0) 100000 true 40 true 14 [] (readsT 0 []) (some [])
  (.go 20 (.ans [(4, .cells true 1 [sL 2 2 2, sL 3 2 2]), (5, .cells true 1 [nI 0]), (6, .cells true 7 jz0), (2, .cells true 1 [nI 0, nI 4]), (3, .cells true 1 [nI 4, nI 0])] (.tuple #[sL 7 3 3, nI 0]) [.cells true 5 jzn] (.go 49 (.ans [(11, .cells true 1 [sL 9 2 2, sL 10 2 2]), (12, .cells true 1 [nI 0]), (13, .cells true 7 jz0), (9, .cells true 1 [nI 0, nI 4]), (10, .cells true 1 [nI 4, nI 0])] (.tuple #[sL 14 1 1, nI 32, nI 0]) [.cells true 1 [sL 15 3 3], .cells true 1 jzq] (.go 15 (.ans [(19, .cells true 1 [sL 17 2 2, sL 18 2 2]), (20, .cells true 1 [nI 0]), (17, .cells true 1 [nI 0, nI 4]), (18, .cells true 1 [nI 4, nI 0])] jz31 [] (.go 20 (.ans [(24, .cells true 1 [sL 22 2 2, sL 23 2 2]), (25, .cells true 1 [nI 0]), (26, .cells true 7 jz0), (22, .cells true 1 [nI 0, nI 4]), (23, .cells true 1 [nI 4, nI 0])] (.tuple #[sL 27 14 14, nI 0]) [.cells true 1 jza] (.go 121 (.ans [(32, .cells true 1 [sL 30 2 2, sL 31 2 2]), (33, .cells true 1 [nI 0]), (34, .cells true 7 jz0), (27, .cells true 1 jza), (30, .cells true 1 [nI 0, nI 4]), (31, .cells true 1 [nI 4, nI 0])] jz2o [] (.auto)))))))))))
  (fun v _ _ => v = sp) = R14_g sp := by kernel_rfl
theorem P14_g : R14_g (.bool true) := ⟨⟨rfl, rfl, rfl, rfl, rfl, trivial⟩, fun H' hl h => (by have k := C29_j (H := H') [4, 5, 6, 2, 3] ⟨⟨_, _, h.1⟩, ⟨_, _, h.2.1⟩, ⟨_, _, h.2.2.1⟩, ⟨_, _, h.2.2.2.1⟩, ⟨_, _, h.2.2.2.2.1⟩, trivial⟩; rw [hl] at k; exact k), ⟨⟨rfl, rfl, rfl, rfl, rfl, trivial⟩, fun H' hl h => (by have k := C48_m (H := H') [11, 12, 13, 9, 10] ⟨⟨_, _, h.1⟩, ⟨_, _, h.2.1⟩, ⟨_, _, h.2.2.1⟩, ⟨_, _, h.2.2.2.1⟩, ⟨_, _, h.2.2.2.2.1⟩, trivial⟩; rw [hl] at k; exact k), ⟨⟨rfl, rfl, rfl, rfl, trivial⟩, fun H' _ h => C39_l [19, 20, 17, 18] ⟨⟨_, _, h.1⟩, ⟨_, _, h.2.1⟩, ⟨_, _, h.2.2.1⟩, ⟨_, _, h.2.2.2.1⟩, trivial⟩, ⟨⟨rfl, rfl, rfl, rfl, rfl, trivial⟩, fun H' hl h => (by have k := C18_h (H := H') [24, 25, 26, 22, 23] ⟨⟨_, _, h.1⟩, ⟨_, _, h.2.1⟩, ⟨_, _, h.2.2.1⟩, ⟨_, _, h.2.2.2.1⟩, ⟨_, _, h.2.2.2.2.1⟩, trivial⟩; rw [hl] at k; exact k), ⟨⟨rfl, rfl, rfl, rfl, rfl, rfl, trivial⟩, fun H' _ h => C23_i [32, 33, 34, 27, 30, 31] ⟨⟨_, _, h.1⟩, ⟨_, _, h.2.1⟩, ⟨_, _, h.2.2.1⟩, ⟨_, _, h.2.2.2.1⟩, ⟨_, _, h.2.2.2.2.1⟩, ⟨_, _, h.2.2.2.2.2.1⟩, trivial⟩, rfl⟩⟩⟩⟩⟩
theorem C14_g {H : Heap} (ids : List Nat) (h : InsA H (sgR 0 ids) ids []) : KCall prog 14 (([] : List Value).map (rn (sgR 0 ids) 3)) H [] (Is (.bool true) H) :=
  valRA (css := []) (Eq.mpr (E14_g _) P14_g) rfl ids h.len h.get
end
end Go.Proofs.YthdekmpkioikdaaGreat
/- Request: the examples of the chapter (awake). No condition. -/
namespace Go.Proofs.YthdekmpkioikdaaGreat
set_option linter.unusedSimpArgs false
set_option linter.unusedVariables false
open Go Go.K
noncomputable section
theorem kAwake (H : Heap) : KCall prog 14 [] H [] (Is (.bool true) H) := C14_g [] trivial
end
end Go.Proofs.YthdekmpkioikdaaGreat
/- Request: RequestHistories. No condition. -/
namespace Go.Proofs.YthdekmpkioikdaaGreat
open Go Go.K
set_option maxRecDepth 100000
set_option linter.unusedVariables false
set_option linter.unusedSimpArgs false
noncomputable section
attribute [local irreducible] vF
theorem tmod_emod {x n : Int} (hn : 1 ≤ n) : (Int.tmod x n < 0 → Int.tmod x n + n = x % n) ∧ (¬ Int.tmod x n < 0 → Int.tmod x n = x % n) ∧ -n < Int.tmod x n ∧ Int.tmod x n < n := by
  have h1 := Int.mul_tdiv_add_tmod x n
  have h2 := Int.lt_tmod_of_pos x (by omega : 0 < n)
  have h3 := Int.tmod_lt_of_pos x (by omega : 0 < n)
  refine ⟨fun h => ?_, fun h => ?_, h2, h3⟩
  · have : x = (Int.tmod x n + n) + n * (x.tdiv n - 1) := by rw [Int.mul_sub]; omega
    rw [this, Int.add_mul_emod_self_left, ← this]
    exact (Int.emod_eq_of_lt (by omega) (by omega)).symm
  · have : x = Int.tmod x n + n * x.tdiv n := by omega
    conv => rhs; rw [this, Int.add_mul_emod_self_left]
    exact (Int.emod_eq_of_lt (by omega) (by omega)).symm
theorem kPick (x n : Int) (h1 : 1 ≤ n) (h2 : n ≤ 9223372036854775807) (H : Heap) : KCall prog 21 [.int .i64 x, .int .i64 n] H [] (Is (.int .i64 (x % n)) H) := by
  refine valK 40 (fun _ => rfl) rfl (Eq.mpr (EPick _ x n) ?_) H
  obtain ⟨t1, t2, t3, t4⟩ := tmod_emod (x := x) h1
  unfold RPick
  exact forkD (fun h => by omega) (fun _ => ⟨by omega, forkD (fun h => ⟨vI64 (by omega), iEq (t1 h)⟩) (fun h => iEq (t2 h))⟩)
theorem great_bd {f : Fleet} {l : List Rq} (h : great f l = false) : f.t.length ≤ 20 ∧ f.b.length ≤ 6 ∧ l.length ≤ 40 ∧ ∀ k, k < f.t.length → (f.t.getD k []).length ≤ 20 := by
  unfold great at h
  simp only [Bool.or_eq_false_iff, decide_eq_false_iff_not] at h
  obtain ⟨⟨⟨h1, h2⟩, h3⟩, h4⟩ := h
  refine ⟨by omega, by omega, by omega, fun k hk => ?_⟩
  have := any_no (d := []) h4 hk
  have := of_decide_eq_false this
  omega
theorem wk_fleet {f : Fleet} {i j : Nat} : wk (fleetV f i j 1) (fleetV f i j) := wk_aggL (wks_cons wk_QR (wks_cons wk_QR wks_nil))
theorem one1_V {l : List Sv} : (l.flatMap svC).all (fun v => one1 v) = true := by
  rw [List.all_flatMap, List.all_eq_true]; intro r _; rfl
theorem playS_len (f : Fleet) (p : Pol) (l : List Rq) : ∀ (n : Nat) (t : Int) (h : List Sv), (playS f p l n t h).length ≤ h.length + n
  | 0, _, h => Nat.le_refl _
  | n + 1, t, h => by
    show (if l.length ≤ h.length then h else _).length ≤ _
    split
    · omega
    · split
      · have := playS_len f p l n t (h ++ [by assumption])
        rw [List.length_append] at this
        have e : ∀ s : Sv, [s].length = 1 := fun _ => rfl
        rw [e] at this
        omega
      · have := playS_len f p l n (t + 1) h
        omega
theorem oH_len (f : Fleet) (p : Pol) (l : List Rq) : (oH f p l).length ≤ 40000 := by
  unfold oH fRun
  split
  · have := playS_len f p l 40000 0 []
    show (playS f p l 40000 0 []).length ≤ _
    have e : ([] : List Sv).length = 0 := rfl
    omega
  · exact Nat.zero_le _
theorem tH_len (f : Fleet) (p : Pol) (l : List Rq) (a n b : Int) : (tH f p l a n b).length = (oH f p l).length := List.length_set ..
theorem fW_len (f : Fleet) (l : List Rq) (h : List Sv) : (fWaits f l h).1.length ≤ l.length := by
  unfold fWaits
  split
  · exact Nat.le_of_eq (tabP_len ..)
  · exact Nat.zero_le _
theorem fD_len (f : Fleet) (l : List Rq) (h : List Sv) : (fDet f l h).1.length ≤ l.length := by
  unfold fDet
  split
  · show (lateL l h).length ≤ _
    unfold lateL lateTo
    rw [List.length_map]
    exact Nat.le_trans (List.length_filter_le _ _) (Nat.le_of_eq List.length_range)
  · exact Nat.zero_le _
theorem fO_len (f : Fleet) (l : List Rq) (h : List Sv) : (fOver f l h).1.length ≤ l.length := by
  unfold fOver
  split
  · exact Nat.le_of_eq (by show (ovH l h h.length).length = _; unfold ovH; exact asg_len ..)
  · exact Nat.zero_le _
theorem ptr5 (X : Nat) : ∀ K : Nat, K < 5 → ([.pointer (some ⟨12, X + 0, none⟩), .pointer (some ⟨12, X + 1, none⟩), .pointer (some ⟨12, X + 2, none⟩), .pointer (some ⟨12, X + 3, none⟩), .pointer (some ⟨12, X + 4, none⟩)] : List Value)[0 + K * 1]? = some (.pointer (some ⟨12, X + 0 + K, none⟩))
  | 0, _ => rfl
  | 1, _ => rfl
  | 2, _ => rfl
  | 3, _ => rfl
  | 4, _ => rfl
  | n + 5, h => absurd h (by omega)
theorem numAt {l : List Sv} {I : Nat} (hI : I < l.length) {off : Nat} : ∀ K : Nat, K < 5 → off = I * 5 + K → (l.flatMap svC)[off]? = some (.int .i64 (numSv (svAt l I) K))
  | 0, _, e => cell_at (n := 5) (d := zeroV) (c := 0) svC_len hI e rfl
  | 1, _, e => cell_at (n := 5) (d := zeroV) (c := 1) svC_len hI e rfl
  | 2, _, e => cell_at (n := 5) (d := zeroV) (c := 2) svC_len hI e rfl
  | 3, _, e => cell_at (n := 5) (d := zeroV) (c := 3) svC_len hI e rfl
  | 4, _, e => cell_at (n := 5) (d := zeroV) (c := 4) svC_len hI e rfl
  | n + 5, h, _ => absurd h (by omega)
theorem set5 (s : Sv) (x : Int) : ∀ K : Nat, K < 5 → setl (svC s) K [.int .i64 x] = svC (setSv s K x)
  | 0, _ => rfl
  | 1, _ => rfl
  | 2, _ => rfl
  | 3, _ => rfl
  | 4, _ => rfl
  | n + 5, h => absurd h (by omega)
theorem setNum {l : List Sv} {I K : Nat} (hI : I < l.length) (hK : K < 5) (x : Int) {off : Nat} (e : off = I * 5 + K) : setl (l.flatMap svC) off [.int .i64 x] = (l.set I (setSv (svAt l I) K x)).flatMap svC := by
  subst e
  have e0 : svAt l I = l[I] := by show l.getD I zeroV = _; rw [List.getD_eq_getElem?_getD, List.getElem?_eq_getElem hI]; rfl
  have e1 : l = l.take I ++ l[I] :: l.drop (I + 1) := by rw [← List.drop_eq_getElem_cons hI, List.take_append_drop]
  have e2 : l.set I (setSv (svAt l I) K x) = l.take I ++ setSv (svAt l I) K x :: l.drop (I + 1) := by rw [List.set_eq_take_append_cons_drop, if_pos hI]
  have hl : ((l.take I).flatMap svC).length = I * 5 := by rw [flat_len svC_len, List.length_take, Nat.min_eq_left (Nat.le_of_lt hI)]
  rw [e2]
  conv => lhs; rw [e1]
  rw [List.flatMap_append, List.flatMap_cons, List.flatMap_append, List.flatMap_cons, ← hl, setl_app, setl_appL _ _ _ _ (by rw [svC_len]; show K + 1 ≤ 5; omega), set5 _ _ K hK, e0]
set_option maxHeartbeats 4000000 in
theorem kHistLaw (f : Fleet) (p : Pol) (l : List Rq) (h : List Sv) (a n b : Int) {H : Heap} {i0 i1 i2 i3 : Nat} {o0 o1 o2 o3 : Bool} {z0 z1 z2 z3 : Nat} (e0 : H[i0]? = some (.cells o0 z0 (inL f.t))) (e1 : H[i1]? = some (.cells o1 z1 (f.b.flatMap intC))) (e2 : H[i2]? = some (.cells o2 z2 (l.flatMap rqC))) (e3 : H[i3]? = some (.cells o3 z3 (h.flatMap svC))) :
    KCall prog 9 [fleetV f i0 i1, .agg ⟨polC p⟩, .slice (some ⟨i2, 0, some 2⟩) l.length l.length, .slice (some ⟨i3, 0, some 2⟩) h.length h.length, nI a, nI n, nI b] H [] (Is (.bool true) H) := by
  refine valRx (Eq.mpr (EHistLaw _ f p l h a n b) ?_) ⟨inL_b 0 _, plainIL 0 _, plainRQ 0 _, plainSV 0 _, trivial⟩ rfl (ids := [i0, i1, i2, i3]) ⟨⟨_, _, e0⟩, ⟨_, _, e1⟩, ⟨_, _, e2⟩, ⟨_, _, e3⟩, trivial⟩ rfl
  delta RHistLaw ji0 ji4 ji2d ji23 jiu ji26 jig jih jii jie ji1 jik ji2a ji1j ji2j ji2l jix ji8 ji1o ji24 ji1i jij ji1y ji7 ji3 jit jiv ji1q jim ji1z ji1m jil ji20 ji1n ji6 ji1k ji1t jiw ji1s ji9 ji1v ji5 ji2 jin ji27 ji13 jic ji1w ji21 ji10 jib ji1x jiz ji1c ji1r ji2c ji15 jiy jip ji22 ji2g ji19 ji2f ji17 ji1d ji1f ji28 jif ji2i ji1p ji25 ji1l ji1u ji12 ji1e ji2b ji2h ji16 ji11 jir ji14 ji1a ji2p ji18
  refine ⟨⟨rfl, rfl, rfl, trivial⟩, fun H' _ hd => kGreat f l hd.1 hd.2.1 hd.2.2.1, forkB (fun _ => ⟨trivial, fun H' _ _ => kAwake H', rfl⟩) (fun hg => forkD (fun _ => ⟨trivial, fun H' _ _ => kAwake H', rfl⟩) (fun h60 => ?_))⟩
  obtain ⟨g1, g2, g3, g4⟩ := great_bd hg
  have ht : f.t.length ≤ 4294967296 := by omega
  have hb : f.b.length ≤ 4294967296 := by omega
  have hl : l.length ≤ 4294967296 := by omega
  have hh : h.length ≤ 4294967296 := by omega
  have hs : shortI f.t := fun k hk => by have := g4 k hk; omega
  have ho := oH_len f p l
  have ho2 : (oH f p l).length ≤ 4294967296 := by omega
  have hT := tH_len f p l a n b
  have hT2 : (tH f p l a n b).length ≤ 4294967296 := by omega
  have hT3 : (tH f p l a n b).length = 0 + (oH f p l).length := by omega
  have he : ([] : List Sv).length ≤ 4294967296 := Nat.zero_le _
  have hW := fun (x : List Sv) => Nat.le_trans (fW_len f l x) hl
  have hD := fun (x : List Sv) => Nat.le_trans (fD_len f l x) hl
  have hO := fun (x : List Sv) => Nat.le_trans (fO_len f l x) hl
  refine ⟨⟨rfl, rfl, trivial⟩, fun H' hL hd => kFleet f ht hb hs hL hd.1 hd.2.1, ⟨rfl, trivial⟩, fun H' hL hd => kRequests l hl hL hd.1, ⟨rfl, rfl, rfl, trivial⟩, fun H' hL hd => krRun f p l ht hb hs hL hd.1 hd.2.1 hd.2.2.1, fun m0 => ⟨⟨by omega, m0⟩, rfl, ?_⟩, fun m1 => ?_⟩
  ·
    refine ⟨⟨rfl, trivial⟩, fun H' hL hd => KCall.wkA (kServed h hh hL hd.1) (wks_cons (wk_refl _) wks_nil), ?_⟩
    refine ⟨⟨rfl, rfl, rfl, rfl, trivial⟩, fun H' hL hd => KCall.wkA (kWaits f l h ht hb hs hh hL hd.1 hd.2.1 hd.2.2.1 hd.2.2.2.1) (wks_cons wk_fleet (wks_cons wk_QR (wks_cons wk_QR wks_nil))), ⟨rfl, rfl, rfl, rfl, trivial⟩, fun H' hL hd => KCall.wkA (krWaits f l h ht hb hs hh hL hd.1 hd.2.1 hd.2.2.1 hd.2.2.2.1) (wks_cons (wk_refl _) (wks_cons (wk_refl _) (wks_cons (wk_refl _) wks_nil))), ⟨rfl, rfl, trivial⟩, fun H' _ hd => kSameB _ (hW h) hd.1 hd.2.1, forkF (bne_self_eq_false _) ?_⟩
    refine ⟨⟨rfl, rfl, rfl, rfl, trivial⟩, fun H' hL hd => KCall.wkA (kDet f l h ht hb hs hh hL hd.1 hd.2.1 hd.2.2.1 hd.2.2.2.1) (wks_cons wk_fleet (wks_cons wk_QR (wks_cons wk_QR wks_nil))), ⟨rfl, rfl, rfl, rfl, trivial⟩, fun H' hL hd => KCall.wkA (krDet f l h ht hb hs hh hL hd.1 hd.2.1 hd.2.2.1 hd.2.2.2.1) (wks_cons (wk_refl _) (wks_cons (wk_refl _) (wks_cons (wk_refl _) wks_nil))), ⟨rfl, rfl, trivial⟩, fun H' _ hd => kSameB _ (hD h) hd.1 hd.2.1, forkF (bne_self_eq_false _) ?_⟩
    refine ⟨⟨rfl, rfl, rfl, rfl, trivial⟩, fun H' hL hd => KCall.wkA (kOver f l h ht hb hs hh hL hd.1 hd.2.1 hd.2.2.1 hd.2.2.2.1) (wks_cons wk_fleet (wks_cons wk_QR (wks_cons wk_QR wks_nil))), ⟨rfl, rfl, rfl, rfl, trivial⟩, fun H' hL hd => KCall.wkA (krOver f l h ht hb hs hh hL hd.1 hd.2.1 hd.2.2.1 hd.2.2.2.1) (wks_cons (wk_refl _) (wks_cons (wk_refl _) (wks_cons (wk_refl _) wks_nil))), ⟨rfl, rfl, trivial⟩, fun H' _ hd => kSameB _ (hO h) hd.1 hd.2.1, forkF (bne_self_eq_false _) ?_⟩
    refine ⟨⟨rfl, rfl, trivial⟩, fun H' _ hd => KCall.wkA (kSame h hh hd.1 hd.2.1) (wks_cons wk_QR (wks_cons (wk_refl _) wks_nil)), ?_⟩
    refine ⟨⟨rfl, trivial⟩, fun H' hL hd => KCall.wkA (kServed (oH f p l) ho2 hL hd.1) (wks_cons (wk_refl _) wks_nil), ?_⟩
    refine ⟨⟨rfl, rfl, rfl, rfl, trivial⟩, fun H' hL hd => KCall.wkA (kWaits f l (oH f p l) ht hb hs ho2 hL hd.1 hd.2.1 hd.2.2.1 hd.2.2.2.1) (wks_cons wk_fleet (wks_cons wk_QR (wks_cons wk_QR wks_nil))), ⟨rfl, rfl, rfl, rfl, trivial⟩, fun H' hL hd => KCall.wkA (krWaits f l (oH f p l) ht hb hs ho2 hL hd.1 hd.2.1 hd.2.2.1 hd.2.2.2.1) (wks_cons (wk_refl _) (wks_cons (wk_refl _) (wks_cons (wk_refl _) wks_nil))), ⟨rfl, rfl, trivial⟩, fun H' _ hd => kSameB _ (hW (oH f p l)) hd.1 hd.2.1, forkF (bne_self_eq_false _) ?_⟩
    refine ⟨⟨rfl, rfl, rfl, rfl, trivial⟩, fun H' hL hd => KCall.wkA (kDet f l (oH f p l) ht hb hs ho2 hL hd.1 hd.2.1 hd.2.2.1 hd.2.2.2.1) (wks_cons wk_fleet (wks_cons wk_QR (wks_cons wk_QR wks_nil))), ⟨rfl, rfl, rfl, rfl, trivial⟩, fun H' hL hd => KCall.wkA (krDet f l (oH f p l) ht hb hs ho2 hL hd.1 hd.2.1 hd.2.2.1 hd.2.2.2.1) (wks_cons (wk_refl _) (wks_cons (wk_refl _) (wks_cons (wk_refl _) wks_nil))), ⟨rfl, rfl, trivial⟩, fun H' _ hd => kSameB _ (hD (oH f p l)) hd.1 hd.2.1, forkF (bne_self_eq_false _) ?_⟩
    refine ⟨⟨rfl, rfl, rfl, rfl, trivial⟩, fun H' hL hd => KCall.wkA (kOver f l (oH f p l) ht hb hs ho2 hL hd.1 hd.2.1 hd.2.2.1 hd.2.2.2.1) (wks_cons wk_fleet (wks_cons wk_QR (wks_cons wk_QR wks_nil))), ⟨rfl, rfl, rfl, rfl, trivial⟩, fun H' hL hd => KCall.wkA (krOver f l (oH f p l) ht hb hs ho2 hL hd.1 hd.2.1 hd.2.2.1 hd.2.2.2.1) (wks_cons (wk_refl _) (wks_cons (wk_refl _) (wks_cons (wk_refl _) wks_nil))), ⟨rfl, rfl, trivial⟩, fun H' _ hd => kSameB _ (hO (oH f p l)) hd.1 hd.2.1, forkF (bne_self_eq_false _) ?_⟩
    refine ⟨⟨rfl, rfl, trivial⟩, fun H' _ hd => KCall.wkA (kSame (oH f p l) ho2 hd.1 hd.2.1) (wks_cons wk_QR (wks_cons (wk_refl _) wks_nil)), ?_⟩
    refine ⟨⟨rfl, trivial⟩, fun H' hL hd => KCall.wkA (kServed ([] : List Sv) he hL hd.1) (wks_cons wk_QR wks_nil), ?_⟩
    refine ⟨⟨rfl, rfl, rfl, rfl, trivial⟩, fun H' hL hd => KCall.wkA (kWaits f l ([] : List Sv) ht hb hs he hL hd.1 hd.2.1 hd.2.2.1 hd.2.2.2.1) (wks_cons wk_fleet (wks_cons wk_QR (wks_cons wk_QR wks_nil))), ⟨rfl, rfl, rfl, rfl, trivial⟩, fun H' hL hd => KCall.wkA (krWaits f l ([] : List Sv) ht hb hs he hL hd.1 hd.2.1 hd.2.2.1 hd.2.2.2.1) (wks_cons (wk_refl _) (wks_cons (wk_refl _) (wks_cons wk_QR wks_nil))), ⟨rfl, rfl, trivial⟩, fun H' _ hd => kSameB _ (hW ([] : List Sv)) hd.1 hd.2.1, forkF (bne_self_eq_false _) ?_⟩
    refine ⟨⟨rfl, rfl, rfl, rfl, trivial⟩, fun H' hL hd => KCall.wkA (kDet f l ([] : List Sv) ht hb hs he hL hd.1 hd.2.1 hd.2.2.1 hd.2.2.2.1) (wks_cons wk_fleet (wks_cons wk_QR (wks_cons wk_QR wks_nil))), ⟨rfl, rfl, rfl, rfl, trivial⟩, fun H' hL hd => KCall.wkA (krDet f l ([] : List Sv) ht hb hs he hL hd.1 hd.2.1 hd.2.2.1 hd.2.2.2.1) (wks_cons (wk_refl _) (wks_cons (wk_refl _) (wks_cons wk_QR wks_nil))), ⟨rfl, rfl, trivial⟩, fun H' _ hd => kSameB _ (hD ([] : List Sv)) hd.1 hd.2.1, forkF (bne_self_eq_false _) ?_⟩
    refine ⟨⟨rfl, rfl, rfl, rfl, trivial⟩, fun H' hL hd => KCall.wkA (kOver f l ([] : List Sv) ht hb hs he hL hd.1 hd.2.1 hd.2.2.1 hd.2.2.2.1) (wks_cons wk_fleet (wks_cons wk_QR (wks_cons wk_QR wks_nil))), ⟨rfl, rfl, rfl, rfl, trivial⟩, fun H' hL hd => KCall.wkA (krOver f l ([] : List Sv) ht hb hs he hL hd.1 hd.2.1 hd.2.2.1 hd.2.2.2.1) (wks_cons (wk_refl _) (wks_cons (wk_refl _) (wks_cons wk_QR wks_nil))), ⟨rfl, rfl, trivial⟩, fun H' _ hd => kSameB _ (hO ([] : List Sv)) hd.1 hd.2.1, forkF (bne_self_eq_false _) ?_⟩
    refine ⟨⟨rfl, rfl, trivial⟩, fun H' _ hd => KCall.wkA (kSame ([] : List Sv) he hd.1 hd.2.1) (wks_cons wk_QR (wks_cons wk_QR wks_nil)), ?_⟩
    exact ⟨⟨rfl, rfl, rfl, rfl, rfl, rfl, trivial⟩, fun H' _ hd => KCall.wkA (kKept f l ht hb hl hs hd.1 hd.2.1 hd.2.2.1 hd.2.2.2.1 hd.2.2.2.2.1 hd.2.2.2.2.2.1) (wks_cons wk_fleet (wks_cons (wk_refl _) (wks_cons wk_QR (wks_cons (wk_refl _) wks_nil)))), trivial, fun H' _ _ => kAwake H', rfl⟩
  · have hI : Int.toNat (a % (((0 + (oH f p l).length : Nat) : Nat) : Int)) < (oH f p l).length := by
      have := Int.emod_lt_of_pos a (show (0 : Int) < (((0 + (oH f p l).length : Nat) : Nat) : Int) by omega)
      have := Int.emod_nonneg a (show (((0 + (oH f p l).length : Nat) : Nat) : Int) ≠ 0 by omega)
      omega
    have hK : Int.toNat (n % 5) < 5 := by omega
    refine ⟨⟨by omega, m1, ⟨Nat.le_refl _, Nat.le_refl _⟩, ⟨Nat.le_refl _, flat_le svC_len _⟩, one1_take one1_V⟩, rfl, ?_, bEq (decide_eq_true (by omega)), trivial, fun H' _ _ => kPick a _ (by omega) (by omega) H', ⟨Int.emod_nonneg _ (by omega), Int.emod_lt_of_pos _ (by omega)⟩, trivial, fun H' _ _ => kPick n 5 (by decide) (by decide) H', by omega, ptr5 _ _ hK, numAt hI _ hK (by omega), by rw [flat_len svC_len]; omega, rfl, ?_, ?_⟩
    · exact congrArg (fun l => some (KObj.cells true 5 l)) (by show List.take ((oH f p l).length * 5) (List.drop 0 ((oH f p l).flatMap svC)) = _; rw [List.drop_zero, List.take_of_length_le (by rw [flat_len svC_len]; exact Nat.le_refl _)])
    · refine congrArg (fun l => some (KObj.cells true 5 l)) ((setNum hI hK _ (by omega)).trans ?_)
      unfold tH chgH
      rw [Nat.zero_add]
    refine ⟨⟨rfl, trivial⟩, fun H' hL hd => KCall.wkA (kServed h hh hL hd.1) (wks_cons (wk_refl _) wks_nil), ?_⟩
    refine ⟨⟨rfl, rfl, rfl, rfl, trivial⟩, fun H' hL hd => KCall.wkA (kWaits f l h ht hb hs hh hL hd.1 hd.2.1 hd.2.2.1 hd.2.2.2.1) (wks_cons wk_fleet (wks_cons wk_QR (wks_cons wk_QR wks_nil))), ⟨rfl, rfl, rfl, rfl, trivial⟩, fun H' hL hd => KCall.wkA (krWaits f l h ht hb hs hh hL hd.1 hd.2.1 hd.2.2.1 hd.2.2.2.1) (wks_cons (wk_refl _) (wks_cons (wk_refl _) (wks_cons (wk_refl _) wks_nil))), ⟨rfl, rfl, trivial⟩, fun H' _ hd => kSameB _ (hW h) hd.1 hd.2.1, forkF (bne_self_eq_false _) ?_⟩
    refine ⟨⟨rfl, rfl, rfl, rfl, trivial⟩, fun H' hL hd => KCall.wkA (kDet f l h ht hb hs hh hL hd.1 hd.2.1 hd.2.2.1 hd.2.2.2.1) (wks_cons wk_fleet (wks_cons wk_QR (wks_cons wk_QR wks_nil))), ⟨rfl, rfl, rfl, rfl, trivial⟩, fun H' hL hd => KCall.wkA (krDet f l h ht hb hs hh hL hd.1 hd.2.1 hd.2.2.1 hd.2.2.2.1) (wks_cons (wk_refl _) (wks_cons (wk_refl _) (wks_cons (wk_refl _) wks_nil))), ⟨rfl, rfl, trivial⟩, fun H' _ hd => kSameB _ (hD h) hd.1 hd.2.1, forkF (bne_self_eq_false _) ?_⟩
    refine ⟨⟨rfl, rfl, rfl, rfl, trivial⟩, fun H' hL hd => KCall.wkA (kOver f l h ht hb hs hh hL hd.1 hd.2.1 hd.2.2.1 hd.2.2.2.1) (wks_cons wk_fleet (wks_cons wk_QR (wks_cons wk_QR wks_nil))), ⟨rfl, rfl, rfl, rfl, trivial⟩, fun H' hL hd => KCall.wkA (krOver f l h ht hb hs hh hL hd.1 hd.2.1 hd.2.2.1 hd.2.2.2.1) (wks_cons (wk_refl _) (wks_cons (wk_refl _) (wks_cons (wk_refl _) wks_nil))), ⟨rfl, rfl, trivial⟩, fun H' _ hd => kSameB _ (hO h) hd.1 hd.2.1, forkF (bne_self_eq_false _) ?_⟩
    refine ⟨⟨rfl, rfl, trivial⟩, fun H' _ hd => KCall.wkA (kSame h hh hd.1 hd.2.1) (wks_cons wk_QR (wks_cons (wk_refl _) wks_nil)), ?_⟩
    refine ⟨⟨rfl, trivial⟩, fun H' hL hd => KCall.wkA (kServed (oH f p l) ho2 hL hd.1) (wks_cons (wk_refl _) wks_nil), ?_⟩
    refine ⟨⟨rfl, rfl, rfl, rfl, trivial⟩, fun H' hL hd => KCall.wkA (kWaits f l (oH f p l) ht hb hs ho2 hL hd.1 hd.2.1 hd.2.2.1 hd.2.2.2.1) (wks_cons wk_fleet (wks_cons wk_QR (wks_cons wk_QR wks_nil))), ⟨rfl, rfl, rfl, rfl, trivial⟩, fun H' hL hd => KCall.wkA (krWaits f l (oH f p l) ht hb hs ho2 hL hd.1 hd.2.1 hd.2.2.1 hd.2.2.2.1) (wks_cons (wk_refl _) (wks_cons (wk_refl _) (wks_cons (wk_refl _) wks_nil))), ⟨rfl, rfl, trivial⟩, fun H' _ hd => kSameB _ (hW (oH f p l)) hd.1 hd.2.1, forkF (bne_self_eq_false _) ?_⟩
    refine ⟨⟨rfl, rfl, rfl, rfl, trivial⟩, fun H' hL hd => KCall.wkA (kDet f l (oH f p l) ht hb hs ho2 hL hd.1 hd.2.1 hd.2.2.1 hd.2.2.2.1) (wks_cons wk_fleet (wks_cons wk_QR (wks_cons wk_QR wks_nil))), ⟨rfl, rfl, rfl, rfl, trivial⟩, fun H' hL hd => KCall.wkA (krDet f l (oH f p l) ht hb hs ho2 hL hd.1 hd.2.1 hd.2.2.1 hd.2.2.2.1) (wks_cons (wk_refl _) (wks_cons (wk_refl _) (wks_cons (wk_refl _) wks_nil))), ⟨rfl, rfl, trivial⟩, fun H' _ hd => kSameB _ (hD (oH f p l)) hd.1 hd.2.1, forkF (bne_self_eq_false _) ?_⟩
    refine ⟨⟨rfl, rfl, rfl, rfl, trivial⟩, fun H' hL hd => KCall.wkA (kOver f l (oH f p l) ht hb hs ho2 hL hd.1 hd.2.1 hd.2.2.1 hd.2.2.2.1) (wks_cons wk_fleet (wks_cons wk_QR (wks_cons wk_QR wks_nil))), ⟨rfl, rfl, rfl, rfl, trivial⟩, fun H' hL hd => KCall.wkA (krOver f l (oH f p l) ht hb hs ho2 hL hd.1 hd.2.1 hd.2.2.1 hd.2.2.2.1) (wks_cons (wk_refl _) (wks_cons (wk_refl _) (wks_cons (wk_refl _) wks_nil))), ⟨rfl, rfl, trivial⟩, fun H' _ hd => kSameB _ (hO (oH f p l)) hd.1 hd.2.1, forkF (bne_self_eq_false _) ?_⟩
    refine ⟨⟨rfl, rfl, trivial⟩, fun H' _ hd => KCall.wkA (kSame (oH f p l) ho2 hd.1 hd.2.1) (wks_cons wk_QR (wks_cons (wk_refl _) wks_nil)), ?_⟩
    refine ⟨⟨rfl, trivial⟩, fun H' hL hd => KCall.wkA (kServed (tH f p l a n b) hT2 hL hd.1) (wks_cons (wk_RI hT3) wks_nil), ?_⟩
    refine ⟨⟨rfl, rfl, rfl, rfl, trivial⟩, fun H' hL hd => KCall.wkA (kWaits f l (tH f p l a n b) ht hb hs hT2 hL hd.1 hd.2.1 hd.2.2.1 hd.2.2.2.1) (wks_cons wk_fleet (wks_cons wk_QR (wks_cons wk_QR wks_nil))), ⟨rfl, rfl, rfl, rfl, trivial⟩, fun H' hL hd => KCall.wkA (krWaits f l (tH f p l a n b) ht hb hs hT2 hL hd.1 hd.2.1 hd.2.2.1 hd.2.2.2.1) (wks_cons (wk_refl _) (wks_cons (wk_refl _) (wks_cons (wk_RI hT3) wks_nil))), ⟨rfl, rfl, trivial⟩, fun H' _ hd => kSameB _ (hW (tH f p l a n b)) hd.1 hd.2.1, forkF (bne_self_eq_false _) ?_⟩
    refine ⟨⟨rfl, rfl, rfl, rfl, trivial⟩, fun H' hL hd => KCall.wkA (kDet f l (tH f p l a n b) ht hb hs hT2 hL hd.1 hd.2.1 hd.2.2.1 hd.2.2.2.1) (wks_cons wk_fleet (wks_cons wk_QR (wks_cons wk_QR wks_nil))), ⟨rfl, rfl, rfl, rfl, trivial⟩, fun H' hL hd => KCall.wkA (krDet f l (tH f p l a n b) ht hb hs hT2 hL hd.1 hd.2.1 hd.2.2.1 hd.2.2.2.1) (wks_cons (wk_refl _) (wks_cons (wk_refl _) (wks_cons (wk_RI hT3) wks_nil))), ⟨rfl, rfl, trivial⟩, fun H' _ hd => kSameB _ (hD (tH f p l a n b)) hd.1 hd.2.1, forkF (bne_self_eq_false _) ?_⟩
    refine ⟨⟨rfl, rfl, rfl, rfl, trivial⟩, fun H' hL hd => KCall.wkA (kOver f l (tH f p l a n b) ht hb hs hT2 hL hd.1 hd.2.1 hd.2.2.1 hd.2.2.2.1) (wks_cons wk_fleet (wks_cons wk_QR (wks_cons wk_QR wks_nil))), ⟨rfl, rfl, rfl, rfl, trivial⟩, fun H' hL hd => KCall.wkA (krOver f l (tH f p l a n b) ht hb hs hT2 hL hd.1 hd.2.1 hd.2.2.1 hd.2.2.2.1) (wks_cons (wk_refl _) (wks_cons (wk_refl _) (wks_cons (wk_RI hT3) wks_nil))), ⟨rfl, rfl, trivial⟩, fun H' _ hd => kSameB _ (hO (tH f p l a n b)) hd.1 hd.2.1, forkF (bne_self_eq_false _) ?_⟩
    refine ⟨⟨rfl, rfl, trivial⟩, fun H' _ hd => KCall.wkA (kSame (tH f p l a n b) hT2 hd.1 hd.2.1) (wks_cons wk_QR (wks_cons (wk_RI hT3) wks_nil)), ?_⟩
    exact ⟨⟨rfl, rfl, rfl, rfl, rfl, rfl, trivial⟩, fun H' _ hd => KCall.wkA (kKept f l ht hb hl hs hd.1 hd.2.1 hd.2.2.1 hd.2.2.2.1 hd.2.2.2.2.1 hd.2.2.2.2.2.1) (wks_cons wk_fleet (wks_cons (wk_refl _) (wks_cons wk_QR (wks_cons (wk_refl _) wks_nil)))), trivial, fun H' _ _ => kAwake H', rfl⟩
end
end Go.Proofs.YthdekmpkioikdaaGreat
/- Flat arguments among those whose lists are said by their values. No condition. -/
namespace Go.K
set_option linter.unusedSimpArgs false
open Go Go.ChangeShapes Go.WideShapes Go.ChangeAt Go.RowKit
set_option linter.unusedVariables false
variable {P : Program}
theorem flatI_goodD : ∀ (n : Nat) (t : TypeId) (k : Nat) (cs : List Value), flatI P n t = some k → GoodD P n t cs → ∃ ns : List Int, cs = ns.map (.int .i64) ∧ ns.length = k ∧ ∀ x ∈ ns, inI x := by
  intro n
  induction n with
  | zero => intro t k cs h; cases h
  | succ n ih =>
    intro t k cs h g
    unfold flatI at h
    unfold GoodD at g
    cases hu : P.underlying t with
    | none => rw [hu] at h; cases h
    | some d =>
      rw [hu] at h g
      cases d <;> try (cases h; done)
      · rename_i ik
        cases ik <;> try (cases h; done)
        cases h
        obtain ⟨x, rfl, h1, h2⟩ := g
        refine ⟨[x], rfl, rfl, fun y hy => ?_⟩
        rw [List.mem_singleton] at hy; subst hy
        simp only [IntKind.min, IntKind.max, IntKind.signed, IntKind.bits] at h1 h2
        unfold inI
        simp at h1 h2
        omega
      · rename_i fs
        simp only at h g
        have key : ∀ (fs : List Field) (k : Nat) (cs : List Value), fs.foldr (fun f r => match flatI P n f.type, r with | some a, some b => some (a + b) | _, _ => none) (some 0) = some k →
            GoodL (GoodD P n) (fs.map (·.type)) cs → ∃ ns : List Int, cs = ns.map (.int .i64) ∧ ns.length = k ∧ ∀ x ∈ ns, inI x := by
          intro fs
          induction fs with
          | nil => intro k cs h g; cases h; exact ⟨[], g, rfl, fun _ h => by cases h⟩
          | cons f fs ihf =>
            intro k cs h g
            rw [List.foldr_cons] at h
            obtain ⟨c, rest, rfl, g1, g2⟩ := g
            cases ha : flatI P n f.type with
            | none => rw [ha] at h; cases h
            | some a =>
              cases hb : fs.foldr (fun f r => match flatI P n f.type, r with | some a, some b => some (a + b) | _, _ => none) (some 0) with
              | none => rw [ha, hb] at h; cases h
              | some b =>
                rw [ha, hb] at h
                cases h
                obtain ⟨n1, rfl, l1, m1⟩ := ih _ _ _ ha g1
                obtain ⟨n2, rfl, l2, m2⟩ := ihf _ _ hb g2
                exact ⟨n1 ++ n2, by simp, by simp [l1, l2], fun x hx => by rcases List.mem_append.1 hx with h | h; exact m1 x h; exact m2 x h⟩
        exact key _ _ _ h g
theorem flatI_good2 {H : Heap} : ∀ (n : Nat) (t : TypeId) (k : Nat) (cs : List Value), flatI P n t = some k → Good2 P H n t cs → ∃ ns : List Int, cs = ns.map (.int .i64) ∧ ns.length = k ∧ ∀ x ∈ ns, inI x := by
  intro n
  induction n with
  | zero => intro t k cs h; cases h
  | succ n ih =>
    intro t k cs h g
    unfold flatI at h
    unfold Good2 at g
    cases hu : P.underlying t with
    | none => rw [hu] at h; cases h
    | some d =>
      rw [hu] at h g
      cases d <;> try (cases h; done)
      · rename_i ik
        cases ik <;> try (cases h; done)
        cases h
        obtain ⟨x, rfl, h1, h2⟩ := g
        refine ⟨[x], rfl, rfl, fun y hy => ?_⟩
        rw [List.mem_singleton] at hy; subst hy
        simp only [IntKind.min, IntKind.max, IntKind.signed, IntKind.bits] at h1 h2
        unfold inI
        simp at h1 h2
        omega
      · rename_i fs
        simp only at h g
        have key : ∀ (fs : List Field) (k : Nat) (cs : List Value), fs.foldr (fun f r => match flatI P n f.type, r with | some a, some b => some (a + b) | _, _ => none) (some 0) = some k →
            GoodL (Good2 P H n) (fs.map (·.type)) cs → ∃ ns : List Int, cs = ns.map (.int .i64) ∧ ns.length = k ∧ ∀ x ∈ ns, inI x := by
          intro fs
          induction fs with
          | nil => intro k cs h g; cases h; exact ⟨[], g, rfl, fun _ h => by cases h⟩
          | cons f fs ihf =>
            intro k cs h g
            rw [List.foldr_cons] at h
            obtain ⟨c, rest, rfl, g1, g2⟩ := g
            cases ha : flatI P n f.type with
            | none => rw [ha] at h; cases h
            | some a =>
              cases hb : fs.foldr (fun f r => match flatI P n f.type, r with | some a, some b => some (a + b) | _, _ => none) (some 0) with
              | none => rw [ha, hb] at h; cases h
              | some b =>
                rw [ha, hb] at h
                cases h
                obtain ⟨n1, rfl, l1, m1⟩ := ih _ _ _ ha g1
                obtain ⟨n2, rfl, l2, m2⟩ := ihf _ _ hb g2
                exact ⟨n1 ++ n2, by simp, by simp [l1, l2], fun x hx => by rcases List.mem_append.1 hx with h | h; exact m1 x h; exact m2 x h⟩
        exact key _ _ _ h g
end Go.K
/- How laws' arguments are read. No condition. -/
namespace Go.Proofs.YthdekmpkioikdaaGreat
set_option linter.unusedSimpArgs false
open Go Go.K Go.ChangeShapes Go.WideShapes Go.ChangeAt Go.RowKit
set_option maxRecDepth 100000
set_option linter.unusedVariables false
noncomputable section
theorem own : ownKnob Tryz.prog.godebug = none := by kernel_rfl
theorem sized : slicesSized Tryz.prog = true := by kernel_rfl
abbrev known (t : TypeId) : Prop := t < Tryz.prog.types.size
theorem kids : Kids Tryz.prog known := kids_rows (by kernel_rfl) (by kernel_rfl)
theorem goodA2_cons {H : Heap} {n : Nat} {t : TypeId} {ts : List TypeId} {vs : List Value} (h : GoodA2 Tryz.prog H n (t :: ts) vs) : ∃ v vs', vs = v :: vs' ∧ GoodV2 Tryz.prog H n t v ∧ GoodA2 Tryz.prog H n ts vs' := by
  cases vs with
  | nil => exact h.elim
  | cons v vs => exact ⟨v, vs, rfl, h.1, h.2⟩
theorem goodA2_nil {H : Heap} {n : Nat} {vs : List Value} (h : GoodA2 Tryz.prog H n [] vs) : vs = [] := by
  cases vs with
  | nil => rfl
  | cons v vs => exact h.elim
/-- A slice: less is said: read only. -/
theorem slice_read2 {α : Type} {f : α → List Value} {H : Heap} {n t e : Nat} {cs : List Value} (hu : Tryz.prog.underlying t = some (.slice e)) (hg : ∀ c, GoodD Tryz.prog n e c → ∃ x : α, c = f x ∧ True) (h : Good2 Tryz.prog H (n + 1) t cs) :
    ∃ (v : Value) (xs : List α), cs = [v] ∧ xs.length ≤ maxLen ∧ ∀ K : Heap, ∃ (gs : List KObj) (id : Nat) (own : Bool) (z : Nat), wk v (.slice (some ⟨id, 0, some 2⟩) xs.length xs.length) ∧ (H ++ K ++ gs)[id]? = some (.cells own z (xs.flatMap f)) := by
  unfold Good2 at h
  rw [hu] at h
  rcases h with h | h | ⟨id, len, cs', h1, h2, h3, h4, h5⟩
  · exact ⟨_, [], h, by simp [maxLen], fun K => ⟨[.cells false 0 []], (H ++ K).length, false, 0, wk_nil _ _ _ (.inr rfl), by rw [List.getElem?_append_right (Nat.le_refl _)]; simp⟩⟩
  · exact ⟨_, [], h, by simp [maxLen], fun K => ⟨[.cells false 0 []], (H ++ K).length, false, 0, wk_E _ _ _ (.inr rfl), by rw [List.getElem?_append_right (Nat.le_refl _)]; simp⟩⟩
  · obtain ⟨xs, rfl, rfl, _⟩ := goodL_list (f := f) (q := fun _ => True) hg len cs' h5
    refine ⟨_, xs, h1, h4, fun K => ⟨[], id, false, 0, wk_R, ?_⟩⟩
    rw [List.append_nil, List.getElem?_append_left (List.getElem?_eq_some_iff.1 h2).1]; exact h2
theorem goodV2_slice {α : Type} {f : α → List Value} {H : Heap} {t e : Nat} {v : Value} (hu : Tryz.prog.underlying t = some (.slice e)) (hg : ∀ c, GoodD Tryz.prog 5 e c → ∃ x : α, c = f x ∧ True) (h : GoodV2 Tryz.prog H 6 t v) :
    ∃ xs : List α, xs.length ≤ maxLen ∧ ∀ K : Heap, ∃ (gs : List KObj) (id : Nat) (own : Bool) (z : Nat), wk v (.slice (some ⟨id, 0, some 2⟩) xs.length xs.length) ∧ (H ++ K ++ gs)[id]? = some (.cells own z (xs.flatMap f)) := by
  unfold GoodV2 at h
  rw [hu] at h
  obtain ⟨v', xs, h1, h2, h3⟩ := slice_read2 hu hg h
  cases h1
  exact ⟨xs, h2, h3⟩
theorem good2_int {H : Heap} {v : Value} (h : GoodV2 Tryz.prog H 6 3 v) : ∃ x : Int, v = .int .i64 x ∧ inI x := by
  have hu : Tryz.prog.underlying 3 = some (.int .i64) := by kernel_rfl
  unfold GoodV2 at h
  rw [hu] at h
  obtain ⟨ns, h1, h2, h3⟩ := flatI_good2 6 3 1 [v] (by unfold flatI; rw [hu]) h
  match ns, h2 with
  | [x], _ => exact ⟨x, by simpa using h1, h3 x (by simp)⟩
theorem goodD_flat {α : Type} {f : α → List Value} {n m t : Nat} (hf : flatI Tryz.prog m t = some n) (hα : ∀ ns : List Int, ns.length = n → ∃ x : α, ns.map (Value.int .i64) = f x) :
    ∀ c, GoodD Tryz.prog m t c → ∃ x : α, c = f x ∧ True := by
  intro c h
  obtain ⟨ns, rfl, h2, _⟩ := flatI_goodD m t n c hf h
  obtain ⟨x, hx⟩ := hα ns h2
  exact ⟨x, hx, trivial⟩
theorem int_of (ns : List Int) (h : ns.length = 1) : ∃ x : Int, ns.map (Value.int .i64) = intC x := by
  match ns, h with
  | [x], _ => exact ⟨x, rfl⟩
theorem rq_of (ns : List Int) (h : ns.length = 7) : ∃ r : Rq, ns.map (Value.int .i64) = rqC r := by
  match ns, h with
  | [a, b, c, d, e, f, g], _ => exact ⟨⟨a, b, c, d, e, f, g⟩, rfl⟩
theorem sv_of (ns : List Int) (h : ns.length = 5) : ∃ r : Sv, ns.map (Value.int .i64) = svC r := by
  match ns, h with
  | [a, b, c, d, e], _ => exact ⟨⟨a, b, c, d, e⟩, rfl⟩
theorem goodD_ints {n : Nat} {c : List Value} (hf : flatI Tryz.prog n 3 = some 1) (h : GoodD Tryz.prog (n + 1) 23 c) : ∃ l : List Int, c = [inV l] ∧ True := by
  unfold GoodD at h
  rw [show Tryz.prog.underlying 23 = some (.slice 3) by kernel_rfl] at h
  obtain ⟨len, ds, h1, h2, h3, h4⟩ := h
  obtain ⟨xs, e1, e2, _⟩ := goodL_list (f := intC) (q := fun _ => True) (goodD_flat hf int_of) len ds h4
  subst e1 e2
  exact ⟨xs, h1, trivial⟩
theorem inL_flat (ll : List (List Int)) : ll.flatMap (fun l => [inV l]) = inL ll := by
  induction ll with
  | nil => rfl
  | cons l ll ih => rw [List.flatMap_cons, ih]; rfl
/-- The places that are made where two arguments' lists are read. -/
theorem fleet_read2 {H : Heap} {v : Value} (h : GoodV2 Tryz.prog H 6 25 v) : ∃ f : Fleet, ∀ K : Heap, ∃ (gs : List KObj) (i j : Nat) (o o2 : Bool) (z z2 : Nat), wk v (fleetV f i j) ∧ (H ++ K ++ gs)[i]? = some (.cells o z (inL f.t)) ∧ (H ++ K ++ gs)[j]? = some (.cells o2 z2 (f.b.flatMap intC)) := by
  have hu : ∃ fs, Tryz.prog.underlying 25 = some (.struct fs) ∧ fs.toList.map (·.type) = [22, 23] := by
    have : (match Tryz.prog.underlying 25 with | some (.struct fs) => decide (fs.toList.map (·.type) = [22, 23]) | _ => false) = true := by kernel_rfl
    split at this
    · rename_i fs e; exact ⟨fs, e, of_decide_eq_true this⟩
    · cases this
  obtain ⟨fs, hu, ht⟩ := hu
  unfold GoodV2 at h
  rw [hu] at h
  obtain ⟨cs, rfl, h⟩ := h
  unfold Good2 at h
  rw [hu] at h
  simp only [ht] at h
  obtain ⟨c1, r1, rfl, h1, c2, r2, rfl, h2, h3⟩ := h
  obtain rfl : r2 = [] := h3
  obtain ⟨v1, xs, rfl, _, q1⟩ := slice_read2 (f := fun l => [inV l]) (n := 4) (e := 23) (by kernel_rfl) (fun c hc => goodD_ints (by kernel_rfl) hc) h1
  obtain ⟨v2, ys, rfl, _, q2⟩ := slice_read2 (f := intC) (n := 4) (e := 3) (by kernel_rfl) (goodD_flat (by kernel_rfl) int_of) h2
  refine ⟨⟨xs, ys⟩, fun K => ?_⟩
  obtain ⟨gs1, i, o, z, g1, g2⟩ := q1 K
  obtain ⟨gs2, j, o2, z2, g3, g4⟩ := q2 (K ++ gs1)
  rw [inL_flat] at g2
  refine ⟨gs1 ++ gs2, i, j, o, o2, z, z2, wk_aggL ⟨g1, g3, trivial⟩, ?_, ?_⟩
  · rw [← List.append_assoc, List.getElem?_append_left (List.getElem?_eq_some_iff.1 g2).1]; exact g2
  · rw [← List.append_assoc] at g4 ⊢; exact g4
theorem rqs_read2 {H : Heap} {v : Value} (h : GoodV2 Tryz.prog H 6 29 v) : ∃ l : List Rq, l.length ≤ maxLen ∧ ∀ K : Heap, ∃ (gs : List KObj) (id : Nat) (own : Bool) (z : Nat), wk v (.slice (some ⟨id, 0, some 2⟩) l.length l.length) ∧ (H ++ K ++ gs)[id]? = some (.cells own z (l.flatMap rqC)) :=
  goodV2_slice (e := 109) (f := rqC) (by kernel_rfl) (goodD_flat (by kernel_rfl) rq_of) h
theorem svs_read2 {H : Heap} {v : Value} (h : GoodV2 Tryz.prog H 6 67 v) : ∃ l : List Sv, l.length ≤ maxLen ∧ ∀ K : Heap, ∃ (gs : List KObj) (id : Nat) (own : Bool) (z : Nat), wk v (.slice (some ⟨id, 0, some 2⟩) l.length l.length) ∧ (H ++ K ++ gs)[id]? = some (.cells own z (l.flatMap svC)) :=
  goodV2_slice (e := 91) (f := svC) (by kernel_rfl) (goodD_flat (by kernel_rfl) sv_of) h
theorem pol_read2 {H : Heap} {v : Value} (h : GoodV2 Tryz.prog H 6 28 v) : ∃ q : Pol, v = .agg ⟨polC q⟩ := by
  have hu : ∃ fs, Tryz.prog.underlying 28 = some (.struct fs) ∧ fs.toList.map (·.type) = [3, 3, 26] := by
    have : (match Tryz.prog.underlying 28 with | some (.struct fs) => decide (fs.toList.map (·.type) = [3, 3, 26]) | _ => false) = true := by kernel_rfl
    split at this
    · rename_i fs e; exact ⟨fs, e, of_decide_eq_true this⟩
    · cases this
  obtain ⟨fs, hu, ht⟩ := hu
  have ha : Tryz.prog.underlying 26 = some (.array 3 3) := by kernel_rfl
  have one : ∀ (m : Nat) (c : List Value), Good2 Tryz.prog H (m + 1) 3 c → ∃ x : Int, c = [.int .i64 x] := by
    intro m c h
    have hf : flatI Tryz.prog (m + 1) 3 = some 1 := by
      unfold flatI; rw [show Tryz.prog.underlying 3 = some (.int .i64) by kernel_rfl]
    obtain ⟨ns, rfl, h2, _⟩ := flatI_good2 (m + 1) 3 1 c hf h
    match ns, h2 with
    | [x], _ => exact ⟨x, rfl⟩
  unfold GoodV2 at h
  rw [hu] at h
  obtain ⟨cs, rfl, h⟩ := h
  unfold Good2 at h
  rw [hu] at h
  simp only [ht] at h
  obtain ⟨c1, r1, rfl, h1, c2, r2, rfl, h2, c3, r3, rfl, h3, h4⟩ := h
  obtain rfl : r3 = [] := h4
  obtain ⟨a, rfl⟩ := one _ _ h1
  obtain ⟨b, rfl⟩ := one _ _ h2
  unfold Good2 at h3
  rw [ha] at h3
  obtain ⟨d1, s1, rfl, k1, d2, s2, rfl, k2, d3, s3, rfl, k3, k4⟩ := h3
  obtain rfl : s3 = [] := k4
  obtain ⟨x, rfl⟩ := one _ _ k1
  obtain ⟨y, rfl⟩ := one _ _ k2
  obtain ⟨z, rfl⟩ := one _ _ k3
  exact ⟨⟨a, b, x, y, z⟩, rfl⟩
end
end Go.Proofs.YthdekmpkioikdaaGreat
