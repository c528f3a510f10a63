/- Closed calls of the chapter's examples. Printed by a program. No condition. -/
import Derived.Test.YthdekmpkioikdaaGreatGR4xZ1
import Derived.Test.YthdekmpkioikdaaGreatZ4
namespace Go.Proofs.YthdekmpkioikdaaGreat
set_option linter.unusedSimpArgs false
open Go Go.K
set_option maxRecDepth 1000000
set_option maxHeartbeats 4000000
set_option linter.unusedVariables false
noncomputable section
attribute [local irreducible] vF
def R48_m : Prop :=
 (jzu /\ (∀ H' : Heap,H'.length = 9 -> (jzr H') -> KCall prog 30 jzj H' [] (Is (nI 0) H')) /\ (jzu /\ (∀ H' : Heap,H'.length = 7 -> (jzr H') -> KCall prog 62 jz10 H' [] (Is (.tuple #[sL 7 1 1,nI 32,.bool true]) (H' ++ [(.cells true 1 [sL 8 3 3] : KObj),jzw]))) /\ (true = true /\ wk (.tuple #[sL 7 1 1,nI 32,nI 0] : Value) (rn (sg 5 [(5,7),(6,8)]) 3 (.tuple #[sL 5 1 1,nI 32,nI 0] : Value)) /\ (wkO (.cells true 1 [sL 8 3 3] : KObj) (rno (sg 5 [(5,7),(6,8)]) 3 (.cells true 1 [sL 6 3 3] : KObj)) /\ wkO jzw (rno (sg 5 [(5,7),(6,8)]) 3 jzw) /\ True))))
theorem E48_m : vF prog msk (dm 0) 100000 true 40 true 48 jzj jzk (some [])
 (.go 14 (.ans [jzc,jzd,jze,jzf,jzg] (nI 0) [] (.go 16 (.ans [jzc,jzd,jze,jzf,jzg] (.tuple #[sL 7 1 1,nI 32,.bool true]) [.cells true 1 [sL 8 3 3],.cells true 1 jzq] (.go 14 (.again [(5,7),(6,8)]))))))
 (newK jzk.n 3 (.tuple #[sL 5 1 1,nI 32,nI 0]) jz15) = R48_m:=by kernel_rfl
theorem P48_m : R48_m:=⟨⟨rfl,rfl,rfl,rfl,rfl,trivial⟩,fun H' _ h => C30_k [0,1,2,3,4] ⟨⟨_,_,h.1⟩,⟨_,_,h.2.1⟩,⟨_,_,h.2.2.1⟩,⟨_,_,h.2.2.2.1⟩,⟨_,_,h.2.2.2.2.1⟩,trivial⟩,⟨⟨rfl,rfl,rfl,rfl,rfl,trivial⟩,fun H' hl h => (by have k:=C62_n (H:=H') [0,1,2,3,4] ⟨⟨_,_,h.1⟩,⟨_,_,h.2.1⟩,⟨_,_,h.2.2.1⟩,⟨_,_,h.2.2.2.1⟩,⟨_,_,h.2.2.2.2.1⟩,trivial⟩; rw [hl] at k; exact k),⟨rfl,wk_of_eq rfl,wkO_of_eq rfl,wkO_of_eq rfl,trivial⟩⟩⟩
theorem C48_m {H : Heap} (ids : List Nat) (h : InsA H (sgR 0 ids) ids [[sL 3 2 2,sL 4 2 2],[nI 0],jz0,[nI 0,nI 4],[nI 4,nI 0]]) : KCall prog 48 ((jzj : List Value).map (rn (sgR 0 ids) 3)) H [] (Is (rn (sgUp 5 H.length) 3 (.tuple #[sL 5 1 1,nI 32,nI 0])) (H ++ [rno (sgUp 5 H.length) 3 (.cells true 1 [sL 6 3 3]),rno (sgUp 5 H.length) 3 (.cells true 1 jzq)])) :=
 valNA (css:=[[sL 3 2 2,sL 4 2 2],[nI 0],jz0,[nI 0,nI 4],[nI 4,nI 0]]) (v:=.tuple #[sL 5 1 1,nI 32,nI 0]) (new:=jz15) (Eq.mpr E48_m P48_m) rfl rfl rfl rfl ids h.len h.get
end
end Go.Proofs.YthdekmpkioikdaaGreat
/- Closed calls of the chapter's examples. Printed by a program. No condition. -/
namespace Go.Proofs.YthdekmpkioikdaaGreat
set_option linter.unusedSimpArgs false
open Go Go.K
set_option maxRecDepth 1000000
set_option maxHeartbeats 4000000
set_option linter.unusedVariables false
noncomputable section
attribute [local irreducible] vF
def R64_r (sp : Value) : Prop :=
 (((someR jzb) /\ (someR jz4) /\ (someR jz6) /\ (someR (.cells false 0 jz13 : KObj)) /\ (someR jz2) /\ (someR jz3) /\ True) /\ (∀ H' : Heap,H'.length = 8 -> (H'[0]? = some jzb /\ H'[1]? = some jz4 /\ H'[2]? = some jz6 /\ H'[3]? = some (.cells false 0 jz13 : KObj) /\ H'[4]? = some jz2 /\ H'[5]? = some jz3 /\ True) -> KCall prog 109 jz1 H' [] (Is jz1p H')) /\ jz1t = sp)
theorem E64_r (sp : Value) : vF prog msk (dm 0) 100000 true 40 true 64 jz7 jz2l (some [])
 (.go 6 (.ans [jzi,jzd,jze,(3,.cells false 0 jz13),jzl,jzm] jz1p [] (.auto)))
 (fun v _ _ => v = sp) = R64_r sp:=by kernel_rfl
theorem P64_r : R64_r (.bool false):=⟨⟨rfl,rfl,rfl,rfl,rfl,rfl,trivial⟩,fun H' _ h => C109_0 [0,1,2,3,4,5] ⟨⟨_,_,h.1⟩,⟨_,_,h.2.1⟩,⟨_,_,h.2.2.1⟩,⟨_,_,h.2.2.2.1⟩,⟨_,_,h.2.2.2.2.1⟩,⟨_,_,h.2.2.2.2.2.1⟩,trivial⟩,rfl⟩
theorem C64_r {H : Heap} (ids : List Nat) (h : InsA H (sgR 0 ids) ids [[sL 4 2 2,sL 5 2 2],[nI 0],jz0,jz13,[nI 0,nI 4],[nI 4,nI 0]]) : KCall prog 64 (jz14.map (rn (sgR 0 ids) 3)) H [] (Is (.bool false) H) :=
 valRA (css:=[[sL 4 2 2,sL 5 2 2],[nI 0],jz0,jz13,[nI 0,nI 4],[nI 4,nI 0]]) (Eq.mpr (E64_r _) P64_r) rfl ids h.len h.get
def R64_u (sp : Value) : Prop :=
 (((someR jzb) /\ (someR jz4) /\ (someR jz6) /\ (someR jz19) /\ (someR jz2) /\ (someR jz3) /\ (someR jz4) /\ True) /\ (∀ H' : Heap,H'.length = 9 -> (H'[0]? = some jzb /\ H'[1]? = some jz4 /\ H'[2]? = some jz6 /\ H'[3]? = some jz19 /\ H'[4]? = some jz2 /\ H'[5]? = some jz3 /\ H'[6]? = some jz4 /\ True) -> KCall prog 109 jz1 H' [] (Is jz1d H')) /\ jz1t = sp)
theorem E64_u (sp : Value) : vF prog msk (dm 0) 100000 true 40 true 64 jz7 jz2a (some [])
 (.go 6 (.ans [jzi,jzd,jze,jz33,jzl,jzm,(6,.cells false 0 [nI 0])] jz1d [] (.auto)))
 (fun v _ _ => v = sp) = R64_u sp:=by kernel_rfl
theorem P64_u : R64_u (.bool false):=⟨⟨rfl,rfl,rfl,rfl,rfl,rfl,rfl,trivial⟩,fun H' _ h => C109_6 [0,1,2,3,4,5,6] ⟨⟨_,_,h.1⟩,⟨_,_,h.2.1⟩,⟨_,_,h.2.2.1⟩,⟨_,_,h.2.2.2.1⟩,⟨_,_,h.2.2.2.2.1⟩,⟨_,_,h.2.2.2.2.2.1⟩,⟨_,_,h.2.2.2.2.2.2.1⟩,trivial⟩,rfl⟩
theorem C64_u {H : Heap} (ids : List Nat) (h : InsA H (sgR 0 ids) ids [[sL 4 2 2,sL 5 2 2],[nI 0],jz0,[sL 6 1 1],[nI 0,nI 4],[nI 4,nI 0],[nI 0]]) : KCall prog 64 (jz14.map (rn (sgR 0 ids) 3)) H [] (Is (.bool false) H) :=
 valRA (css:=[[sL 4 2 2,sL 5 2 2],[nI 0],jz0,[sL 6 1 1],[nI 0,nI 4],[nI 4,nI 0],[nI 0]]) (Eq.mpr (E64_u _) P64_u) rfl ids h.len h.get
def R64_w (sp : Value) : Prop :=
 (((someR jzb) /\ (someR jz4) /\ (someR jz6) /\ (someR jzt) /\ (someR jz2) /\ (someR jz3) /\ (someR (.cells false 0 [nI 0,nI 1] : KObj)) /\ True) /\ (∀ H' : Heap,H'.length = 9 -> (H'[0]? = some jzb /\ H'[1]? = some jz4 /\ H'[2]? = some jz6 /\ H'[3]? = some jzt /\ H'[4]? = some jz2 /\ H'[5]? = some jz3 /\ H'[6]? = some (.cells false 0 [nI 0,nI 1] : KObj) /\ True) -> KCall prog 109 jz1 H' [] (Is jzp H')) /\ jz23 = sp)
theorem E64_w (sp : Value) : vF prog msk (dm 0) 100000 true 40 true 64 jz7 jz1x (some [])
 (.go 6 (.ans [jzi,jzd,jze,jz1o,jzl,jzm,(6,.cells false 0 [nI 0,nI 1])] jzp [] (.auto)))
 (fun v _ _ => v = sp) = R64_w sp:=by kernel_rfl
theorem P64_w : R64_w (.bool true):=⟨⟨rfl,rfl,rfl,rfl,rfl,rfl,rfl,trivial⟩,fun H' _ h => C109_3 [0,1,2,3,4,5,6] ⟨⟨_,_,h.1⟩,⟨_,_,h.2.1⟩,⟨_,_,h.2.2.1⟩,⟨_,_,h.2.2.2.1⟩,⟨_,_,h.2.2.2.2.1⟩,⟨_,_,h.2.2.2.2.2.1⟩,⟨_,_,h.2.2.2.2.2.2.1⟩,trivial⟩,rfl⟩
theorem C64_w {H : Heap} (ids : List Nat) (h : InsA H (sgR 0 ids) ids [[sL 4 2 2,sL 5 2 2],[nI 0],jz0,[sL 6 2 2],[nI 0,nI 4],[nI 4,nI 0],[nI 0,nI 1]]) : KCall prog 64 (jz14.map (rn (sgR 0 ids) 3)) H [] (Is (.bool true) H) :=
 valRA (css:=[[sL 4 2 2,sL 5 2 2],[nI 0],jz0,[sL 6 2 2],[nI 0,nI 4],[nI 4,nI 0],[nI 0,nI 1]]) (Eq.mpr (E64_w _) P64_w) rfl ids h.len h.get
def R64_10 (sp : Value) : Prop :=
 (((someR jzb) /\ (someR jz4) /\ (someR jz6) /\ (someR jzt) /\ (someR jz2) /\ (someR jz3) /\ (someR (.cells false 0 [nI 0,nI 2] : KObj)) /\ True) /\ (∀ H' : Heap,H'.length = 9 -> (H'[0]? = some jzb /\ H'[1]? = some jz4 /\ H'[2]? = some jz6 /\ H'[3]? = some jzt /\ H'[4]? = some jz2 /\ H'[5]? = some jz3 /\ H'[6]? = some (.cells false 0 [nI 0,nI 2] : KObj) /\ True) -> KCall prog 109 jz1 H' [] (Is jzp H')) /\ jz23 = sp)
theorem E64_10 (sp : Value) : vF prog msk (dm 0) 100000 true 40 true 64 jz7 jz1y (some [])
 (.go 6 (.ans [jzi,jzd,jze,jz1o,jzl,jzm,(6,.cells false 0 [nI 0,nI 2])] jzp [] (.auto)))
 (fun v _ _ => v = sp) = R64_10 sp:=by kernel_rfl
theorem P64_10 : R64_10 (.bool true):=⟨⟨rfl,rfl,rfl,rfl,rfl,rfl,rfl,trivial⟩,fun H' _ h => C109_a [0,1,2,3,4,5,6] ⟨⟨_,_,h.1⟩,⟨_,_,h.2.1⟩,⟨_,_,h.2.2.1⟩,⟨_,_,h.2.2.2.1⟩,⟨_,_,h.2.2.2.2.1⟩,⟨_,_,h.2.2.2.2.2.1⟩,⟨_,_,h.2.2.2.2.2.2.1⟩,trivial⟩,rfl⟩
theorem C64_10 {H : Heap} (ids : List Nat) (h : InsA H (sgR 0 ids) ids [[sL 4 2 2,sL 5 2 2],[nI 0],jz0,[sL 6 2 2],[nI 0,nI 4],[nI 4,nI 0],[nI 0,nI 2]]) : KCall prog 64 (jz14.map (rn (sgR 0 ids) 3)) H [] (Is (.bool true) H) :=
 valRA (css:=[[sL 4 2 2,sL 5 2 2],[nI 0],jz0,[sL 6 2 2],[nI 0,nI 4],[nI 4,nI 0],[nI 0,nI 2]]) (Eq.mpr (E64_10 _) P64_10) rfl ids h.len h.get
def R64_v (sp : Value) : Prop :=
 (((someR jzb) /\ (someR jz4) /\ (someR jz6) /\ (someR jz19) /\ (someR jz2) /\ (someR jz3) /\ (someR (.cells false 0 [nI 1] : KObj)) /\ True) /\ (∀ H' : Heap,H'.length = 9 -> (H'[0]? = some jzb /\ H'[1]? = some jz4 /\ H'[2]? = some jz6 /\ H'[3]? = some jz19 /\ H'[4]? = some jz2 /\ H'[5]? = some jz3 /\ H'[6]? = some (.cells false 0 [nI 1] : KObj) /\ True) -> KCall prog 109 jz1 H' [] (Is jz1e H')) /\ jz1t = sp)
theorem E64_v (sp : Value) : vF prog msk (dm 0) 100000 true 40 true 64 jz7 jz2b (some [])
 (.go 6 (.ans [jzi,jzd,jze,jz33,jzl,jzm,(6,.cells false 0 [nI 1])] jz1e [] (.auto)))
 (fun v _ _ => v = sp) = R64_v sp:=by kernel_rfl
theorem P64_v : R64_v (.bool false):=⟨⟨rfl,rfl,rfl,rfl,rfl,rfl,rfl,trivial⟩,fun H' _ h => C109_1 [0,1,2,3,4,5,6] ⟨⟨_,_,h.1⟩,⟨_,_,h.2.1⟩,⟨_,_,h.2.2.1⟩,⟨_,_,h.2.2.2.1⟩,⟨_,_,h.2.2.2.2.1⟩,⟨_,_,h.2.2.2.2.2.1⟩,⟨_,_,h.2.2.2.2.2.2.1⟩,trivial⟩,rfl⟩
theorem C64_v {H : Heap} (ids : List Nat) (h : InsA H (sgR 0 ids) ids [[sL 4 2 2,sL 5 2 2],[nI 0],jz0,[sL 6 1 1],[nI 0,nI 4],[nI 4,nI 0],[nI 1]]) : KCall prog 64 (jz14.map (rn (sgR 0 ids) 3)) H [] (Is (.bool false) H) :=
 valRA (css:=[[sL 4 2 2,sL 5 2 2],[nI 0],jz0,[sL 6 1 1],[nI 0,nI 4],[nI 4,nI 0],[nI 1]]) (Eq.mpr (E64_v _) P64_v) rfl ids h.len h.get
def R64_11 (sp : Value) : Prop :=
 (((someR jzb) /\ (someR jz4) /\ (someR jz6) /\ (someR jzt) /\ (someR jz2) /\ (someR jz3) /\ (someR (.cells false 0 [nI 1,nI 0] : KObj)) /\ True) /\ (∀ H' : Heap,H'.length = 9 -> (H'[0]? = some jzb /\ H'[1]? = some jz4 /\ H'[2]? = some jz6 /\ H'[3]? = some jzt /\ H'[4]? = some jz2 /\ H'[5]? = some jz3 /\ H'[6]? = some (.cells false 0 [nI 1,nI 0] : KObj) /\ True) -> KCall prog 109 jz1 H' [] (Is jz1f H')) /\ jz1t = sp)
theorem E64_11 (sp : Value) : vF prog msk (dm 0) 100000 true 40 true 64 jz7 jz1z (some [])
 (.go 6 (.ans [jzi,jzd,jze,jz1o,jzl,jzm,(6,.cells false 0 [nI 1,nI 0])] jz1f [] (.auto)))
 (fun v _ _ => v = sp) = R64_11 sp:=by kernel_rfl
theorem P64_11 : R64_11 (.bool false):=⟨⟨rfl,rfl,rfl,rfl,rfl,rfl,rfl,trivial⟩,fun H' _ h => C109_d [0,1,2,3,4,5,6] ⟨⟨_,_,h.1⟩,⟨_,_,h.2.1⟩,⟨_,_,h.2.2.1⟩,⟨_,_,h.2.2.2.1⟩,⟨_,_,h.2.2.2.2.1⟩,⟨_,_,h.2.2.2.2.2.1⟩,⟨_,_,h.2.2.2.2.2.2.1⟩,trivial⟩,rfl⟩
theorem C64_11 {H : Heap} (ids : List Nat) (h : InsA H (sgR 0 ids) ids [[sL 4 2 2,sL 5 2 2],[nI 0],jz0,[sL 6 2 2],[nI 0,nI 4],[nI 4,nI 0],[nI 1,nI 0]]) : KCall prog 64 (jz14.map (rn (sgR 0 ids) 3)) H [] (Is (.bool false) H) :=
 valRA (css:=[[sL 4 2 2,sL 5 2 2],[nI 0],jz0,[sL 6 2 2],[nI 0,nI 4],[nI 4,nI 0],[nI 1,nI 0]]) (Eq.mpr (E64_11 _) P64_11) rfl ids h.len h.get
def R64_q (sp : Value) : Prop :=
 (((someR jzb) /\ (someR jz4) /\ (someR jz6) /\ (someR jz12) /\ (someR jz2) /\ (someR jz3) /\ (someR (.cells false 0 jzq : KObj)) /\ True) /\ (∀ H' : Heap,H'.length = 9 -> (H'[0]? = some jzb /\ H'[1]? = some jz4 /\ H'[2]? = some jz6 /\ H'[3]? = some jz12 /\ H'[4]? = some jz2 /\ H'[5]? = some jz3 /\ H'[6]? = some (.cells false 0 jzq : KObj) /\ True) -> KCall prog 109 jz1 H' [] (Is jz1g H')) /\ jz23 = sp)
theorem E64_q (sp : Value) : vF prog msk (dm 0) 100000 true 40 true 64 jz7 jz2f (some [])
 (.go 6 (.ans [jzi,jzd,jze,jz2k,jzl,jzm,(6,.cells false 0 jzq)] jz1g [] (.auto)))
 (fun v _ _ => v = sp) = R64_q sp:=by kernel_rfl
theorem P64_q : R64_q (.bool true):=⟨⟨rfl,rfl,rfl,rfl,rfl,rfl,rfl,trivial⟩,fun H' _ h => C109_c [0,1,2,3,4,5,6] ⟨⟨_,_,h.1⟩,⟨_,_,h.2.1⟩,⟨_,_,h.2.2.1⟩,⟨_,_,h.2.2.2.1⟩,⟨_,_,h.2.2.2.2.1⟩,⟨_,_,h.2.2.2.2.2.1⟩,⟨_,_,h.2.2.2.2.2.2.1⟩,trivial⟩,rfl⟩
theorem C64_q {H : Heap} (ids : List Nat) (h : InsA H (sgR 0 ids) ids [[sL 4 2 2,sL 5 2 2],[nI 0],jz0,[sL 6 3 3],[nI 0,nI 4],[nI 4,nI 0],jzq]) : KCall prog 64 (jz14.map (rn (sgR 0 ids) 3)) H [] (Is (.bool true) H) :=
 valRA (css:=[[sL 4 2 2,sL 5 2 2],[nI 0],jz0,[sL 6 3 3],[nI 0,nI 4],[nI 4,nI 0],jzq]) (Eq.mpr (E64_q _) P64_q) rfl ids h.len h.get
def R64_z (sp : Value) : Prop :=
 (((someR jzb) /\ (someR jz4) /\ (someR jz6) /\ (someR jzt) /\ (someR jz2) /\ (someR jz3) /\ (someR (.cells false 0 [nI 1,nI 2] : KObj)) /\ True) /\ (∀ H' : Heap,H'.length = 9 -> (H'[0]? = some jzb /\ H'[1]? = some jz4 /\ H'[2]? = some jz6 /\ H'[3]? = some jzt /\ H'[4]? = some jz2 /\ H'[5]? = some jz3 /\ H'[6]? = some (.cells false 0 [nI 1,nI 2] : KObj) /\ True) -> KCall prog 109 jz1 H' [] (Is jz1h H')) /\ jz1t = sp)
theorem E64_z (sp : Value) : vF prog msk (dm 0) 100000 true 40 true 64 jz7 jz20 (some [])
 (.go 6 (.ans [jzi,jzd,jze,jz1o,jzl,jzm,(6,.cells false 0 [nI 1,nI 2])] jz1h [] (.auto)))
 (fun v _ _ => v = sp) = R64_z sp:=by kernel_rfl
theorem P64_z : R64_z (.bool false):=⟨⟨rfl,rfl,rfl,rfl,rfl,rfl,rfl,trivial⟩,fun H' _ h => C109_2 [0,1,2,3,4,5,6] ⟨⟨_,_,h.1⟩,⟨_,_,h.2.1⟩,⟨_,_,h.2.2.1⟩,⟨_,_,h.2.2.2.1⟩,⟨_,_,h.2.2.2.2.1⟩,⟨_,_,h.2.2.2.2.2.1⟩,⟨_,_,h.2.2.2.2.2.2.1⟩,trivial⟩,rfl⟩
theorem C64_z {H : Heap} (ids : List Nat) (h : InsA H (sgR 0 ids) ids [[sL 4 2 2,sL 5 2 2],[nI 0],jz0,[sL 6 2 2],[nI 0,nI 4],[nI 4,nI 0],[nI 1,nI 2]]) : KCall prog 64 (jz14.map (rn (sgR 0 ids) 3)) H [] (Is (.bool false) H) :=
 valRA (css:=[[sL 4 2 2,sL 5 2 2],[nI 0],jz0,[sL 6 2 2],[nI 0,nI 4],[nI 4,nI 0],[nI 1,nI 2]]) (Eq.mpr (E64_z _) P64_z) rfl ids h.len h.get
def R64_t (sp : Value) : Prop :=
 (((someR jzb) /\ (someR jz4) /\ (someR jz6) /\ (someR jz12) /\ (someR jz2) /\ (someR jz3) /\ (someR (.cells false 0 jzx : KObj)) /\ True) /\ (∀ H' : Heap,H'.length = 9 -> (H'[0]? = some jzb /\ H'[1]? = some jz4 /\ H'[2]? = some jz6 /\ H'[3]? = some jz12 /\ H'[4]? = some jz2 /\ H'[5]? = some jz3 /\ H'[6]? = some (.cells false 0 jzx : KObj) /\ True) -> KCall prog 109 jz1 H' [] (Is jz1i H')) /\ jz23 = sp)
theorem E64_t (sp : Value) : vF prog msk (dm 0) 100000 true 40 true 64 jz7 jz2g (some [])
 (.go 6 (.ans [jzi,jzd,jze,jz2k,jzl,jzm,(6,.cells false 0 jzx)] jz1i [] jzo))
 (fun v _ _ => v = sp) = R64_t sp:=by kernel_rfl
theorem P64_t : R64_t (.bool true):=⟨⟨rfl,rfl,rfl,rfl,rfl,rfl,rfl,trivial⟩,fun H' _ h => C109_4 [0,1,2,3,4,5,6] ⟨⟨_,_,h.1⟩,⟨_,_,h.2.1⟩,⟨_,_,h.2.2.1⟩,⟨_,_,h.2.2.2.1⟩,⟨_,_,h.2.2.2.2.1⟩,⟨_,_,h.2.2.2.2.2.1⟩,⟨_,_,h.2.2.2.2.2.2.1⟩,trivial⟩,rfl⟩
theorem C64_t {H : Heap} (ids : List Nat) (h : InsA H (sgR 0 ids) ids [[sL 4 2 2,sL 5 2 2],[nI 0],jz0,[sL 6 3 3],[nI 0,nI 4],[nI 4,nI 0],jzx]) : KCall prog 64 (jz14.map (rn (sgR 0 ids) 3)) H [] (Is (.bool true) H) :=
 valRA (css:=[[sL 4 2 2,sL 5 2 2],[nI 0],jz0,[sL 6 3 3],[nI 0,nI 4],[nI 4,nI 0],jzx]) (Eq.mpr (E64_t _) P64_t) rfl ids h.len h.get
def R64_x (sp : Value) : Prop :=
 (((someR jzb) /\ (someR jz4) /\ (someR jz6) /\ (someR jz19) /\ (someR jz2) /\ (someR jz3) /\ (someR (.cells false 0 [nI 2] : KObj)) /\ True) /\ (∀ H' : Heap,H'.length = 9 -> (H'[0]? = some jzb /\ H'[1]? = some jz4 /\ H'[2]? = some jz6 /\ H'[3]? = some jz19 /\ H'[4]? = some jz2 /\ H'[5]? = some jz3 /\ H'[6]? = some (.cells false 0 [nI 2] : KObj) /\ True) -> KCall prog 109 jz1 H' [] (Is jz1j H')) /\ jz1t = sp)
theorem E64_x (sp : Value) : vF prog msk (dm 0) 100000 true 40 true 64 jz7 jz2c (some [])
 (.go 6 (.ans [jzi,jzd,jze,jz33,jzl,jzm,(6,.cells false 0 [nI 2])] jz1j [] (.auto)))
 (fun v _ _ => v = sp) = R64_x sp:=by kernel_rfl
theorem P64_x : R64_x (.bool false):=⟨⟨rfl,rfl,rfl,rfl,rfl,rfl,rfl,trivial⟩,fun H' _ h => C109_7 [0,1,2,3,4,5,6] ⟨⟨_,_,h.1⟩,⟨_,_,h.2.1⟩,⟨_,_,h.2.2.1⟩,⟨_,_,h.2.2.2.1⟩,⟨_,_,h.2.2.2.2.1⟩,⟨_,_,h.2.2.2.2.2.1⟩,⟨_,_,h.2.2.2.2.2.2.1⟩,trivial⟩,rfl⟩
theorem C64_x {H : Heap} (ids : List Nat) (h : InsA H (sgR 0 ids) ids [[sL 4 2 2,sL 5 2 2],[nI 0],jz0,[sL 6 1 1],[nI 0,nI 4],[nI 4,nI 0],[nI 2]]) : KCall prog 64 (jz14.map (rn (sgR 0 ids) 3)) H [] (Is (.bool false) H) :=
 valRA (css:=[[sL 4 2 2,sL 5 2 2],[nI 0],jz0,[sL 6 1 1],[nI 0,nI 4],[nI 4,nI 0],[nI 2]]) (Eq.mpr (E64_x _) P64_x) rfl ids h.len h.get
def R64_y (sp : Value) : Prop :=
 (((someR jzb) /\ (someR jz4) /\ (someR jz6) /\ (someR jzt) /\ (someR jz2) /\ (someR jz3) /\ (someR (.cells false 0 [nI 2,nI 0] : KObj)) /\ True) /\ (∀ H' : Heap,H'.length = 9 -> (H'[0]? = some jzb /\ H'[1]? = some jz4 /\ H'[2]? = some jz6 /\ H'[3]? = some jzt /\ H'[4]? = some jz2 /\ H'[5]? = some jz3 /\ H'[6]? = some (.cells false 0 [nI 2,nI 0] : KObj) /\ True) -> KCall prog 109 jz1 H' [] (Is jz1k H')) /\ jz1t = sp)
theorem E64_y (sp : Value) : vF prog msk (dm 0) 100000 true 40 true 64 jz7 jz21 (some [])
 (.go 6 (.ans [jzi,jzd,jze,jz1o,jzl,jzm,(6,.cells false 0 [nI 2,nI 0])] jz1k [] (.auto)))
 (fun v _ _ => v = sp) = R64_y sp:=by kernel_rfl
theorem P64_y : R64_y (.bool false):=⟨⟨rfl,rfl,rfl,rfl,rfl,rfl,rfl,trivial⟩,fun H' _ h => C109_e [0,1,2,3,4,5,6] ⟨⟨_,_,h.1⟩,⟨_,_,h.2.1⟩,⟨_,_,h.2.2.1⟩,⟨_,_,h.2.2.2.1⟩,⟨_,_,h.2.2.2.2.1⟩,⟨_,_,h.2.2.2.2.2.1⟩,⟨_,_,h.2.2.2.2.2.2.1⟩,trivial⟩,rfl⟩
theorem C64_y {H : Heap} (ids : List Nat) (h : InsA H (sgR 0 ids) ids [[sL 4 2 2,sL 5 2 2],[nI 0],jz0,[sL 6 2 2],[nI 0,nI 4],[nI 4,nI 0],[nI 2,nI 0]]) : KCall prog 64 (jz14.map (rn (sgR 0 ids) 3)) H [] (Is (.bool false) H) :=
 valRA (css:=[[sL 4 2 2,sL 5 2 2],[nI 0],jz0,[sL 6 2 2],[nI 0,nI 4],[nI 4,nI 0],[nI 2,nI 0]]) (Eq.mpr (E64_y _) P64_y) rfl ids h.len h.get
def R64_s (sp : Value) : Prop :=
 (((someR jzb) /\ (someR jz4) /\ (someR jz6) /\ (someR jz12) /\ (someR jz2) /\ (someR jz3) /\ (someR (.cells false 0 jzy : KObj)) /\ True) /\ (∀ H' : Heap,H'.length = 9 -> (H'[0]? = some jzb /\ H'[1]? = some jz4 /\ H'[2]? = some jz6 /\ H'[3]? = some jz12 /\ H'[4]? = some jz2 /\ H'[5]? = some jz3 /\ H'[6]? = some (.cells false 0 jzy : KObj) /\ True) -> KCall prog 109 jz1 H' [] (Is jz1l H')) /\ jz23 = sp)
theorem E64_s (sp : Value) : vF prog msk (dm 0) 100000 true 40 true 64 jz7 jz2h (some [])
 (.go 6 (.ans [jzi,jzd,jze,jz2k,jzl,jzm,(6,.cells false 0 jzy)] jz1l [] (.auto)))
 (fun v _ _ => v = sp) = R64_s sp:=by kernel_rfl
theorem P64_s : R64_s (.bool true):=⟨⟨rfl,rfl,rfl,rfl,rfl,rfl,rfl,trivial⟩,fun H' _ h => C109_b [0,1,2,3,4,5,6] ⟨⟨_,_,h.1⟩,⟨_,_,h.2.1⟩,⟨_,_,h.2.2.1⟩,⟨_,_,h.2.2.2.1⟩,⟨_,_,h.2.2.2.2.1⟩,⟨_,_,h.2.2.2.2.2.1⟩,⟨_,_,h.2.2.2.2.2.2.1⟩,trivial⟩,rfl⟩
theorem C64_s {H : Heap} (ids : List Nat) (h : InsA H (sgR 0 ids) ids [[sL 4 2 2,sL 5 2 2],[nI 0],jz0,[sL 6 3 3],[nI 0,nI 4],[nI 4,nI 0],jzy]) : KCall prog 64 (jz14.map (rn (sgR 0 ids) 3)) H [] (Is (.bool true) H) :=
 valRA (css:=[[sL 4 2 2,sL 5 2 2],[nI 0],jz0,[sL 6 3 3],[nI 0,nI 4],[nI 4,nI 0],jzy]) (Eq.mpr (E64_s _) P64_s) rfl ids h.len h.get
def R64_o (sp : Value) : Prop :=
 (((someR jzb) /\ (someR jz4) /\ (someR jz6) /\ (someR jzt) /\ (someR jz2) /\ (someR jz3) /\ (someR (.cells false 0 [nI 2,nI 1] : KObj)) /\ True) /\ (∀ H' : Heap,H'.length = 9 -> (H'[0]? = some jzb /\ H'[1]? = some jz4 /\ H'[2]? = some jz6 /\ H'[3]? = some jzt /\ H'[4]? = some jz2 /\ H'[5]? = some jz3 /\ H'[6]? = some (.cells false 0 [nI 2,nI 1] : KObj) /\ True) -> KCall prog 109 jz1 H' [] (Is jz1m H')) /\ jz1t = sp)
theorem E64_o (sp : Value) : vF prog msk (dm 0) 100000 true 40 true 64 jz7 jz22 (some [])
 (.go 6 (.ans [jzi,jzd,jze,jz1o,jzl,jzm,(6,.cells false 0 [nI 2,nI 1])] jz1m [] (.auto)))
 (fun v _ _ => v = sp) = R64_o sp:=by kernel_rfl
theorem P64_o : R64_o (.bool false):=⟨⟨rfl,rfl,rfl,rfl,rfl,rfl,rfl,trivial⟩,fun H' _ h => C109_8 [0,1,2,3,4,5,6] ⟨⟨_,_,h.1⟩,⟨_,_,h.2.1⟩,⟨_,_,h.2.2.1⟩,⟨_,_,h.2.2.2.1⟩,⟨_,_,h.2.2.2.2.1⟩,⟨_,_,h.2.2.2.2.2.1⟩,⟨_,_,h.2.2.2.2.2.2.1⟩,trivial⟩,rfl⟩
theorem C64_o {H : Heap} (ids : List Nat) (h : InsA H (sgR 0 ids) ids [[sL 4 2 2,sL 5 2 2],[nI 0],jz0,[sL 6 2 2],[nI 0,nI 4],[nI 4,nI 0],[nI 2,nI 1]]) : KCall prog 64 (jz14.map (rn (sgR 0 ids) 3)) H [] (Is (.bool false) H) :=
 valRA (css:=[[sL 4 2 2,sL 5 2 2],[nI 0],jz0,[sL 6 2 2],[nI 0,nI 4],[nI 4,nI 0],[nI 2,nI 1]]) (Eq.mpr (E64_o _) P64_o) rfl ids h.len h.get
def R64_p (sp : Value) : Prop :=
 (((someR jzb) /\ (someR jz4) /\ (someR jz6) /\ (someR jz12) /\ (someR jz2) /\ (someR jz3) /\ (someR (.cells false 0 jzz : KObj)) /\ True) /\ (∀ H' : Heap,H'.length = 9 -> (H'[0]? = some jzb /\ H'[1]? = some jz4 /\ H'[2]? = some jz6 /\ H'[3]? = some jz12 /\ H'[4]? = some jz2 /\ H'[5]? = some jz3 /\ H'[6]? = some (.cells false 0 jzz : KObj) /\ True) -> KCall prog 109 jz1 H' [] (Is jz1n H')) /\ jz23 = sp)
theorem E64_p (sp : Value) : vF prog msk (dm 0) 100000 true 40 true 64 jz7 jz2i (some [])
 (.go 6 (.ans [jzi,jzd,jze,jz2k,jzl,jzm,(6,.cells false 0 jzz)] jz1n [] jzo))
 (fun v _ _ => v = sp) = R64_p sp:=by kernel_rfl
theorem P64_p : R64_p (.bool true):=⟨⟨rfl,rfl,rfl,rfl,rfl,rfl,rfl,trivial⟩,fun H' _ h => C109_f [0,1,2,3,4,5,6] ⟨⟨_,_,h.1⟩,⟨_,_,h.2.1⟩,⟨_,_,h.2.2.1⟩,⟨_,_,h.2.2.2.1⟩,⟨_,_,h.2.2.2.2.1⟩,⟨_,_,h.2.2.2.2.2.1⟩,⟨_,_,h.2.2.2.2.2.2.1⟩,trivial⟩,rfl⟩
theorem C64_p {H : Heap} (ids : List Nat) (h : InsA H (sgR 0 ids) ids [[sL 4 2 2,sL 5 2 2],[nI 0],jz0,[sL 6 3 3],[nI 0,nI 4],[nI 4,nI 0],jzz]) : KCall prog 64 (jz14.map (rn (sgR 0 ids) 3)) H [] (Is (.bool true) H) :=
 valRA (css:=[[sL 4 2 2,sL 5 2 2],[nI 0],jz0,[sL 6 3 3],[nI 0,nI 4],[nI 4,nI 0],jzz]) (Eq.mpr (E64_p _) P64_p) rfl ids h.len h.get
end
end Go.Proofs.YthdekmpkioikdaaGreat
/- Closed calls of the chapter's examples. Printed by a program. No condition. -/
namespace Go.Proofs.YthdekmpkioikdaaGreat
set_option linter.unusedSimpArgs false
open Go Go.K
set_option maxRecDepth 1000000
set_option maxHeartbeats 4000000
set_option linter.unusedVariables false
noncomputable section
attribute [local irreducible] vF
def R18_h : Prop :=
 (jzu /\ (∀ H' : Heap,H'.length = 13 -> (jzr H') -> KCall prog 30 jzj H' [] (Is (nI 0) H')) /\ (jzu /\ (∀ H' : Heap,H'.length = 10 -> (jzr H') -> KCall prog 62 jz10 H' [] (Is (.tuple #[sL 10 1 1,nI 32,.bool true]) (H' ++ [(.cells true 1 [sL 11 3 3] : KObj),jzw]))) /\ (jz1s /\ (∀ H' : Heap,H'.length = 15 -> (H'[0]? = some jz5 /\ H'[1]? = some jz4 /\ H'[2]? = some jz6 /\ H'[14]? = some (.cells true 1 jz13 : KObj) /\ H'[3]? = some jz2 /\ H'[4]? = some jz3 /\ True) -> KCall prog 64 [.agg #[nI 1,nI 0,nI 1,nI 1,nI 1],.agg #[sL 0 2 2,sL 1 1 1],sL 2 3 3,sL 14 1 1,nI 32] H' [] (jz2r H')) /\ (((someR jz5) /\ (someR jz4) /\ (someR jz6) /\ (someR (.cells true 1 [sL 21 1 1] : KObj)) /\ jz3b) /\ (∀ H' : Heap,H'.length = 22 -> (H'[0]? = some jz5 /\ H'[1]? = some jz4 /\ H'[2]? = some jz6 /\ H'[19]? = some (.cells true 1 [sL 21 1 1] : KObj) /\ H'[3]? = some jz2 /\ H'[4]? = some jz3 /\ H'[21]? = some jzv /\ True) -> KCall prog 64 [.agg #[nI 1,nI 0,nI 1,nI 1,nI 1],.agg #[sL 0 2 2,sL 1 1 1],sL 2 3 3,sL 19 1 1,nI 32] H' [] (jz2r H')) /\ (((someR jz5) /\ (someR jz4) /\ (someR jz6) /\ (someR (.cells true 1 [sL 31 2 2] : KObj)) /\ jz16) /\ (∀ H' : Heap,H'.length = 32 -> (H'[0]? = some jz5 /\ H'[1]? = some jz4 /\ H'[2]? = some jz6 /\ H'[27]? = some (.cells true 1 [sL 31 2 2] : KObj) /\ H'[3]? = some jz2 /\ H'[4]? = some jz3 /\ H'[31]? = some jz2y /\ True) -> KCall prog 64 [.agg #[nI 1,nI 0,nI 1,nI 1,nI 1],.agg #[sL 0 2 2,sL 1 1 1],sL 2 3 3,sL 27 1 1,nI 32] H' [] (jz1v H')) /\ (((someR jz5) /\ (someR jz4) /\ (someR jz6) /\ (someR (.cells true 1 [sL 40 2 2] : KObj)) /\ jz17) /\ (∀ H' : Heap,H'.length = 41 -> (H'[0]? = some jz5 /\ H'[1]? = some jz4 /\ H'[2]? = some jz6 /\ H'[36]? = some (.cells true 1 [sL 40 2 2] : KObj) /\ H'[3]? = some jz2 /\ H'[4]? = some jz3 /\ H'[40]? = some jz2z /\ True) -> KCall prog 64 [.agg #[nI 1,nI 0,nI 1,nI 1,nI 1],.agg #[sL 0 2 2,sL 1 1 1],sL 2 3 3,sL 36 1 1,nI 32] H' [] (jz1v H')) /\ (((someR jz5) /\ (someR jz4) /\ (someR jz6) /\ (someR (.cells true 1 [sL 47 1 1] : KObj)) /\ jz35) /\ (∀ H' : Heap,H'.length = 48 -> (H'[0]? = some jz5 /\ H'[1]? = some jz4 /\ H'[2]? = some jz6 /\ H'[45]? = some (.cells true 1 [sL 47 1 1] : KObj) /\ H'[3]? = some jz2 /\ H'[4]? = some jz3 /\ H'[47]? = some jz2m /\ True) -> KCall prog 64 [.agg #[nI 1,nI 0,nI 1,nI 1,nI 1],.agg #[sL 0 2 2,sL 1 1 1],sL 2 3 3,sL 45 1 1,nI 32] H' [] (jz2r H')) /\ (((someR jz5) /\ (someR jz4) /\ (someR jz6) /\ (someR (.cells true 1 [sL 56 2 2] : KObj)) /\ jz36) /\ (∀ H' : Heap,H'.length = 57 -> (H'[0]? = some jz5 /\ H'[1]? = some jz4 /\ H'[2]? = some jz6 /\ H'[52]? = some (.cells true 1 [sL 56 2 2] : KObj) /\ H'[3]? = some jz2 /\ H'[4]? = some jz3 /\ H'[56]? = some jz25 /\ True) -> KCall prog 64 [.agg #[nI 1,nI 0,nI 1,nI 1,nI 1],.agg #[sL 0 2 2,sL 1 1 1],sL 2 3 3,sL 52 1 1,nI 32] H' [] (jz2r H')) /\ (((someR jz5) /\ (someR jz4) /\ (someR jz6) /\ (someR (.cells true 1 [sL 67 3 3] : KObj)) /\ jz24) /\ (∀ H' : Heap,H'.length = 68 -> (H'[0]? = some jz5 /\ H'[1]? = some jz4 /\ H'[2]? = some jz6 /\ H'[63]? = some (.cells true 1 [sL 67 3 3] : KObj) /\ H'[3]? = some jz2 /\ H'[4]? = some jz3 /\ H'[67]? = some jzw /\ True) -> KCall prog 64 [.agg #[nI 1,nI 0,nI 1,nI 1,nI 1],.agg #[sL 0 2 2,sL 1 1 1],sL 2 3 3,sL 63 1 1,nI 32] H' [] (jz1v H')) /\ (((someR jz5) /\ (someR jz4) /\ (someR jz6) /\ (someR (.cells true 1 [sL 77 2 2] : KObj)) /\ jz37) /\ (∀ H' : Heap,H'.length = 78 -> (H'[0]? = some jz5 /\ H'[1]? = some jz4 /\ H'[2]? = some jz6 /\ H'[73]? = some (.cells true 1 [sL 77 2 2] : KObj) /\ H'[3]? = some jz2 /\ H'[4]? = some jz3 /\ H'[77]? = some jz26 /\ True) -> KCall prog 64 [.agg #[nI 1,nI 0,nI 1,nI 1,nI 1],.agg #[sL 0 2 2,sL 1 1 1],sL 2 3 3,sL 73 1 1,nI 32] H' [] (jz2r H')) /\ (((someR jz5) /\ (someR jz4) /\ (someR jz6) /\ (someR (.cells true 1 [sL 86 3 3] : KObj)) /\ jz1a) /\ (∀ H' : Heap,H'.length = 87 -> (H'[0]? = some jz5 /\ H'[1]? = some jz4 /\ H'[2]? = some jz6 /\ H'[82]? = some (.cells true 1 [sL 86 3 3] : KObj) /\ H'[3]? = some jz2 /\ H'[4]? = some jz3 /\ H'[86]? = some (.cells true 1 jzx : KObj) /\ True) -> KCall prog 64 [.agg #[nI 1,nI 0,nI 1,nI 1,nI 1],.agg #[sL 0 2 2,sL 1 1 1],sL 2 3 3,sL 82 1 1,nI 32] H' [] (jz1v H')) /\ (((someR jz5) /\ (someR jz4) /\ (someR jz6) /\ (someR (.cells true 1 [sL 95 1 1] : KObj)) /\ jz38) /\ (∀ H' : Heap,H'.length = 96 -> (H'[0]? = some jz5 /\ H'[1]? = some jz4 /\ H'[2]? = some jz6 /\ H'[93]? = some (.cells true 1 [sL 95 1 1] : KObj) /\ H'[3]? = some jz2 /\ H'[4]? = some jz3 /\ H'[95]? = some jz2n /\ True) -> KCall prog 64 [.agg #[nI 1,nI 0,nI 1,nI 1,nI 1],.agg #[sL 0 2 2,sL 1 1 1],sL 2 3 3,sL 93 1 1,nI 32] H' [] (jz2r H')) /\ (((someR jz5) /\ (someR jz4) /\ (someR jz6) /\ (someR (.cells true 1 [sL 104 2 2] : KObj)) /\ jz39) /\ (∀ H' : Heap,H'.length = 105 -> (H'[0]? = some jz5 /\ H'[1]? = some jz4 /\ H'[2]? = some jz6 /\ H'[100]? = some (.cells true 1 [sL 104 2 2] : KObj) /\ H'[3]? = some jz2 /\ H'[4]? = some jz3 /\ H'[104]? = some jz27 /\ True) -> KCall prog 64 [.agg #[nI 1,nI 0,nI 1,nI 1,nI 1],.agg #[sL 0 2 2,sL 1 1 1],sL 2 3 3,sL 100 1 1,nI 32] H' [] (jz2r H')) /\ (((someR jz5) /\ (someR jz4) /\ (someR jz6) /\ (someR (.cells true 1 [sL 114 3 3] : KObj)) /\ jz1b) /\ (∀ H' : Heap,H'.length = 115 -> (H'[0]? = some jz5 /\ H'[1]? = some jz4 /\ H'[2]? = some jz6 /\ H'[110]? = some (.cells true 1 [sL 114 3 3] : KObj) /\ H'[3]? = some jz2 /\ H'[4]? = some jz3 /\ H'[114]? = some (.cells true 1 jzy : KObj) /\ True) -> KCall prog 64 [.agg #[nI 1,nI 0,nI 1,nI 1,nI 1],.agg #[sL 0 2 2,sL 1 1 1],sL 2 3 3,sL 110 1 1,nI 32] H' [] (jz1v H')) /\ (((someR jz5) /\ (someR jz4) /\ (someR jz6) /\ (someR (.cells true 1 [sL 124 2 2] : KObj)) /\ jz3a) /\ (∀ H' : Heap,H'.length = 125 -> (H'[0]? = some jz5 /\ H'[1]? = some jz4 /\ H'[2]? = some jz6 /\ H'[120]? = some (.cells true 1 [sL 124 2 2] : KObj) /\ H'[3]? = some jz2 /\ H'[4]? = some jz3 /\ H'[124]? = some jz28 /\ True) -> KCall prog 64 [.agg #[nI 1,nI 0,nI 1,nI 1,nI 1],.agg #[sL 0 2 2,sL 1 1 1],sL 2 3 3,sL 120 1 1,nI 32] H' [] (jz2r H')) /\ (((someR jz5) /\ (someR jz4) /\ (someR jz6) /\ (someR (.cells true 1 [sL 133 3 3] : KObj)) /\ jz1c) /\ (∀ H' : Heap,H'.length = 134 -> (H'[0]? = some jz5 /\ H'[1]? = some jz4 /\ H'[2]? = some jz6 /\ H'[129]? = some (.cells true 1 [sL 133 3 3] : KObj) /\ H'[3]? = some jz2 /\ H'[4]? = some jz3 /\ H'[133]? = some (.cells true 1 jzz : KObj) /\ True) -> KCall prog 64 [.agg #[nI 1,nI 0,nI 1,nI 1,nI 1],.agg #[sL 0 2 2,sL 1 1 1],sL 2 3 3,sL 129 1 1,nI 32] H' [] (jz1v H')) /\ (true = true /\ wk (.tuple #[sL 135 14 14,nI 0] : Value) (rn (sg 5 [(5,135)]) 3 (.tuple #[sL 5 14 14,nI 0] : Value)) /\ (wkO jz2e (rno (sg 5 [(5,135)]) 3 jz2e) /\ True))))))))))))))))))
theorem E18_h : vF prog msk (dm 0) 100000 true 40 true 18 jz2j jzk (some [])
 (.go 23 (.ans [jzc,jzd,jze,jzf,jzg] (nI 0) [] (.go 38 (.ans [jzc,jzd,jze,jzf,jzg] (.tuple #[sL 10 1 1,nI 32,.bool true]) [.cells true 1 [sL 11 3 3],.cells true 1 jzq] (.go 22 (.into (some (List.range' 5 10)) (.go 5 (.ans [jzc,jzd,jze,(14,.cells true 1 jz13),jzf,jzg] (.bool false) [] (.go 10 (.into (some (List.range' 5 12)) (.go 93 (.into (some (List.range' 5 17)) (.go 5 (.ans [jzc,jzd,jze,(19,.cells true 1 [sL 21 1 1]),jzf,jzg,(21,.cells true 1 [nI 0])] (.bool false) [] (.go 10 (.into (some (List.range' 5 19)) (.go 171 (.into (some (List.range' 5 27)) (.go 5 (.ans [jzc,jzd,jze,(27,.cells true 1 [sL 31 2 2]),jzf,jzg,(31,.cells true 1 [nI 0,nI 1])] (.bool true) [] (.go 123 (.into (some (List.range' 5 36)) (.go 5 (.ans [jzc,jzd,jze,(36,.cells true 1 [sL 40 2 2]),jzf,jzg,(40,.cells true 1 [nI 0,nI 2])] (.bool true) [] (.go 120 (.into (some (List.range' 5 43)) (.go 5 (.ans [jzc,jzd,jze,(45,.cells true 1 [sL 47 1 1]),jzf,jzg,(47,.cells true 1 [nI 1])] (.bool false) [] (.go 10 (.into (some (List.range' 5 45)) (.go 109 (.into (some (List.range' 5 52)) (.go 5 (.ans [jzc,jzd,jze,(52,.cells true 1 [sL 56 2 2]),jzf,jzg,(56,.cells true 1 [nI 1,nI 0])] (.bool false) [] (.go 10 (.into (some (List.range' 5 54)) (.go 259 (.into (some (List.range' 5 63)) (.go 5 (.ans [jzc,jzd,jze,(63,.cells true 1 [sL 67 3 3]),jzf,jzg,(67,.cells true 1 jzq)] (.bool true) [] (.go 198 (.into (some (List.range' 5 73)) (.go 5 (.ans [jzc,jzd,jze,(73,.cells true 1 [sL 77 2 2]),jzf,jzg,(77,.cells true 1 [nI 1,nI 2])] (.bool false) [] (.go 10 (.into (some (List.range' 5 75)) (.go 122 (.into (some (List.range' 5 82)) (.go 5 (.ans [jzc,jzd,jze,(82,.cells true 1 [sL 86 3 3]),jzf,jzg,(86,.cells true 1 jzx)] (.bool true) [] (.go 270 (.into (some (List.range' 5 91)) (.go 5 (.ans [jzc,jzd,jze,(93,.cells true 1 [sL 95 1 1]),jzf,jzg,(95,.cells true 1 [nI 2])] (.bool false) [] (.go 10 (.into (some (List.range' 5 93)) (.go 109 (.into jz2d (.go 5 (.ans [jzc,jzd,jze,(100,.cells true 1 [sL 104 2 2]),jzf,jzg,(104,.cells true 1 [nI 2,nI 0])] (.bool false) [] (.go 10 (.into (some (List.range' 5 102)) (.go 197 (.into (some (List.range' 5 110)) (.go 5 (.ans [jzc,jzd,jze,(110,.cells true 1 [sL 114 3 3]),jzf,jzg,(114,.cells true 1 jzy)] (.bool true) [] (.go 198 (.into (some (List.range' 5 120)) (.go 5 (.ans [jzc,jzd,jze,(120,.cells true 1 [sL 124 2 2]),jzf,jzg,(124,.cells true 1 [nI 2,nI 1])] (.bool false) [] (.go 10 (.into (some (List.range' 5 122)) (.go 122 (.into (some (List.range' 5 129)) (.go 5 (.ans [jzc,jzd,jze,(129,.cells true 1 [sL 133 3 3]),jzf,jzg,(133,.cells true 1 jzz)] (.bool true) [] (.go 250 (.again [(5,135)]))))))))))))))))))))))))))))))))))))))))))))))))))))))))))))))))))))))))))))))
 (newK jzk.n 3 (.tuple #[sL 5 14 14,nI 0]) [(false,.cells true 1 jza)]) = R18_h:=by kernel_rfl
theorem P18_h : R18_h:=⟨⟨rfl,rfl,rfl,rfl,rfl,trivial⟩,fun H' _ h => C30_k [0,1,2,3,4] ⟨⟨_,_,h.1⟩,⟨_,_,h.2.1⟩,⟨_,_,h.2.2.1⟩,⟨_,_,h.2.2.2.1⟩,⟨_,_,h.2.2.2.2.1⟩,trivial⟩,⟨⟨rfl,rfl,rfl,rfl,rfl,trivial⟩,fun H' hl h => (by have k:=C62_n (H:=H') [0,1,2,3,4] ⟨⟨_,_,h.1⟩,⟨_,_,h.2.1⟩,⟨_,_,h.2.2.1⟩,⟨_,_,h.2.2.2.1⟩,⟨_,_,h.2.2.2.2.1⟩,trivial⟩; rw [hl] at k; exact k),⟨⟨rfl,rfl,rfl,rfl,rfl,rfl,trivial⟩,fun H' _ h => C64_r [0,1,2,14,3,4] ⟨⟨_,_,h.1⟩,⟨_,_,h.2.1⟩,⟨_,_,h.2.2.1⟩,⟨_,_,h.2.2.2.1⟩,⟨_,_,h.2.2.2.2.1⟩,⟨_,_,h.2.2.2.2.2.1⟩,trivial⟩,⟨⟨rfl,rfl,rfl,rfl,rfl,rfl,rfl,trivial⟩,fun H' _ h => C64_u [0,1,2,19,3,4,21] ⟨⟨_,_,h.1⟩,⟨_,_,h.2.1⟩,⟨_,_,h.2.2.1⟩,⟨_,_,h.2.2.2.1⟩,⟨_,_,h.2.2.2.2.1⟩,⟨_,_,h.2.2.2.2.2.1⟩,⟨_,_,h.2.2.2.2.2.2.1⟩,trivial⟩,⟨⟨rfl,rfl,rfl,rfl,rfl,rfl,rfl,trivial⟩,fun H' _ h => C64_w [0,1,2,27,3,4,31] ⟨⟨_,_,h.1⟩,⟨_,_,h.2.1⟩,⟨_,_,h.2.2.1⟩,⟨_,_,h.2.2.2.1⟩,⟨_,_,h.2.2.2.2.1⟩,⟨_,_,h.2.2.2.2.2.1⟩,⟨_,_,h.2.2.2.2.2.2.1⟩,trivial⟩,⟨⟨rfl,rfl,rfl,rfl,rfl,rfl,rfl,trivial⟩,fun H' _ h => C64_10 [0,1,2,36,3,4,40] ⟨⟨_,_,h.1⟩,⟨_,_,h.2.1⟩,⟨_,_,h.2.2.1⟩,⟨_,_,h.2.2.2.1⟩,⟨_,_,h.2.2.2.2.1⟩,⟨_,_,h.2.2.2.2.2.1⟩,⟨_,_,h.2.2.2.2.2.2.1⟩,trivial⟩,⟨⟨rfl,rfl,rfl,rfl,rfl,rfl,rfl,trivial⟩,fun H' _ h => C64_v [0,1,2,45,3,4,47] ⟨⟨_,_,h.1⟩,⟨_,_,h.2.1⟩,⟨_,_,h.2.2.1⟩,⟨_,_,h.2.2.2.1⟩,⟨_,_,h.2.2.2.2.1⟩,⟨_,_,h.2.2.2.2.2.1⟩,⟨_,_,h.2.2.2.2.2.2.1⟩,trivial⟩,⟨⟨rfl,rfl,rfl,rfl,rfl,rfl,rfl,trivial⟩,fun H' _ h => C64_11 [0,1,2,52,3,4,56] ⟨⟨_,_,h.1⟩,⟨_,_,h.2.1⟩,⟨_,_,h.2.2.1⟩,⟨_,_,h.2.2.2.1⟩,⟨_,_,h.2.2.2.2.1⟩,⟨_,_,h.2.2.2.2.2.1⟩,⟨_,_,h.2.2.2.2.2.2.1⟩,trivial⟩,⟨⟨rfl,rfl,rfl,rfl,rfl,rfl,rfl,trivial⟩,fun H' _ h => C64_q [0,1,2,63,3,4,67] ⟨⟨_,_,h.1⟩,⟨_,_,h.2.1⟩,⟨_,_,h.2.2.1⟩,⟨_,_,h.2.2.2.1⟩,⟨_,_,h.2.2.2.2.1⟩,⟨_,_,h.2.2.2.2.2.1⟩,⟨_,_,h.2.2.2.2.2.2.1⟩,trivial⟩,⟨⟨rfl,rfl,rfl,rfl,rfl,rfl,rfl,trivial⟩,fun H' _ h => C64_z [0,1,2,73,3,4,77] ⟨⟨_,_,h.1⟩,⟨_,_,h.2.1⟩,⟨_,_,h.2.2.1⟩,⟨_,_,h.2.2.2.1⟩,⟨_,_,h.2.2.2.2.1⟩,⟨_,_,h.2.2.2.2.2.1⟩,⟨_,_,h.2.2.2.2.2.2.1⟩,trivial⟩,⟨⟨rfl,rfl,rfl,rfl,rfl,rfl,rfl,trivial⟩,fun H' _ h => C64_t [0,1,2,82,3,4,86] ⟨⟨_,_,h.1⟩,⟨_,_,h.2.1⟩,⟨_,_,h.2.2.1⟩,⟨_,_,h.2.2.2.1⟩,⟨_,_,h.2.2.2.2.1⟩,⟨_,_,h.2.2.2.2.2.1⟩,⟨_,_,h.2.2.2.2.2.2.1⟩,trivial⟩,⟨⟨rfl,rfl,rfl,rfl,rfl,rfl,rfl,trivial⟩,fun H' _ h => C64_x [0,1,2,93,3,4,95] ⟨⟨_,_,h.1⟩,⟨_,_,h.2.1⟩,⟨_,_,h.2.2.1⟩,⟨_,_,h.2.2.2.1⟩,⟨_,_,h.2.2.2.2.1⟩,⟨_,_,h.2.2.2.2.2.1⟩,⟨_,_,h.2.2.2.2.2.2.1⟩,trivial⟩,⟨⟨rfl,rfl,rfl,rfl,rfl,rfl,rfl,trivial⟩,fun H' _ h => C64_y [0,1,2,100,3,4,104] ⟨⟨_,_,h.1⟩,⟨_,_,h.2.1⟩,⟨_,_,h.2.2.1⟩,⟨_,_,h.2.2.2.1⟩,⟨_,_,h.2.2.2.2.1⟩,⟨_,_,h.2.2.2.2.2.1⟩,⟨_,_,h.2.2.2.2.2.2.1⟩,trivial⟩,⟨⟨rfl,rfl,rfl,rfl,rfl,rfl,rfl,trivial⟩,fun H' _ h => C64_s [0,1,2,110,3,4,114] ⟨⟨_,_,h.1⟩,⟨_,_,h.2.1⟩,⟨_,_,h.2.2.1⟩,⟨_,_,h.2.2.2.1⟩,⟨_,_,h.2.2.2.2.1⟩,⟨_,_,h.2.2.2.2.2.1⟩,⟨_,_,h.2.2.2.2.2.2.1⟩,trivial⟩,⟨⟨rfl,rfl,rfl,rfl,rfl,rfl,rfl,trivial⟩,fun H' _ h => C64_o [0,1,2,120,3,4,124] ⟨⟨_,_,h.1⟩,⟨_,_,h.2.1⟩,⟨_,_,h.2.2.1⟩,⟨_,_,h.2.2.2.1⟩,⟨_,_,h.2.2.2.2.1⟩,⟨_,_,h.2.2.2.2.2.1⟩,⟨_,_,h.2.2.2.2.2.2.1⟩,trivial⟩,⟨⟨rfl,rfl,rfl,rfl,rfl,rfl,rfl,trivial⟩,fun H' _ h => C64_p [0,1,2,129,3,4,133] ⟨⟨_,_,h.1⟩,⟨_,_,h.2.1⟩,⟨_,_,h.2.2.1⟩,⟨_,_,h.2.2.2.1⟩,⟨_,_,h.2.2.2.2.1⟩,⟨_,_,h.2.2.2.2.2.1⟩,⟨_,_,h.2.2.2.2.2.2.1⟩,trivial⟩,⟨rfl,wk_of_eq rfl,wkO_of_eq rfl,trivial⟩⟩⟩⟩⟩⟩⟩⟩⟩⟩⟩⟩⟩⟩⟩⟩⟩
theorem C18_h {H : Heap} (ids : List Nat) (h : InsA H (sgR 0 ids) ids [[sL 3 2 2,sL 4 2 2],[nI 0],jz0,[nI 0,nI 4],[nI 4,nI 0]]) : KCall prog 18 ((jz2j : List Value).map (rn (sgR 0 ids) 3)) H [] (Is (rn (sgUp 5 H.length) 3 (.tuple #[sL 5 14 14,nI 0])) (H ++ [rno (sgUp 5 H.length) 3 (.cells true 1 jza)])) :=
 valNA (css:=[[sL 3 2 2,sL 4 2 2],[nI 0],jz0,[nI 0,nI 4],[nI 4,nI 0]]) (v:=.tuple #[sL 5 14 14,nI 0]) (new:=[(false,.cells true 1 jza)]) (Eq.mpr E18_h P18_h) rfl rfl rfl rfl ids h.len h.get
end
end Go.Proofs.YthdekmpkioikdaaGreat
/- Closed calls of the chapter's examples. Printed by a program. No condition. -/
namespace Go.Proofs.YthdekmpkioikdaaGreat
set_option linter.unusedSimpArgs false
open Go Go.K
set_option maxRecDepth 1000000
set_option maxHeartbeats 4000000
set_option linter.unusedVariables false
noncomputable section
attribute [local irreducible] vF
def R23_i (sp : Value) : Prop :=
 (((someR jzb) /\ (someR jz4) /\ (someR jz6) /\ (someR jz2) /\ (someR jz3) /\ True) /\ (∀ H' : Heap,H'.length = 15 -> (H'[0]? = some jzb /\ H'[1]? = some jz4 /\ H'[2]? = some jz6 /\ H'[4]? = some jz2 /\ H'[5]? = some jz3 /\ True) -> KCall prog 30 jzj H' [] (Is (nI 0) H')) /\ (((someR jzb) /\ (someR jz4) /\ (someR jz6) /\ (someR (.cells true 1 [sL 27 2 2] : KObj)) /\ jz16) /\ (∀ H' : Heap,H'.length = 28 -> (H'[0]? = some jzb /\ H'[1]? = some jz4 /\ H'[2]? = some jz6 /\ H'[23]? = some (.cells true 1 [sL 27 2 2] : KObj) /\ H'[4]? = some jz2 /\ H'[5]? = some jz3 /\ H'[27]? = some jz2y /\ True) -> KCall prog 64 [.agg #[nI 1,nI 0,nI 1,nI 1,nI 1],.agg #[sL 0 2 2,sL 1 1 1],sL 2 3 3,sL 23 1 1,nI 32] H' [] (jz1v H')) /\ (((someR jzb) /\ (someR jz4) /\ (someR jz6) /\ (someR (.cells true 1 [sL 34 2 2] : KObj)) /\ jz17) /\ (∀ H' : Heap,H'.length = 35 -> (H'[0]? = some jzb /\ H'[1]? = some jz4 /\ H'[2]? = some jz6 /\ H'[30]? = some (.cells true 1 [sL 34 2 2] : KObj) /\ H'[4]? = some jz2 /\ H'[5]? = some jz3 /\ H'[34]? = some jz2z /\ True) -> KCall prog 64 [.agg #[nI 1,nI 0,nI 1,nI 1,nI 1],.agg #[sL 0 2 2,sL 1 1 1],sL 2 3 3,sL 30 1 1,nI 32] H' [] (jz1v H')) /\ (((someR jzb) /\ (someR jz4) /\ (someR jz6) /\ (someR (.cells true 1 [sL 55 3 3] : KObj)) /\ jz24) /\ (∀ H' : Heap,H'.length = 56 -> (H'[0]? = some jzb /\ H'[1]? = some jz4 /\ H'[2]? = some jz6 /\ H'[51]? = some (.cells true 1 [sL 55 3 3] : KObj) /\ H'[4]? = some jz2 /\ H'[5]? = some jz3 /\ H'[55]? = some jzw /\ True) -> KCall prog 64 [.agg #[nI 1,nI 0,nI 1,nI 1,nI 1],.agg #[sL 0 2 2,sL 1 1 1],sL 2 3 3,sL 51 1 1,nI 32] H' [] (jz1v H')) /\ (((someR jzb) /\ (someR jz4) /\ (someR jz6) /\ (someR (.cells true 1 [sL 70 3 3] : KObj)) /\ jz1a) /\ (∀ H' : Heap,H'.length = 71 -> (H'[0]? = some jzb /\ H'[1]? = some jz4 /\ H'[2]? = some jz6 /\ H'[66]? = some (.cells true 1 [sL 70 3 3] : KObj) /\ H'[4]? = some jz2 /\ H'[5]? = some jz3 /\ H'[70]? = some (.cells true 1 jzx : KObj) /\ True) -> KCall prog 64 [.agg #[nI 1,nI 0,nI 1,nI 1,nI 1],.agg #[sL 0 2 2,sL 1 1 1],sL 2 3 3,sL 66 1 1,nI 32] H' [] (jz1v H')) /\ (((someR jzb) /\ (someR jz4) /\ (someR jz6) /\ (someR (.cells true 1 [sL 92 3 3] : KObj)) /\ jz1b) /\ (∀ H' : Heap,H'.length = 93 -> (H'[0]? = some jzb /\ H'[1]? = some jz4 /\ H'[2]? = some jz6 /\ H'[88]? = some (.cells true 1 [sL 92 3 3] : KObj) /\ H'[4]? = some jz2 /\ H'[5]? = some jz3 /\ H'[92]? = some (.cells true 1 jzy : KObj) /\ True) -> KCall prog 64 [.agg #[nI 1,nI 0,nI 1,nI 1,nI 1],.agg #[sL 0 2 2,sL 1 1 1],sL 2 3 3,sL 88 1 1,nI 32] H' [] (jz1v H')) /\ (((someR jzb) /\ (someR jz4) /\ (someR jz6) /\ (someR (.cells true 1 [sL 107 3 3] : KObj)) /\ jz1c) /\ (∀ H' : Heap,H'.length = 108 -> (H'[0]? = some jzb /\ H'[1]? = some jz4 /\ H'[2]? = some jz6 /\ H'[103]? = some (.cells true 1 [sL 107 3 3] : KObj) /\ H'[4]? = some jz2 /\ H'[5]? = some jz3 /\ H'[107]? = some (.cells true 1 jzz : KObj) /\ True) -> KCall prog 64 [.agg #[nI 1,nI 0,nI 1,nI 1,nI 1],.agg #[sL 0 2 2,sL 1 1 1],sL 2 3 3,sL 103 1 1,nI 32] H' [] (jz1v H')) /\ (.tuple #[.bool true,nI 0] : Value) = sp)))))))
theorem E23_i (sp : Value) : vF prog msk (dm 0) 100000 true 40 true 23 jz29 (readsT 0 [[sL 4 2 2,sL 5 2 2],[nI 0],jz0,jza,[nI 0,nI 4],[nI 4,nI 0]]) (some [])
 (.go 24 (.ans [jzi,jzd,jze,jzl,jzm] (nI 0) [] (.go 49 (.into (some (List.range' 6 9)) (.go 44 (.into (some (List.range' 6 9)) (.go 93 (.into jz1u (.go 44 (.into jz1u (.go 171 (.into (some (List.range' 6 22)) (.go 19 (.ans [jzi,jzd,jze,(23,.cells true 1 [sL 27 2 2]),jzl,jzm,(27,.cells true 1 [nI 0,nI 1])] (.bool true) [] (.go 114 (.into (some (List.range' 6 29)) (.go 19 (.ans [jzi,jzd,jze,(30,.cells true 1 [sL 34 2 2]),jzl,jzm,(34,.cells true 1 [nI 0,nI 2])] (.bool true) [] (.go 111 (.into (some (List.range' 6 34)) (.go 44 (.into (some (List.range' 6 34)) (.go 109 (.into (some (List.range' 6 41)) (.go 44 (.into (some (List.range' 6 41)) (.go 259 (.into (some (List.range' 6 50)) (.go 19 (.ans [jzi,jzd,jze,(51,.cells true 1 [sL 55 3 3]),jzl,jzm,(55,.cells true 1 jzq)] (.bool true) [] (.go 189 (.into (some (List.range' 6 58)) (.go 44 (.into (some (List.range' 6 58)) (.go 122 (.into (some (List.range' 6 65)) (.go 19 (.ans [jzi,jzd,jze,(66,.cells true 1 [sL 70 3 3]),jzl,jzm,(70,.cells true 1 jzx)] (.bool true) [] (.go 261 (.into (some (List.range' 6 72)) (.go 44 (.into (some (List.range' 6 72)) (.go 109 (.into (some (List.range' 6 79)) (.go 44 (.into (some (List.range' 6 79)) (.go 197 (.into (some (List.range' 6 87)) (.go 19 (.ans [jzi,jzd,jze,(88,.cells true 1 [sL 92 3 3]),jzl,jzm,(92,.cells true 1 jzy)] (.bool true) [] (.go 189 (.into (some (List.range' 6 95)) (.go 44 (.into (some (List.range' 6 95)) (.go 122 (.into (some (List.range' 6 102)) (.go 19 (.ans [jzi,jzd,jze,(103,.cells true 1 [sL 107 3 3]),jzl,jzm,(107,.cells true 1 jzz)] (.bool true) [] (.auto)))))))))))))))))))))))))))))))))))))))))))))))))))))))))))
 (fun v _ _ => v = sp) = R23_i sp:=by kernel_rfl
theorem P23_i : R23_i jz2o:=⟨⟨rfl,rfl,rfl,rfl,rfl,trivial⟩,fun H' _ h => C30_k [0,1,2,4,5] ⟨⟨_,_,h.1⟩,⟨_,_,h.2.1⟩,⟨_,_,h.2.2.1⟩,⟨_,_,h.2.2.2.1⟩,⟨_,_,h.2.2.2.2.1⟩,trivial⟩,⟨⟨rfl,rfl,rfl,rfl,rfl,rfl,rfl,trivial⟩,fun H' _ h => C64_w [0,1,2,23,4,5,27] ⟨⟨_,_,h.1⟩,⟨_,_,h.2.1⟩,⟨_,_,h.2.2.1⟩,⟨_,_,h.2.2.2.1⟩,⟨_,_,h.2.2.2.2.1⟩,⟨_,_,h.2.2.2.2.2.1⟩,⟨_,_,h.2.2.2.2.2.2.1⟩,trivial⟩,⟨⟨rfl,rfl,rfl,rfl,rfl,rfl,rfl,trivial⟩,fun H' _ h => C64_10 [0,1,2,30,4,5,34] ⟨⟨_,_,h.1⟩,⟨_,_,h.2.1⟩,⟨_,_,h.2.2.1⟩,⟨_,_,h.2.2.2.1⟩,⟨_,_,h.2.2.2.2.1⟩,⟨_,_,h.2.2.2.2.2.1⟩,⟨_,_,h.2.2.2.2.2.2.1⟩,trivial⟩,⟨⟨rfl,rfl,rfl,rfl,rfl,rfl,rfl,trivial⟩,fun H' _ h => C64_q [0,1,2,51,4,5,55] ⟨⟨_,_,h.1⟩,⟨_,_,h.2.1⟩,⟨_,_,h.2.2.1⟩,⟨_,_,h.2.2.2.1⟩,⟨_,_,h.2.2.2.2.1⟩,⟨_,_,h.2.2.2.2.2.1⟩,⟨_,_,h.2.2.2.2.2.2.1⟩,trivial⟩,⟨⟨rfl,rfl,rfl,rfl,rfl,rfl,rfl,trivial⟩,fun H' _ h => C64_t [0,1,2,66,4,5,70] ⟨⟨_,_,h.1⟩,⟨_,_,h.2.1⟩,⟨_,_,h.2.2.1⟩,⟨_,_,h.2.2.2.1⟩,⟨_,_,h.2.2.2.2.1⟩,⟨_,_,h.2.2.2.2.2.1⟩,⟨_,_,h.2.2.2.2.2.2.1⟩,trivial⟩,⟨⟨rfl,rfl,rfl,rfl,rfl,rfl,rfl,trivial⟩,fun H' _ h => C64_s [0,1,2,88,4,5,92] ⟨⟨_,_,h.1⟩,⟨_,_,h.2.1⟩,⟨_,_,h.2.2.1⟩,⟨_,_,h.2.2.2.1⟩,⟨_,_,h.2.2.2.2.1⟩,⟨_,_,h.2.2.2.2.2.1⟩,⟨_,_,h.2.2.2.2.2.2.1⟩,trivial⟩,⟨⟨rfl,rfl,rfl,rfl,rfl,rfl,rfl,trivial⟩,fun H' _ h => C64_p [0,1,2,103,4,5,107] ⟨⟨_,_,h.1⟩,⟨_,_,h.2.1⟩,⟨_,_,h.2.2.1⟩,⟨_,_,h.2.2.2.1⟩,⟨_,_,h.2.2.2.2.1⟩,⟨_,_,h.2.2.2.2.2.1⟩,⟨_,_,h.2.2.2.2.2.2.1⟩,trivial⟩,rfl⟩⟩⟩⟩⟩⟩⟩
theorem C23_i {H : Heap} (ids : List Nat) (h : InsA H (sgR 0 ids) ids [[sL 4 2 2,sL 5 2 2],[nI 0],jz0,jza,[nI 0,nI 4],[nI 4,nI 0]]) : KCall prog 23 ((jz29 : List Value).map (rn (sgR 0 ids) 3)) H [] (Is jz2o H) :=
 valRA (css:=[[sL 4 2 2,sL 5 2 2],[nI 0],jz0,jza,[nI 0,nI 4],[nI 4,nI 0]]) (Eq.mpr (E23_i _) P23_i) rfl ids h.len h.get
end
end Go.Proofs.YthdekmpkioikdaaGreat
/- Closed calls of the chapter's examples. Printed by a program. No condition. -/
namespace Go.Proofs.YthdekmpkioikdaaGreat
set_option linter.unusedSimpArgs false
open Go Go.K
set_option maxRecDepth 1000000
set_option maxHeartbeats 4000000
set_option linter.unusedVariables false
noncomputable section
attribute [local irreducible] vF
def R14_g (sp : Value) : Prop :=
 (((someR (.cells true 1 [sL 2 2 2,sL 3 2 2] : KObj)) /\ jz2v) /\ (∀ H' : Heap,H'.length = 7 -> (H'[4]? = some (.cells true 1 [sL 2 2 2,sL 3 2 2] : KObj) /\ H'[5]? = some jzv /\ H'[6]? = some jz18 /\ H'[2]? = some jz1q /\ H'[3]? = some jz1r /\ True) -> KCall prog 29 [.agg #[sL 4 2 2,sL 5 1 1],.agg #[nI 1,nI 0,nI 1,nI 1,nI 1],sL 6 3 3] H' [] (Is (.tuple #[sL 7 3 3,nI 0]) (H' ++ [(.cells true 5 jzn : KObj)]))) /\ (((someR (.cells true 1 [sL 9 2 2,sL 10 2 2] : KObj)) /\ jz2v) /\ (∀ H' : Heap,H'.length = 14 -> (H'[11]? = some (.cells true 1 [sL 9 2 2,sL 10 2 2] : KObj) /\ H'[12]? = some jzv /\ H'[13]? = some jz18 /\ H'[9]? = some jz1q /\ H'[10]? = some jz1r /\ True) -> KCall prog 48 [.agg #[sL 11 2 2,sL 12 1 1],.agg #[nI 1,nI 0,nI 1,nI 1,nI 1],sL 13 3 3] H' [] (Is (.tuple #[sL 14 1 1,nI 32,nI 0]) (H' ++ [(.cells true 1 [sL 15 3 3] : KObj),jzw]))) /\ (((someR (.cells true 1 [sL 17 2 2,sL 18 2 2] : KObj)) /\ (someR jzv) /\ jzs) /\ (∀ H' : Heap,H'.length = 21 -> (H'[19]? = some (.cells true 1 [sL 17 2 2,sL 18 2 2] : KObj) /\ H'[20]? = some jzv /\ H'[17]? = some jz1q /\ H'[18]? = some jz1r /\ True) -> KCall prog 39 [.agg #[sL 19 2 2,sL 20 1 1],.agg #[nI 2,nI 12,nI 10]] H' [] (Is jz31 H')) /\ (((someR (.cells true 1 [sL 22 2 2,sL 23 2 2] : KObj)) /\ jz2v) /\ (∀ H' : Heap,H'.length = 27 -> (H'[24]? = some (.cells true 1 [sL 22 2 2,sL 23 2 2] : KObj) /\ H'[25]? = some jzv /\ H'[26]? = some jz18 /\ H'[22]? = some jz1q /\ H'[23]? = some jz1r /\ True) -> KCall prog 18 [.agg #[sL 24 2 2,sL 25 1 1],.agg #[nI 1,nI 0,nI 1,nI 1,nI 1],sL 26 3 3,nI 32] H' [] (Is (.tuple #[sL 27 14 14,nI 0]) (H' ++ [jz2e]))) /\ (((someR (.cells true 1 [sL 30 2 2,sL 31 2 2] : KObj)) /\ (someR jzv) /\ (someR jz18) /\ (someR jz2e) /\ jzs) /\ (∀ H' : Heap,H'.length = 35 -> (H'[32]? = some (.cells true 1 [sL 30 2 2,sL 31 2 2] : KObj) /\ H'[33]? = some jzv /\ H'[34]? = some jz18 /\ H'[27]? = some jz2e /\ H'[30]? = some jz1q /\ H'[31]? = some jz1r /\ True) -> KCall prog 23 [.agg #[sL 32 2 2,sL 33 1 1],.agg #[nI 1,nI 0,nI 1,nI 1,nI 1],sL 34 3 3,nI 32,sL 27 14 14] H' [] (Is jz2o H')) /\ jz23 = sp)))))
theorem E14_g (sp : Value) : vF prog msk (dm 0) 100000 true 40 true 14 [] (readsT 0 []) (some [])
 (.go 20 (.ans [(4,.cells true 1 [sL 2 2 2,sL 3 2 2]),(5,.cells true 1 [nI 0]),(6,.cells true 7 jz0),(2,.cells true 1 [nI 0,nI 4]),(3,.cells true 1 [nI 4,nI 0])] (.tuple #[sL 7 3 3,nI 0]) [.cells true 5 jzn] (.go 49 (.ans [(11,.cells true 1 [sL 9 2 2,sL 10 2 2]),(12,.cells true 1 [nI 0]),(13,.cells true 7 jz0),(9,.cells true 1 [nI 0,nI 4]),(10,.cells true 1 [nI 4,nI 0])] (.tuple #[sL 14 1 1,nI 32,nI 0]) [.cells true 1 [sL 15 3 3],.cells true 1 jzq] (.go 15 (.ans [(19,.cells true 1 [sL 17 2 2,sL 18 2 2]),(20,.cells true 1 [nI 0]),(17,.cells true 1 [nI 0,nI 4]),(18,.cells true 1 [nI 4,nI 0])] jz31 [] (.go 20 (.ans [(24,.cells true 1 [sL 22 2 2,sL 23 2 2]),(25,.cells true 1 [nI 0]),(26,.cells true 7 jz0),(22,.cells true 1 [nI 0,nI 4]),(23,.cells true 1 [nI 4,nI 0])] (.tuple #[sL 27 14 14,nI 0]) [.cells true 1 jza] (.go 121 (.ans [(32,.cells true 1 [sL 30 2 2,sL 31 2 2]),(33,.cells true 1 [nI 0]),(34,.cells true 7 jz0),(27,.cells true 1 jza),(30,.cells true 1 [nI 0,nI 4]),(31,.cells true 1 [nI 4,nI 0])] jz2o [] (.auto)))))))))))
 (fun v _ _ => v = sp) = R14_g sp:=by kernel_rfl
theorem P14_g : R14_g (.bool true):=⟨⟨rfl,rfl,rfl,rfl,rfl,trivial⟩,fun H' hl h => (by have k:=C29_j (H:=H') [4,5,6,2,3] ⟨⟨_,_,h.1⟩,⟨_,_,h.2.1⟩,⟨_,_,h.2.2.1⟩,⟨_,_,h.2.2.2.1⟩,⟨_,_,h.2.2.2.2.1⟩,trivial⟩; rw [hl] at k; exact k),⟨⟨rfl,rfl,rfl,rfl,rfl,trivial⟩,fun H' hl h => (by have k:=C48_m (H:=H') [11,12,13,9,10] ⟨⟨_,_,h.1⟩,⟨_,_,h.2.1⟩,⟨_,_,h.2.2.1⟩,⟨_,_,h.2.2.2.1⟩,⟨_,_,h.2.2.2.2.1⟩,trivial⟩; rw [hl] at k; exact k),⟨⟨rfl,rfl,rfl,rfl,trivial⟩,fun H' _ h => C39_l [19,20,17,18] ⟨⟨_,_,h.1⟩,⟨_,_,h.2.1⟩,⟨_,_,h.2.2.1⟩,⟨_,_,h.2.2.2.1⟩,trivial⟩,⟨⟨rfl,rfl,rfl,rfl,rfl,trivial⟩,fun H' hl h => (by have k:=C18_h (H:=H') [24,25,26,22,23] ⟨⟨_,_,h.1⟩,⟨_,_,h.2.1⟩,⟨_,_,h.2.2.1⟩,⟨_,_,h.2.2.2.1⟩,⟨_,_,h.2.2.2.2.1⟩,trivial⟩; rw [hl] at k; exact k),⟨⟨rfl,rfl,rfl,rfl,rfl,rfl,trivial⟩,fun H' _ h => C23_i [32,33,34,27,30,31] ⟨⟨_,_,h.1⟩,⟨_,_,h.2.1⟩,⟨_,_,h.2.2.1⟩,⟨_,_,h.2.2.2.1⟩,⟨_,_,h.2.2.2.2.1⟩,⟨_,_,h.2.2.2.2.2.1⟩,trivial⟩,rfl⟩⟩⟩⟩⟩
theorem C14_g {H : Heap} (ids : List Nat) (h : InsA H (sgR 0 ids) ids []) : KCall prog 14 (([] : List Value).map (rn (sgR 0 ids) 3)) H [] (Is (.bool true) H) :=
 valRA (css:=[]) (Eq.mpr (E14_g _) P14_g) rfl ids h.len h.get
end
end Go.Proofs.YthdekmpkioikdaaGreat
/- Request: the examples of the chapter (awake). No condition. -/
namespace Go.Proofs.YthdekmpkioikdaaGreat
set_option linter.unusedSimpArgs false
set_option linter.unusedVariables false
open Go Go.K
noncomputable section
theorem kAwake (H : Heap) : KCall prog 14 [] H [] (Is (.bool true) H) := C14_g [] trivial
end
end Go.Proofs.YthdekmpkioikdaaGreat
/- Request: RequestHistories. No condition. -/
namespace Go.Proofs.YthdekmpkioikdaaGreat
open Go Go.K
set_option maxRecDepth 100000
set_option linter.unusedVariables false
set_option linter.unusedSimpArgs false
noncomputable section
attribute [local irreducible] vF
theorem tmod_emod {x n : Int} (hn : 1 <= n) : (Int.tmod x n < 0 -> Int.tmod x n + n = x % n) /\ (¬ Int.tmod x n < 0 -> Int.tmod x n = x % n) /\ -n < Int.tmod x n /\ Int.tmod x n < n := by
 have h1 := Int.mul_tdiv_add_tmod x n
 have h2 := Int.lt_tmod_of_pos x (by omega : 0 < n)
 have h3 := Int.tmod_lt_of_pos x (by omega : 0 < n)
 refine ⟨fun h => ?_, fun h => ?_, h2, h3⟩
 ·have : x = (Int.tmod x n + n) + n * (x.tdiv n - 1) := by rw [Int.mul_sub]; omega
  rw [this, Int.add_mul_emod_self_left, <- this]
  exact (Int.emod_eq_of_lt (by omega) (by omega)).symm
 ·have : x = Int.tmod x n + n * x.tdiv n := by omega
  conv => rhs; rw [this, Int.add_mul_emod_self_left]
  exact (Int.emod_eq_of_lt (by omega) (by omega)).symm
theorem kPick (x n : Int) (h1 : 1 <= n) (h2 : n <= 9223372036854775807) (H : Heap) : KCall prog 21 [.int .i64 x, .int .i64 n] H [] (Is (.int .i64 (x % n)) H) := by
 refine valK 40 (fun _ => rfl) rfl (Eq.mpr (EPick _ x n) ?_) H
 obtain ⟨t1, t2, t3, t4⟩ := tmod_emod (x := x) h1
 unfold RPick
 exact forkD (fun h => by omega) (fun _ => ⟨by omega, forkD (fun h => ⟨vI64 (by omega), iEq (t1 h)⟩) (fun h => iEq (t2 h))⟩)
theorem wk_fleet {f : Fleet} {i j : Nat} : wk (fleetV f i j 1) (fleetV f i j) := wk_aggL (wks_cons wk_QR (wks_cons wk_QR wks_nil))
end
end Go.Proofs.YthdekmpkioikdaaGreat
/- Request: the program's own run of a policy, as plain functions. No condition. -/
namespace Go.Proofs.YthdekmpkioikdaaGreat
set_option linter.unusedSimpArgs false
set_option linter.unusedVariables false
open Go Go.K
noncomputable section
def keepP (q : Int -> Bool) (M : List Int) (k : Nat) : List Int := (M.take k).filter q
def midP (q : Int -> Bool) (M : List Int) (k : Nat) : List Int := keepP q M k ++ M.drop (keepP q M k).length
def delP (q : Int -> Bool) (M : List Int) (k : Nat) : List Int := keepP q M k ++ List.replicate (k - (keepP q M k).length) 0 ++ M.drop k
def bstP (c : Int -> Int -> Int) (M : List Int) : Nat -> Int
 | 0 => M.getD 0 0
 | x + 1 => if c (M.getD (x + 1) 0) (bstP c M x) < 0 then M.getD (x + 1) 0 else bstP c M x
def minTo (M : List Int) : Nat -> Int
 | 0 => M.getD 0 0
 | x + 1 => min (minTo M x) (M.getD (x + 1) 0)
def minL (M : List Int) : Int := minTo M (M.length - 1)
def qAt (l : List Rq) (hour x : Int) : Bool := decide ((rqAt l x).at_ <= hour)
def qNe (i x : Int) : Bool := !(x == i)
def ofV (p : Pol) (l : List Rq) (ov : List Int) (hour : Int) (X : Nat) (x : Int) : Bool :=
 match X with
 | 0 => decide (p.ov <= ov.getD (Int.toNat x) 0)
 | 1 => decide (0 < (rqAt l x).limit) && decide ((rqAt l x).at_ + (rqAt l x).limit - hour <= p.warn)
 | _ => true
def endV (r : Rq) : Int := r.at_ + r.limit
def cmpL (l : List Rq) (x y : Int) : Int := laterV (rqAt l x) (rqAt l y)
def cmpV (l : List Rq) (X : Nat) (x y : Int) : Int :=
 match X with
 | 0 => cmpL l x y
 | 1 => first2 (endV (rqAt l x) - endV (rqAt l y)) (cmpL l x y)
 | _ => first2 ((rqAt l y).prio - (rqAt l x).prio) (cmpL l x y)
def idxL (n : Nat) : List Int := (List.range n).map (fun (i : Nat) => (i : Int))
def opL (l : List Rq) (h : List Sv) : List Int := (idxL l.length).filter fun i => !(h.any (isRq i))
def opB (l : List Rq) (h : List Sv) : List Int := opL l h ++ List.replicate (l.length - (opL l h).length) 0
def askN (l : List Rq) (h : List Sv) : Int := bstP (cmpL l) (opB l h) ((opL l h).length - 1)
def hrN (f : Fleet) (l : List Rq) (h : List Sv) : Int := max (minL (frH f h h.length)) (rqAt l (askN l h)).at_
def wtN (f : Fleet) (l : List Rq) (h : List Sv) : List Int := keepP (qAt l (hrN f l h)) (opL l h) (opL l h).length
def wtB (f : Fleet) (l : List Rq) (h : List Sv) : List Int := delP (qAt l (hrN f l h)) (opL l h) (opL l h).length
def smN (f : Fleet) (p : Pol) (l : List Rq) (h : List Sv) (X : Nat) : List Int := keepP (ofV p l (ovN l h h.length) (hrN f l h) X) (wtN f l h) (wtN f l h).length
def smB (f : Fleet) (p : Pol) (l : List Rq) (h : List Sv) (X : Nat) : List Int := delP (ofV p l (ovN l h h.length) (hrN f l h) X) (wtN f l h) (wtN f l h).length
def bstN (f : Fleet) (p : Pol) (l : List Rq) (h : List Sv) : Int := bestAt p l h (hrN f l h)
def svN (f : Fleet) (p : Pol) (l : List Rq) (h : List Sv) : Sv := mkSv f l h (bstN f p l h) (byAt f p l h (hrN f l h)) (hrN f l h)
def ovQ (l : List Rq) (h : List Sv) (s : Sv) (x : Nat) : List Int := tabP (fun j => if ((opL l (h ++ [s])).take x).contains (j : Int) = true then (ovN l (h ++ [s]) (h.length + 1)).getD j 0 else (ovN l h h.length).getD j 0) l.length
def RunI (f : Fleet) (p : Pol) (l : List Rq) (h : List Sv) : Prop := ∃ hour : Nat, PlayI f p l hour h /\ (h.length < l.length -> (hour : Int) <= hrN f l h)
end
end Go.Proofs.YthdekmpkioikdaaGreat
/- Request: what a policy's rules read; how far a history is the policy's own. No condition. -/
namespace Go.Proofs.YthdekmpkioikdaaGreat
set_option linter.unusedSimpArgs false
set_option linter.unusedVariables false
open Go Go.K
noncomputable section
abbrev pT (i : Nat) : Value := .pointer (some ⟨i, 0, none⟩)
abbrev ctA (f : Fleet) (l : List Rq) (X Y : List Int) : List (List Value) := [inL f.t, f.b.flatMap intC, l.flatMap rqC, X.flatMap intC, Y.flatMap intC, [slQ 1 2 f.t.length, slQ 2 2 f.b.length, slQ 3 2 l.length, .slice (some ⟨4, 0, none⟩) X.length X.length, slQ 5 1 Y.length]]
abbrev ctB (f : Fleet) (l : List Rq) (X Y : List Int) (hr : Int) : List (List Value) := ctA f l X Y ++ [[pT 6], [nI hr]]
abbrev rlC (X : Nat) : List Value :=
 match X with
 | 0 => [.func (.func 158) #[] #[pT 11, pT 9], .nilFunc]
 | 1 => [.func (.func 159) #[] #[pT 14, pT 13, pT 12, pT 9], .func (.func 160) #[] #[pT 13]]
 | _ => [.func (.func 161) #[] #[], .func (.func 162) #[] #[pT 14]]
abbrev ctC (f : Fleet) (l : List Rq) (X Y : List Int) (hr : Int) (p : Pol) (ov : List Int) (R : Nat) : List (List Value) :=
 ctB f l X Y hr ++ [polC p, ov.flatMap intC, [.slice (some ⟨10, 0, none⟩) ov.length ov.length], [nI hr], [.func (.func 157) #[] #[pT 14]], [pT 6], rlC R]
def firstN (c : Nat -> Bool) : Nat -> Nat
 | 0 => 0
 | n + 1 => if firstN c n < n then firstN c n else if c n = true then n else n + 1
end
end Go.Proofs.YthdekmpkioikdaaGreat
/- Request: plain laws of what stays of a list, of the least of a list, of the first number. No condition. -/
namespace Go.Proofs.YthdekmpkioikdaaGreat
set_option linter.unusedSimpArgs false
open Go Go.K
set_option linter.unusedVariables false
noncomputable section
theorem keepP_1 {q : Int -> Bool} {M : List Int} {x : Nat} (hx : x < M.length) (h : q (M.getD x 0) = true) : keepP q M (x + 1) = keepP q M x ++ [M.getD x 0] := by
 unfold keepP
 rw [take_snoc (d := 0) hx, List.filter_append, List.filter_cons_of_pos h]; rfl
theorem keepP_0 {q : Int -> Bool} {M : List Int} {x : Nat} (hx : x < M.length) (h : q (M.getD x 0) = false) : keepP q M (x + 1) = keepP q M x := by
 unfold keepP
 rw [take_snoc (d := 0) hx, List.filter_append, List.filter_cons_of_neg (by rw [h]; decide)]; simp
theorem keepP_le (q : Int -> Bool) (M : List Int) (x : Nat) : (keepP q M x).length <= x := Nat.le_trans (List.length_filter_le ..) (by rw [List.length_take]; omega)
theorem keepP_all {q : Int -> Bool} {M : List Int} {x : Nat} (h : (M.take x).all q = true) : keepP q M x = M.take x := List.filter_eq_self.2 (List.all_eq_true.1 h)
theorem midP_at {q : Int -> Bool} {M : List Int} {x : Nat} (hx : x < M.length) : (midP q M x).getD x 0 = M.getD x 0 := by
 have := keepP_le q M x
 unfold midP
 rw [List.getD_eq_getElem?_getD, List.getElem?_append_right this, List.getElem?_drop, <- List.getD_eq_getElem?_getD, show (keepP q M x).length + (x - (keepP q M x).length) = x by omega]
theorem midP_len {q : Int -> Bool} {M : List Int} {x : Nat} (hx : x <= M.length) : (midP q M x).length = M.length := by
 have := keepP_le q M x
 unfold midP
 rw [List.length_append, List.length_drop]; omega
theorem midP_1 {q : Int -> Bool} {M : List Int} {x : Nat} (hx : x < M.length) (h : q (M.getD x 0) = true) : (midP q M x).set (keepP q M x).length (M.getD x 0) = midP q M (x + 1) := by
 have hc := keepP_le q M x
 unfold midP
 rw [keepP_1 hx h, drop_get (show (keepP q M x).length < M.length by omega), List.length_append]
 simp
theorem midP_0 {q : Int -> Bool} {M : List Int} {x : Nat} (hx : x < M.length) (h : q (M.getD x 0) = false) : midP q M (x + 1) = midP q M x := by
 unfold midP; rw [keepP_0 hx h]
theorem midP_first {q : Int -> Bool} {M : List Int} {x : Nat} (hx : x < M.length) (ha : (M.take x).all q = true) (h : q (M.getD x 0) = false) : midP q M (x + 1) = M /\ (keepP q M (x + 1)).length = x := by
 have e : keepP q M (x + 1) = M.take x := (keepP_0 hx h).trans (keepP_all ha)
 have hl : (M.take x).length = x := take_len (by omega)
 refine ⟨?_, by rw [e, hl]⟩
 unfold midP
 rw [e, hl, List.take_append_drop]
theorem delP_all {q : Int -> Bool} {M : List Int} {k : Nat} (hk : k <= M.length) (ha : (M.take k).all q = true) : delP q M k = M /\ (keepP q M k).length = k := by
 have hl : (keepP q M k).length = k := by rw [keepP_all ha]; exact take_len hk
 refine ⟨?_, hl⟩
 unfold delP
 rw [hl, keepP_all ha, Nat.sub_self, List.replicate_zero, List.append_nil, List.take_append_drop]
theorem delP_len {q : Int -> Bool} {M : List Int} {k : Nat} (hk : k <= M.length) : (delP q M k).length = M.length := by
 have := keepP_le q M k
 unfold delP
 rw [List.length_append, List.length_append, List.length_replicate, List.length_drop]; omega
theorem clr_del {q : Int -> Bool} {M : List Int} {k : Nat} (hk : k <= M.length) : setl ((midP q M k).flatMap intC) (0 + (keepP q M k).length * 1) (krep [.int .i64 0] (k - (keepP q M k).length)) = (delP q M k).flatMap intC := by
 have hc := keepP_le q M k
 have e : M.drop (keepP q M k).length = (M.take k).drop (keepP q M k).length ++ M.drop k := by
  have h2 : (keepP q M k).length <= (M.take k).length := by rw [take_len hk]; omega
  rw [<- List.drop_append_of_le_length h2, List.take_append_drop]
 unfold midP delP
 rw [e, krep_int, List.flatMap_append, List.flatMap_append, List.append_assoc, List.flatMap_append, List.flatMap_append]
 have := setl_mid ((List.replicate (k - (keepP q M k).length) (0 : Int)).flatMap intC) (((M.take k).drop (keepP q M k).length).flatMap intC) ((keepP q M k).flatMap intC) ((M.drop k).flatMap intC) (by
  rw [flat_len intC_len, flat_len intC_len, List.length_drop, take_len hk, List.length_replicate])
 rw [flat_len intC_len] at this
 rw [show 0 + (keepP q M k).length * 1 = (keepP q M k).length * 1 by omega]
 exact this
theorem delP_at {q : Int -> Bool} {M : List Int} {k i : Nat} (hi : i < (keepP q M k).length) : (delP q M k).getD i 0 = (keepP q M k).getD i 0 := by
 unfold delP
 rw [List.getD_eq_getElem?_getD, List.append_assoc, List.getElem?_append_left hi, <- List.getD_eq_getElem?_getD]
theorem delP_take {q : Int -> Bool} {M : List Int} {k : Nat} : (delP q M k).take (keepP q M k).length = keepP q M k := by
 unfold delP
 rw [List.append_assoc, List.take_left]
theorem bst_1 {c : Int -> Int -> Int} {M : List Int} {x : Nat} (h : c (M.getD (x + 1) 0) (bstP c M x) < 0) : bstP c M (x + 1) = M.getD (x + 1) 0 := if_pos h
theorem bst_0 {c : Int -> Int -> Int} {M : List Int} {x : Nat} (h : ¬ c (M.getD (x + 1) 0) (bstP c M x) < 0) : bstP c M (x + 1) = bstP c M x := if_neg h
theorem bst_mem (c : Int -> Int -> Int) (M : List Int) : ∀ x : Nat, ∃ i, i <= x /\ bstP c M x = M.getD i 0
 | 0 => ⟨0, Nat.le_refl _, rfl⟩
 | x + 1 => by
  obtain ⟨i, h1, h2⟩ := bst_mem c M x
  by_cases h : c (M.getD (x + 1) 0) (bstP c M x) < 0
  ·exact ⟨x + 1, Nat.le_refl _, bst_1 h⟩
  ·exact ⟨i, by omega, (bst_0 h).trans h2⟩
theorem min_step {M : List Int} {x : Nat} : (if M.getD (x + 1) 0 < minTo M x then M.getD (x + 1) 0 else minTo M x) = minTo M (x + 1) := by
 show _ = min (minTo M x) (M.getD (x + 1) 0)
 split <;> omega
theorem firstN_le (c : Nat -> Bool) : ∀ n : Nat, firstN c n <= n
 | 0 => Nat.le_refl _
 | n + 1 => by
  have ih := firstN_le c n
  unfold firstN
  split
  ·omega
  ·split <;> omega
theorem firstN_succ {c : Nat -> Bool} {x : Nat} (h : firstN c x = x) (h2 : c x = false) : firstN c (x + 1) = x + 1 := by
 show (if firstN c x < x then firstN c x else if c x = true then x else x + 1) = x + 1
 rw [if_neg (by omega), if_neg (by rw [h2]; decide)]
theorem firstN_at {c : Nat -> Bool} {x : Nat} (h : firstN c x = x) (h2 : c x = true) : ∀ {n : Nat}, x < n -> firstN c n = x
 | 0, hn => absurd hn (Nat.not_lt_zero _)
 | n + 1, hn => by
  show (if firstN c n < n then firstN c n else if c n = true then n else n + 1) = x
  by_cases e : x = n
  ·subst e
   rw [if_neg (by omega), if_pos h2]
  ·have := firstN_at h h2 (n := n) (by omega)
   rw [this, if_pos (by omega)]
end
end Go.Proofs.YthdekmpkioikdaaGreat
