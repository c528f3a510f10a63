/- Closed calls of the chapter's examples. Printed by a program. No condition. -/
import Derived.Test.YthdekmpkioikdaaGreatGR2gxZ5
namespace Go.Proofs.YthdekmpkioikdaaGreat
set_option linter.unusedSimpArgs false
open Go Go.K
set_option maxRecDepth 1000000
set_option maxHeartbeats 4000000
set_option linter.unusedVariables false
noncomputable section
attribute [local irreducible] vF
def R109_0 (sp : Value) : Prop :=
 (.tuple #[nI 0,.bool false] : Value) = sp
theorem E109_0 (sp : Value) : vF prog msk (dm 0) 100000 true 40 true 109 jz1 jz2l (some [])
 (.go 6 (.into (some [6,7]) (.go 49 (.into (some (List.range' 6 8)) (.go 3 (.into (some (List.range' 6 8)) (.go 11 (.into (some (List.range' 6 8)) (.go 200 (.into jz1u (.go 7 (.into jz1u (.go 28 (.into jz1u (.go 11 (.into jz1u (.auto)))))))))))))))))
 (fun v _ _ => v = sp) = R109_0 sp:=by kernel_rfl
theorem P109_0 : R109_0 jz1p:=rfl
theorem C109_0 {H : Heap} (ids : List Nat) (h : InsA H (sgR 0 ids) ids [[sL 4 2 2,sL 5 2 2],[nI 0],jz0,jz13,[nI 0,nI 4],[nI 4,nI 0]]) : KCall prog 109 (jz11.map (rn (sgR 0 ids) 3)) H [] (Is jz1p H) :=
 valRA (css:=[[sL 4 2 2,sL 5 2 2],[nI 0],jz0,jz13,[nI 0,nI 4],[nI 4,nI 0]]) (Eq.mpr (E109_0 _) P109_0) rfl ids h.len h.get
def R109_6 (sp : Value) : Prop :=
 (.tuple #[nI 29,.bool false] : Value) = sp
theorem E109_6 (sp : Value) : vF prog msk (dm 0) 100000 true 40 true 109 jz1 jz2a (some [])
 jzh
 (fun v _ _ => v = sp) = R109_6 sp:=by kernel_rfl
theorem P109_6 : R109_6 jz1d:=rfl
theorem C109_6 {H : Heap} (ids : List Nat) (h : InsA H (sgR 0 ids) ids [[sL 4 2 2,sL 5 2 2],[nI 0],jz0,[sL 6 1 1],[nI 0,nI 4],[nI 4,nI 0],[nI 0]]) : KCall prog 109 (jz11.map (rn (sgR 0 ids) 3)) H [] (Is jz1d H) :=
 valRA (css:=[[sL 4 2 2,sL 5 2 2],[nI 0],jz0,[sL 6 1 1],[nI 0,nI 4],[nI 4,nI 0],[nI 0]]) (Eq.mpr (E109_6 _) P109_6) rfl ids h.len h.get
def R109_3 (sp : Value) : Prop :=
 jz1w = sp
theorem E109_3 (sp : Value) : vF prog msk (dm 0) 100000 true 40 true 109 jz1 jz1x (some [])
 jz9
 (fun v _ _ => v = sp) = R109_3 sp:=by kernel_rfl
theorem P109_3 : R109_3 jzp:=rfl
theorem C109_3 {H : Heap} (ids : List Nat) (h : InsA H (sgR 0 ids) ids [[sL 4 2 2,sL 5 2 2],[nI 0],jz0,[sL 6 2 2],[nI 0,nI 4],[nI 4,nI 0],[nI 0,nI 1]]) : KCall prog 109 (jz11.map (rn (sgR 0 ids) 3)) H [] (Is jzp H) :=
 valRA (css:=[[sL 4 2 2,sL 5 2 2],[nI 0],jz0,[sL 6 2 2],[nI 0,nI 4],[nI 4,nI 0],[nI 0,nI 1]]) (Eq.mpr (E109_3 _) P109_3) rfl ids h.len h.get
def R109_9 (sp : Value) : Prop :=
 jz1w = sp
theorem E109_9 (sp : Value) : vF prog msk (dm 0) 100000 true 40 true 109 jz1 (readsT 0 [[sL 4 2 2,sL 5 2 2],[nI 0],jz0,[sL 6 3 3],[nI 0,nI 4],[nI 4,nI 0],jz2p]) (some [])
 jz8
 (fun v _ _ => v = sp) = R109_9 sp:=by kernel_rfl
theorem P109_9 : R109_9 jzp:=rfl
theorem C109_9 {H : Heap} (ids : List Nat) (h : InsA H (sgR 0 ids) ids [[sL 4 2 2,sL 5 2 2],[nI 0],jz0,[sL 6 3 3],[nI 0,nI 4],[nI 4,nI 0],jz2p]) : KCall prog 109 (jz11.map (rn (sgR 0 ids) 3)) H [] (Is jzp H) :=
 valRA (css:=[[sL 4 2 2,sL 5 2 2],[nI 0],jz0,[sL 6 3 3],[nI 0,nI 4],[nI 4,nI 0],jz2p]) (Eq.mpr (E109_9 _) P109_9) rfl ids h.len h.get
def R109_a (sp : Value) : Prop :=
 jz1w = sp
theorem E109_a (sp : Value) : vF prog msk (dm 0) 100000 true 40 true 109 jz1 jz1y (some [])
 jz9
 (fun v _ _ => v = sp) = R109_a sp:=by kernel_rfl
theorem P109_a : R109_a jzp:=rfl
theorem C109_a {H : Heap} (ids : List Nat) (h : InsA H (sgR 0 ids) ids [[sL 4 2 2,sL 5 2 2],[nI 0],jz0,[sL 6 2 2],[nI 0,nI 4],[nI 4,nI 0],[nI 0,nI 2]]) : KCall prog 109 (jz11.map (rn (sgR 0 ids) 3)) H [] (Is jzp H) :=
 valRA (css:=[[sL 4 2 2,sL 5 2 2],[nI 0],jz0,[sL 6 2 2],[nI 0,nI 4],[nI 4,nI 0],[nI 0,nI 2]]) (Eq.mpr (E109_a _) P109_a) rfl ids h.len h.get
def R109_5 (sp : Value) : Prop :=
 jz1w = sp
theorem E109_5 (sp : Value) : vF prog msk (dm 0) 100000 true 40 true 109 jz1 (readsT 0 [[sL 4 2 2,sL 5 2 2],[nI 0],jz0,[sL 6 3 3],[nI 0,nI 4],[nI 4,nI 0],jz2q]) (some [])
 jz8
 (fun v _ _ => v = sp) = R109_5 sp:=by kernel_rfl
theorem P109_5 : R109_5 jzp:=rfl
theorem C109_5 {H : Heap} (ids : List Nat) (h : InsA H (sgR 0 ids) ids [[sL 4 2 2,sL 5 2 2],[nI 0],jz0,[sL 6 3 3],[nI 0,nI 4],[nI 4,nI 0],jz2q]) : KCall prog 109 (jz11.map (rn (sgR 0 ids) 3)) H [] (Is jzp H) :=
 valRA (css:=[[sL 4 2 2,sL 5 2 2],[nI 0],jz0,[sL 6 3 3],[nI 0,nI 4],[nI 4,nI 0],jz2q]) (Eq.mpr (E109_5 _) P109_5) rfl ids h.len h.get
def R109_1 (sp : Value) : Prop :=
 (.tuple #[nI 10,.bool false] : Value) = sp
theorem E109_1 (sp : Value) : vF prog msk (dm 0) 100000 true 40 true 109 jz1 jz2b (some [])
 jzh
 (fun v _ _ => v = sp) = R109_1 sp:=by kernel_rfl
theorem P109_1 : R109_1 jz1e:=rfl
theorem C109_1 {H : Heap} (ids : List Nat) (h : InsA H (sgR 0 ids) ids [[sL 4 2 2,sL 5 2 2],[nI 0],jz0,[sL 6 1 1],[nI 0,nI 4],[nI 4,nI 0],[nI 1]]) : KCall prog 109 (jz11.map (rn (sgR 0 ids) 3)) H [] (Is jz1e H) :=
 valRA (css:=[[sL 4 2 2,sL 5 2 2],[nI 0],jz0,[sL 6 1 1],[nI 0,nI 4],[nI 4,nI 0],[nI 1]]) (Eq.mpr (E109_1 _) P109_1) rfl ids h.len h.get
def R109_d (sp : Value) : Prop :=
 (.tuple #[nI 28,.bool false] : Value) = sp
theorem E109_d (sp : Value) : vF prog msk (dm 0) 100000 true 40 true 109 jz1 jz1z (some [])
 jz9
 (fun v _ _ => v = sp) = R109_d sp:=by kernel_rfl
theorem P109_d : R109_d jz1f:=rfl
theorem C109_d {H : Heap} (ids : List Nat) (h : InsA H (sgR 0 ids) ids [[sL 4 2 2,sL 5 2 2],[nI 0],jz0,[sL 6 2 2],[nI 0,nI 4],[nI 4,nI 0],[nI 1,nI 0]]) : KCall prog 109 (jz11.map (rn (sgR 0 ids) 3)) H [] (Is jz1f H) :=
 valRA (css:=[[sL 4 2 2,sL 5 2 2],[nI 0],jz0,[sL 6 2 2],[nI 0,nI 4],[nI 4,nI 0],[nI 1,nI 0]]) (Eq.mpr (E109_d _) P109_d) rfl ids h.len h.get
def R109_c (sp : Value) : Prop :=
 (.tuple #[nI 32,.bool false] : Value) = sp
theorem E109_c (sp : Value) : vF prog msk (dm 0) 100000 true 40 true 109 jz1 jz2f (some [])
 jz8
 (fun v _ _ => v = sp) = R109_c sp:=by kernel_rfl
theorem P109_c : R109_c jz1g:=rfl
theorem C109_c {H : Heap} (ids : List Nat) (h : InsA H (sgR 0 ids) ids [[sL 4 2 2,sL 5 2 2],[nI 0],jz0,[sL 6 3 3],[nI 0,nI 4],[nI 4,nI 0],jzq]) : KCall prog 109 (jz11.map (rn (sgR 0 ids) 3)) H [] (Is jz1g H) :=
 valRA (css:=[[sL 4 2 2,sL 5 2 2],[nI 0],jz0,[sL 6 3 3],[nI 0,nI 4],[nI 4,nI 0],jzq]) (Eq.mpr (E109_c _) P109_c) rfl ids h.len h.get
def R109_2 (sp : Value) : Prop :=
 (.tuple #[nI 15,.bool false] : Value) = sp
theorem E109_2 (sp : Value) : vF prog msk (dm 0) 100000 true 40 true 109 jz1 jz20 (some [])
 jz9
 (fun v _ _ => v = sp) = R109_2 sp:=by kernel_rfl
theorem P109_2 : R109_2 jz1h:=rfl
theorem C109_2 {H : Heap} (ids : List Nat) (h : InsA H (sgR 0 ids) ids [[sL 4 2 2,sL 5 2 2],[nI 0],jz0,[sL 6 2 2],[nI 0,nI 4],[nI 4,nI 0],[nI 1,nI 2]]) : KCall prog 109 (jz11.map (rn (sgR 0 ids) 3)) H [] (Is jz1h H) :=
 valRA (css:=[[sL 4 2 2,sL 5 2 2],[nI 0],jz0,[sL 6 2 2],[nI 0,nI 4],[nI 4,nI 0],[nI 1,nI 2]]) (Eq.mpr (E109_2 _) P109_2) rfl ids h.len h.get
def R109_4 (sp : Value) : Prop :=
 (.tuple #[nI 19,.bool false] : Value) = sp
theorem E109_4 (sp : Value) : vF prog msk (dm 0) 100000 true 40 true 109 jz1 jz2g (some [])
 jz8
 (fun v _ _ => v = sp) = R109_4 sp:=by kernel_rfl
theorem P109_4 : R109_4 jz1i:=rfl
theorem C109_4 {H : Heap} (ids : List Nat) (h : InsA H (sgR 0 ids) ids [[sL 4 2 2,sL 5 2 2],[nI 0],jz0,[sL 6 3 3],[nI 0,nI 4],[nI 4,nI 0],jzx]) : KCall prog 109 (jz11.map (rn (sgR 0 ids) 3)) H [] (Is jz1i H) :=
 valRA (css:=[[sL 4 2 2,sL 5 2 2],[nI 0],jz0,[sL 6 3 3],[nI 0,nI 4],[nI 4,nI 0],jzx]) (Eq.mpr (E109_4 _) P109_4) rfl ids h.len h.get
def R109_7 (sp : Value) : Prop :=
 (.tuple #[nI 13,.bool false] : Value) = sp
theorem E109_7 (sp : Value) : vF prog msk (dm 0) 100000 true 40 true 109 jz1 jz2c (some [])
 jzh
 (fun v _ _ => v = sp) = R109_7 sp:=by kernel_rfl
theorem P109_7 : R109_7 jz1j:=rfl
theorem C109_7 {H : Heap} (ids : List Nat) (h : InsA H (sgR 0 ids) ids [[sL 4 2 2,sL 5 2 2],[nI 0],jz0,[sL 6 1 1],[nI 0,nI 4],[nI 4,nI 0],[nI 2]]) : KCall prog 109 (jz11.map (rn (sgR 0 ids) 3)) H [] (Is jz1j H) :=
 valRA (css:=[[sL 4 2 2,sL 5 2 2],[nI 0],jz0,[sL 6 1 1],[nI 0,nI 4],[nI 4,nI 0],[nI 2]]) (Eq.mpr (E109_7 _) P109_7) rfl ids h.len h.get
def R109_e (sp : Value) : Prop :=
 (.tuple #[nI 31,.bool false] : Value) = sp
theorem E109_e (sp : Value) : vF prog msk (dm 0) 100000 true 40 true 109 jz1 jz21 (some [])
 jz9
 (fun v _ _ => v = sp) = R109_e sp:=by kernel_rfl
theorem P109_e : R109_e jz1k:=rfl
theorem C109_e {H : Heap} (ids : List Nat) (h : InsA H (sgR 0 ids) ids [[sL 4 2 2,sL 5 2 2],[nI 0],jz0,[sL 6 2 2],[nI 0,nI 4],[nI 4,nI 0],[nI 2,nI 0]]) : KCall prog 109 (jz11.map (rn (sgR 0 ids) 3)) H [] (Is jz1k H) :=
 valRA (css:=[[sL 4 2 2,sL 5 2 2],[nI 0],jz0,[sL 6 2 2],[nI 0,nI 4],[nI 4,nI 0],[nI 2,nI 0]]) (Eq.mpr (E109_e _) P109_e) rfl ids h.len h.get
def R109_b (sp : Value) : Prop :=
 (.tuple #[nI 35,.bool false] : Value) = sp
theorem E109_b (sp : Value) : vF prog msk (dm 0) 100000 true 40 true 109 jz1 jz2h (some [])
 jz8
 (fun v _ _ => v = sp) = R109_b sp:=by kernel_rfl
theorem P109_b : R109_b jz1l:=rfl
theorem C109_b {H : Heap} (ids : List Nat) (h : InsA H (sgR 0 ids) ids [[sL 4 2 2,sL 5 2 2],[nI 0],jz0,[sL 6 3 3],[nI 0,nI 4],[nI 4,nI 0],jzy]) : KCall prog 109 (jz11.map (rn (sgR 0 ids) 3)) H [] (Is jz1l H) :=
 valRA (css:=[[sL 4 2 2,sL 5 2 2],[nI 0],jz0,[sL 6 3 3],[nI 0,nI 4],[nI 4,nI 0],jzy]) (Eq.mpr (E109_b _) P109_b) rfl ids h.len h.get
def R109_8 (sp : Value) : Prop :=
 (.tuple #[nI 18,.bool false] : Value) = sp
theorem E109_8 (sp : Value) : vF prog msk (dm 0) 100000 true 40 true 109 jz1 jz22 (some [])
 jz9
 (fun v _ _ => v = sp) = R109_8 sp:=by kernel_rfl
theorem P109_8 : R109_8 jz1m:=rfl
theorem C109_8 {H : Heap} (ids : List Nat) (h : InsA H (sgR 0 ids) ids [[sL 4 2 2,sL 5 2 2],[nI 0],jz0,[sL 6 2 2],[nI 0,nI 4],[nI 4,nI 0],[nI 2,nI 1]]) : KCall prog 109 (jz11.map (rn (sgR 0 ids) 3)) H [] (Is jz1m H) :=
 valRA (css:=[[sL 4 2 2,sL 5 2 2],[nI 0],jz0,[sL 6 2 2],[nI 0,nI 4],[nI 4,nI 0],[nI 2,nI 1]]) (Eq.mpr (E109_8 _) P109_8) rfl ids h.len h.get
def R109_f (sp : Value) : Prop :=
 (.tuple #[nI 22,.bool false] : Value) = sp
theorem E109_f (sp : Value) : vF prog msk (dm 0) 100000 true 40 true 109 jz1 jz2i (some [])
 jz8
 (fun v _ _ => v = sp) = R109_f sp:=by kernel_rfl
theorem P109_f : R109_f jz1n:=rfl
theorem C109_f {H : Heap} (ids : List Nat) (h : InsA H (sgR 0 ids) ids [[sL 4 2 2,sL 5 2 2],[nI 0],jz0,[sL 6 3 3],[nI 0,nI 4],[nI 4,nI 0],jzz]) : KCall prog 109 (jz11.map (rn (sgR 0 ids) 3)) H [] (Is jz1n H) :=
 valRA (css:=[[sL 4 2 2,sL 5 2 2],[nI 0],jz0,[sL 6 3 3],[nI 0,nI 4],[nI 4,nI 0],jzz]) (Eq.mpr (E109_f _) P109_f) rfl ids h.len h.get
end
end Go.Proofs.YthdekmpkioikdaaGreat
