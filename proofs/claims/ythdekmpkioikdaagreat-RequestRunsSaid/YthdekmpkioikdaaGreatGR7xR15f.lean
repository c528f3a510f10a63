/- Request: what is wrong with histories. No condition. -/
import Derived.Test.YthdekmpkioikdaaGreatGR1xR7g
import Derived.Test.YthdekmpkioikdaaGreatGK27xR1g
namespace Go.Proofs.YthdekmpkioikdaaGreat
open Go Go.K
set_option maxRecDepth 100000
set_option linter.unusedVariables false
set_option linter.unusedSimpArgs false
noncomputable section
attribute [local irreducible] vF
theorem brC_len (b : Br) : (brC b).length = 2 := rfl
theorem plainBR (n : Nat) (l : List Br) : (l.flatMap brC).all (belowC n) = true := plain_flat (fun _ => rfl) l
theorem plcAt {l : List Rq} {k : Nat} (h : k < l.length) {off : Nat} (ho : off = k * 7 + 2) : (l.flatMap rqC)[off]? = some (.int .i64 (l.getD k zeroQ).place) := cell_at (n := 7) (d := zeroQ) (c := 2) rqC_len h ho rfl
theorem wk_ofR {id o l c : Nat} (hp : 0 < l) : wk (.slice (some ⟨id, o, some 2⟩) l c) (.slice (some ⟨id, o, none⟩) l c) := by
 intro ρ x h
 cases h with
 | sliceRe => exact absurd hp (Nat.lt_irrefl 0)
 | sliceR h _ hl hc ho => exact .slice h hl hc ho
theorem kClone (l : List Int) (hl : l.length <= 4294967296) {H : Heap} {L : Nat} (hL : H.length = L) {i : Nat} {o : Bool} {z : Nat} (e : H[i]? = some (.cells o z (l.flatMap intC))) :
  KCall prog 116 [.slice (some ⟨i, 0, none⟩) l.length l.length] H [] (Is (.slice (some ⟨L, 0, some 1⟩) l.length l.length) (H ++ [.cells true 1 (l.flatMap intC)])) := by
 subst hL
 refine valQ (fun i => .slice (some ⟨i, 0, some 1⟩) l.length l.length) (Eq.mpr (EClone l) ?_) (plainIL 0 l) (fun n => plainIL n _) rfl rfl (fun _ => rfl) e rfl
 delta RClone jel
 refine ⟨fun h => ⟨⟨by omega, h⟩, rfl, ?_, ⟨?_, plainIL _ _⟩, trivial⟩, fun h => ⟨⟨by omega, h, ⟨Nat.le_refl _, Nat.zero_le _⟩, ⟨Nat.le_refl _, flat_le intC_len _⟩, one1_take one1_I⟩, rfl, rfl, ?_, ⟨?_, plainIL _ _⟩, trivial⟩⟩
 ·rw [h]; exact wk_refl _
 ·have : l = [] := List.length_eq_zero_iff.1 h
  subst this; rfl
 ·rw [Nat.zero_add]; exact wk_Q (by omega)
 ·rw [copy_I]; rfl
theorem kCloneR (l : List Int) (hl : l.length <= 4294967296) (h0 : 0 < l.length) {H : Heap} {L : Nat} (hL : H.length = L) {i : Nat} {o : Bool} {z : Nat} (e : H[i]? = some (.cells o z (l.flatMap intC))) :
  KCall prog 116 [.slice (some ⟨i, 0, some 2⟩) l.length l.length] H [] (Is (.slice (some ⟨L, 0, some 1⟩) l.length l.length) (H ++ [.cells true 1 (l.flatMap intC)])) :=
 KCall.wkA (kClone l hl hL e) (wks_cons (wk_ofR h0) wks_nil)
theorem dock_len (f : Fleet) : (dock f).length = f.b.length := tabP_len ..
theorem dock_at {f : Fleet} {k : Nat} (h : k < f.b.length) : (dock f).getD k zeroB = ⟨0, f.b.getD k 0⟩ := tabP_get h
theorem kDocked (f : Fleet) (hb : f.b.length <= 4294967296) {H : Heap} {L : Nat} (hL : H.length = L) {i0 i1 : Nat} {o0 o1 : Bool} {z0 z1 : Nat} (e0 : H[i0]? = some (.cells o0 z0 (inL f.t))) (e1 : H[i1]? = some (.cells o1 z1 (f.b.flatMap intC))) :
  KCall prog 138 [fleetV f i0 i1] H [] (Is (.slice (some ⟨L, 0, some 1⟩) (dock f).length (dock f).length) (H ++ [.cells true 2 ((dock f).flatMap brC)])) := by
 subst hL
 refine valQ2 (fun i => .slice (some ⟨i, 0, some 1⟩) (dock f).length (dock f).length) (Eq.mpr (Edocked f) ?_) (inL_b 0 _) (plainIL 0 _) (fun n => plainBR n _) rfl rfl (fun _ => rfl) e0 e1 rfl
 delta Rdocked jeu jee je6 je5 jeb jeg
 refine ⟨rfl, Nat.zero_le _, ?_, fun _ => rfl, ?_⟩
 ·repeat' first | exact inL_b _ _ | exact plainIL _ _ | exact plainBL _ _ | exact plainRQ _ _ | exact plainSV _ _ | exact plainBR _ _ | exact (inV_rn _ 0 _).symm | exact wk_QR | exact trivial | exact rfl | exact wk_refl _ | refine wkO_cells ?_ | refine wks_cons ?_ ?_ | exact wks_nil | exact wk_nil _ _ _ (.inl rfl) | (exact wk_Q (by omega)) | refine wk_tupL ?_ | refine wk_aggL ?_ | refine joinMax ?_ ?_ ?_ | refine joinMin ?_ ?_ ?_ | refine toMax ?_ | refine toMin ?_ | refine ⟨rfl, ?_⟩ | refine ⟨trivial, ?_⟩ | (refine forkD (fun h => ?_) (fun h => ?_)) | (refine forkNe (fun h => ?_) (fun h => ?_)) | (refine forkEq (fun h => ?_) (fun h => ?_)) | refine forkNot ?_ | (refine ⟨vI64 (by omega), ?_⟩) | (refine And.intro (by omega) ?_) | apply And.intro | (exact iEq (by omega)) | (exact vI64 (by omega))
 intro x hx
 have hdl := dock_len f
 have htl : (List.take x (dock f)).length = x := take_len (by omega)
 refine forkD (fun h => ?_) (fun h => ?_)
 ·have hlt : x < f.b.length := by omega
  have hsn := take_snoc (d := zeroB) (l := dock f) (k := x) (by omega)
  rw [dock_at hlt] at hsn
  have hfs := flat_snoc brC_len (List.take x (dock f)) ⟨0, f.b.getD x 0⟩ htl.symm
  rw [<- hsn] at hfs
  refine ⟨by omega, intAt hlt (by omega), ⟨by omega, by decide, ⟨Nat.le_refl _, by rw [flat_len brC_len, htl]; omega⟩, ⟨by decide, Nat.le_refl _⟩, rfl⟩, rfl, vI64 (by omega), x + 1, by omega, by omega, rfl, ?_⟩
  repeat' first | exact inL_b _ _ | exact plainIL _ _ | exact plainBL _ _ | exact plainRQ _ _ | exact plainSV _ _ | exact plainBR _ _ | exact (inV_rn _ 0 _).symm | exact wk_QR | (exact congrArg (fun l => some (KObj.cells true 2 l)) hfs) | exact trivial | exact rfl | exact wk_refl _ | refine wkO_cells ?_ | refine wks_cons ?_ ?_ | exact wks_nil | exact wk_nil _ _ _ (.inl rfl) | (exact wk_Q (by omega)) | refine wk_tupL ?_ | refine wk_aggL ?_ | refine joinMax ?_ ?_ ?_ | refine joinMin ?_ ?_ ?_ | refine toMax ?_ | refine toMin ?_ | refine ⟨rfl, ?_⟩ | refine ⟨trivial, ?_⟩ | (refine forkD (fun h => ?_) (fun h => ?_)) | (refine forkNe (fun h => ?_) (fun h => ?_)) | (refine forkEq (fun h => ?_) (fun h => ?_)) | refine forkNot ?_ | (refine ⟨vI64 (by omega), ?_⟩) | (refine And.intro (by omega) ?_) | apply And.intro | (exact iEq (by omega)) | (exact vI64 (by omega))
 ·obtain rfl : x = f.b.length := by omega
  rw [<- hdl, List.take_length]
  repeat' first | exact inL_b _ _ | exact plainIL _ _ | exact plainBL _ _ | exact plainRQ _ _ | exact plainSV _ _ | exact plainBR _ _ | exact (inV_rn _ 0 _).symm | exact wk_QR | exact trivial | exact rfl | exact wk_refl _ | refine wkO_cells ?_ | refine wks_cons ?_ ?_ | exact wks_nil | exact wk_nil _ _ _ (.inl rfl) | (exact wk_Q (by omega)) | refine wk_tupL ?_ | refine wk_aggL ?_ | refine joinMax ?_ ?_ ?_ | refine joinMin ?_ ?_ ?_ | refine toMax ?_ | refine toMin ?_ | refine ⟨rfl, ?_⟩ | refine ⟨trivial, ?_⟩ | (refine forkD (fun h => ?_) (fun h => ?_)) | (refine forkNe (fun h => ?_) (fun h => ?_)) | (refine forkEq (fun h => ?_) (fun h => ?_)) | refine forkNot ?_ | (refine ⟨vI64 (by omega), ?_⟩) | (refine And.intro (by omega) ?_) | apply And.intro | (exact iEq (by omega)) | (exact vI64 (by omega))
theorem kServe (f : Fleet) (l : List Rq) (i b p t : Int) (o : FlOk f) (ol : LsOk f.t.length l) (hi : 0 <= i /\ i < (l.length : Int)) (hp : 0 <= p /\ p <= (f.t.length : Int) - 1) (ht : -1000000000000 <= t /\ t <= 1000000000000) {H : Heap} {i0 i1 i2 : Nat} {o0 o1 o2 : Bool} {z0 z1 z2 : Nat} (e0 : H[i0]? = some (.cells o0 z0 (inL f.t))) (e1 : H[i1]? = some (.cells o1 z1 (f.b.flatMap intC))) (e2 : H[i2]? = some (.cells o2 z2 (l.flatMap rqC))) :
  KCall prog 141 [fleetV f i0 i1, .slice (some ⟨i2, 0, some 2⟩) l.length l.length, nI i, nI b, nI p, nI t] H [] (Is (.agg #[nI i, nI b, nI t, nI (t + trav f p (rqAt l i).place), nI (t + trav f p (rqAt l i).place + (rqAt l i).len)]) H) := by
 refine valRx (Eq.mpr (Eserve _ f l i b p t) ?_) ⟨inL_b 0 _, plainIL 0 _, plainRQ 0 _, trivial⟩ rfl (ids := [i0, i1, i2]) ⟨⟨_, _, e0⟩, ⟨_, _, e1⟩, ⟨_, _, e2⟩, trivial⟩ rfl
 delta Rserve jeh je4 jec jet
 have n1 := o.n1
 have n2 := o.n2
 have hk : Int.toNat i < l.length := by omega
 have hq := ol.ok _ hk
 have q1 := hq.place
 have q2 := hq.len
 have hpn : Int.toNat p < f.t.length := by omega
 have hr := o.row _ hpn
 have tv := trav_in o (b := (rqAt l i).place) hp
 have etv : (f.t.getD (Int.toNat p) []).getD (Int.toNat (l.getD (Int.toNat i) zeroQ).place) 0 = trav f p (rqAt l i).place := rfl
 have eq1 : l.getD (Int.toNat i) zeroQ = rqAt l i := rfl
 rw [eq1] at q1 q2
 refine ⟨by omega, inL_at hpn (by omega), by omega, plcAt hk (by omega), ?_⟩
 rw [etv, eq1]
 exact ⟨by omega, by rw [<- etv, <- eq1]; exact intAt (by rw [hr, eq1]; omega) (by omega), vI64 (by omega), _, rfl, by omega, by rw [<- eq1]; exact lenAt hk (by omega), vI64 (by omega), rfl⟩
end
end Go.Proofs.YthdekmpkioikdaaGreat
/- Request: what is wrong with histories, by the reference. No condition. -/
namespace Go.Proofs.YthdekmpkioikdaaGreat
open Go Go.K
set_option maxRecDepth 100000
set_option linter.unusedVariables false
set_option linter.unusedSimpArgs false
noncomputable section
attribute [local irreducible] vF
theorem brH_len (f : Fleet) (l : List Rq) (h : List Sv) (k : Nat) : (brH f l h k).length = f.b.length := tabP_len ..
theorem brH_at {f : Fleet} {l : List Rq} {h : List Sv} {k b : Nat} (hb : b < f.b.length) : (brH f l h k).getD b zeroB = ⟨(frH f h k).getD b 0, (plH f l h k).getD b 0⟩ := tabP_get hb
theorem brH_succ {f : Fleet} {l : List Rq} {h : List Sv} {k : Nat} : brH f l h (k + 1) = (brH f l h k).set (Int.toNat (svAt h k).br) ⟨(svAt h k).nd, (rqAt l (svAt h k).rq).dest⟩ := by
 refine list_ext zeroB (by rw [List.length_set, brH_len, brH_len]) fun j hj => ?_
 rw [brH_len] at hj
 rw [getD_setN (by rw [brH_len]; exact hj), brH_at hj, brH_at hj]
 show (⟨((frH f h k).set _ _).getD j 0, ((plH f l h k).set _ _).getD j 0⟩ : Br) = _
 rw [getD_setN (by rw [frH_len]; exact hj), getD_setN (by rw [plH_len]; exact hj)]
 split <;> rfl
theorem brH_0 (f : Fleet) (l : List Rq) (h : List Sv) : brH f l h 0 = dock f := by
 refine list_ext zeroB (by rw [brH_len, dock_len]) fun j hj => ?_
 rw [brH_len] at hj
 rw [brH_at hj, dock_at hj]
 show (⟨(List.replicate _ _).getD j 0, _⟩ : Br) = _
 rw [List.getD_eq_getElem?_getD, List.getElem?_replicate, if_pos hj]; rfl
theorem dstAt {l : List Rq} {k : Nat} (h : k < l.length) {off : Nat} (ho : off = k * 7 + 3) : (l.flatMap rqC)[off]? = some (.int .i64 (l.getD k zeroQ).dest) := cell_at (n := 7) (d := zeroQ) (c := 3) rqC_len h ho rfl
end
end Go.Proofs.YthdekmpkioikdaaGreat
/- Request: plain laws of histories that are right. No condition. -/
namespace Go.Proofs.YthdekmpkioikdaaGreat
set_option linter.unusedSimpArgs false
open Go Go.K
set_option linter.unusedVariables false
noncomputable section
structure HOk (f : Fleet) (l : List Rq) (h : List Sv) : Prop where
 fl : FlOk f
 ls : LsOk f.t.length l
 len : h.length = l.length
 rq : ∀ k, k < h.length -> 0 <= (svAt h k).rq /\ (svAt h k).rq < (l.length : Int)
 br : ∀ k, k < h.length -> 0 <= (svAt h k).br /\ (svAt h k).br < (f.b.length : Int)
 ne : ∀ k, k < h.length -> (h.take k).any (isRq (svAt h k).rq) = false
 tk : ∀ k, k < h.length -> (rqAt l (svAt h k).rq).at_ <= (svAt h k).tk /\ (svAt h k).tk <= 1000000000
 bg : ∀ k, k < h.length -> (svAt h k).bg = bgH f l h k
 nd : ∀ k, k < h.length -> (svAt h k).nd = bgH f l h k + (rqAt l (svAt h k).rq).len
theorem HOk.inj {f : Fleet} {l : List Rq} {h : List Sv} (o : HOk f l h) {j k : Nat} (hk : k < h.length) (hj : j < k) : (svAt h j).rq ≠ (svAt h k).rq := by
 intro e
 have h1 := o.ne k hk
 have h2 : j < (h.take k).length := by rw [take_len (by omega)]; exact hj
 have hg : (h.take k).getD j zeroV = svAt h j := by show _ = h.getD j zeroV; rw [List.getD_eq_getElem?_getD, List.getElem?_take, if_pos hj, <- List.getD_eq_getElem?_getD]
 have := any_no (d := zeroV) h1 h2
 rw [hg] at this
 exact of_decide_eq_false this e
theorem laterV_neg (a b : Rq) : decide (laterV a b < 0) = befB a b := by
 unfold laterV cmpI befB
 by_cases h1 : a.at_ < b.at_
 ·rw [if_pos h1, first2_1 (by decide), decide_eq_true h1]; rfl
 ·rw [if_neg h1, decide_eq_false h1, Bool.false_or]
  by_cases h2 : b.at_ < a.at_
  ·rw [if_pos h2, first2_1 (by decide), decide_eq_false (show ¬ a.at_ = b.at_ by omega)]; rfl
  ·rw [if_neg h2, first2_2 rfl, decide_eq_true (show a.at_ = b.at_ by omega), Bool.true_and]
   by_cases h3 : a.id < b.id
   ·rw [if_pos h3, decide_eq_true h3]; rfl
   ·rw [if_neg h3, decide_eq_false h3]; split <;> rfl
end
end Go.Proofs.YthdekmpkioikdaaGreat
/- What is to be shown of functions. Printed by a program. No condition. -/
namespace Go.Proofs.YthdekmpkioikdaaGreat
set_option linter.unusedSimpArgs false
open Go Go.K
set_option maxRecDepth 100000
set_option maxHeartbeats 4000000
set_option linter.unusedVariables false
noncomputable section
abbrev jf11 : Value:=nI 0
def Rcmp (sp : Value) (a b : Int) : Prop :=
 ((((a : Int) != a) = true -> ((((b : Int) != b) = true -> jf11 = sp) /\ (((b : Int) != b) = false -> (nI (-1) : Value) = sp))) /\ (((a : Int) != a) = false -> ((((b : Int) != b) = true -> (nI 1 : Value) = sp) /\ (((b : Int) != b) = false -> (((decide ((a : Int) < b)) = true -> (nI (-1) : Value) = sp) /\ ((decide ((a : Int) < b)) = false -> (((decide ((b : Int) < a)) = true -> (nI 1 : Value) = sp) /\ ((decide ((b : Int) < a)) = false -> jf11 = sp))))))))
theorem Ecmp (sp : Value) (a b : Int) : vF prog msk (dm 0) 100000 true 40 true 152 [nI a,nI b] ⟨0,.leaf⟩ (some [])
 (.go 17 (.fork (.go 0 (.fork (.auto) (.auto))) (.go 0 (.fork (.auto) (.go 2 (.fork (.auto) (.go 2 (.fork (.auto) (.auto)))))))))
 (fun v _ _ => v = sp) = Rcmp sp a b:=by kernel_rfl
def Rbefore (sp : Value) (a1_ b1_ : Rq) : Prop :=
 (((decide ((a1_.at_ : Int) < b1_.at_)) = true -> (.bool true : Value) = sp) /\ ((decide ((a1_.at_ : Int) < b1_.at_)) = false -> ((((a1_.at_ : Int) == b1_.at_) = true -> (.bool (decide ((a1_.id : Int) < b1_.id)) : Value) = sp) /\ (((a1_.at_ : Int) == b1_.at_) = false -> (.bool false : Value) = sp))))
theorem Ebefore (sp : Value) (a1_ b1_ : Rq) : vF prog msk (dm 0) 100000 true 40 true 142 [.agg #[nI a1_.id,nI a1_.at_,nI a1_.place,nI a1_.dest,nI a1_.len,nI a1_.prio,nI a1_.limit],.agg #[nI b1_.id,nI b1_.at_,nI b1_.place,nI b1_.dest,nI b1_.len,nI b1_.prio,nI b1_.limit]] ⟨0,.leaf⟩ (some [])
 (.go 8 (.gfork (.auto) (.go 5 (.gfork (.auto) (.auto)))))
 (fun v _ _ => v = sp) = Rbefore sp a1_ b1_:=by kernel_rfl
abbrev jfd (l : List Rq) : Int:=(l.length : Nat)
abbrev jf1l (l : List Rq):=l.flatMap rqC
abbrev jfj (l : List Rq) (i : Int):=l.getD i.toNat zeroQ
abbrev jf18 (l : List Rq) (i : Int) : Value:=.agg #[nI (jfj l i).id,nI (jfj l i).at_,nI (jfj l i).place,nI (jfj l i).dest,nI (jfj l i).len,nI (jfj l i).prio,nI (jfj l i).limit]
abbrev jfl (l : List Rq) (k : Int):=l.getD k.toNat zeroQ
abbrev jf19 (l : List Rq) (k : Int) : Value:=.agg #[nI (jfl l k).id,nI (jfl l k).at_,nI (jfl l k).place,nI (jfl l k).dest,nI (jfl l k).len,nI (jfl l k).prio,nI (jfl l k).limit]
def Rlater (sp : Value) (f : Fleet) (l : List Rq) (X Y : List Int) (i k : Int) : Prop :=
 (((0 : Int) <= i /\ (i : Int) < (jfd l)) /\ ((partA 7 (jf1l l) (0 + Int.toNat i * 7) = some (jf18 l i)) /\ (((0 : Int) <= k /\ (k : Int) < (jfd l)) /\ ((partA 7 (jf1l l) (0 + Int.toNat k * 7) = some (jf19 l k)) /\ ((True) /\ (∀ H' : Heap,H'.length = 8 -> (True) -> KCall prog 152 [nI (jfj l i).at_,nI (jfl l k).at_] H' [] (Is (nI (cmpI (jfj l i).at_ (jfl l k).at_)) H')) /\ ((True) /\ (∀ H' : Heap,H'.length = 8 -> (True) -> KCall prog 152 [nI (jfj l i).id,nI (jfl l k).id] H' [] (Is (nI (cmpI (jfj l i).id (jfl l k).id)) H')) /\ (∃ y2 : Int,(nI (cmpI (jfj l i).at_ (jfl l k).at_) : Value) = nI y2 /\ ((((y2 : Int) != 0) = true -> (nI y2 : Value) = sp) /\ (((y2 : Int) != 0) = false -> (∃ y3 : Int,(nI (cmpI (jfj l i).id (jfl l k).id) : Value) = nI y3 /\ ((((y3 : Int) != 0) = true -> (nI y3 : Value) = sp) /\ (((y3 : Int) != 0) = false -> jf11 = sp))))))))))))
theorem Elater (sp : Value) (f : Fleet) (l : List Rq) (X Y : List Int) (i k : Int) : vF prog msk (dm 0) 100000 true 40 true 120 [.pointer (some ⟨5,0,none⟩),nI i,nI k] (readsT 0 [inL f.t,f.b.flatMap intC,l.flatMap rqC,X.flatMap intC,Y.flatMap intC,wkC f l X Y]) (some [])
 (.go 5 (.need (.val (jf18 l i) (.go 4 (.need (.val (jf19 l k) (.go 11 (.ans [] (nI (cmpI (jfj l i).at_ (jfl l k).at_)) [] (.ans [] (nI (cmpI (jfj l i).id (jfl l k).id)) [] (.go 10 (.bind Int (fun y2 => .slot 11 (nI y2) (.go 3 (.fork (.auto) (.go 5 (.bind Int (fun y3 => .slot 11 (nI y3) (.go 3 (.fork (.auto) (.auto))))))))))))))))))))
 (fun v _ _ => v = sp) = Rlater sp f l X Y i k:=by kernel_rfl
end
end Go.Proofs.YthdekmpkioikdaaGreat
/- Request: how long requests wait in a history. No condition. -/
namespace Go.Proofs.YthdekmpkioikdaaGreat
open Go Go.K
set_option maxRecDepth 100000
set_option linter.unusedVariables false
set_option linter.unusedSimpArgs false
noncomputable section
attribute [local irreducible] vF
theorem kCmp (a b : Int) (H : Heap) : KCall prog 152 [nI a, nI b] H [] (Is (.int .i64 (cmpI a b)) H) := by
 refine valK 40 (fun σ => rfl) rfl (Eq.mpr (Ecmp _ a b) ?_) H
 delta Rcmp jf11
 refine forkF (bne_self_eq_false _) (forkF (bne_self_eq_false _) (forkD (fun h => iEq (if_pos h).symm) (fun h => forkD (fun h2 => iEq ?_) (fun h2 => iEq ?_))))
 ·unfold cmpI; rw [if_neg h, if_pos h2]
 ·unfold cmpI; rw [if_neg h, if_neg h2]
theorem kBefore (a b : Rq) (H : Heap) : KCall prog 142 [.agg ⟨rqC a⟩, .agg ⟨rqC b⟩] H [] (Is (.bool (befB a b)) H) := by
 refine valK 40 (fun σ => rfl) rfl (Eq.mpr (Ebefore _ a b) ?_) H
 unfold Rbefore
 refine forkD (fun h => bEq ?_) (fun h => forkEq (fun h2 => bEq ?_) (fun h2 => bEq ?_))
 ·unfold befB; rw [decide_eq_true h]; rfl
 ·unfold befB; rw [decide_eq_false h, decide_eq_true h2]; rfl
 ·unfold befB; rw [decide_eq_false h, decide_eq_false h2]; rfl
theorem kLater (f : Fleet) (l : List Rq) (X Y : List Int) (i k : Int) (hi : 0 <= i /\ i < (l.length : Int)) (hk : 0 <= k /\ k < (l.length : Int)) {H : Heap} {j0 j1 j2 j3 j4 j5 : Nat} {o0 o1 o2 o3 o4 o5 : Bool} {z0 z1 z2 z3 z4 z5 : Nat}
  (e5 : H[j5]? = some (.cells o5 z5 [.slice (some ⟨j0, 0, some 2⟩) f.t.length f.t.length, .slice (some ⟨j1, 0, some 2⟩) f.b.length f.b.length, .slice (some ⟨j2, 0, some 2⟩) l.length l.length, .slice (some ⟨j3, 0, none⟩) X.length X.length, .slice (some ⟨j4, 0, some 1⟩) Y.length Y.length]))
  (e0 : H[j0]? = some (.cells o0 z0 (inL f.t))) (e1 : H[j1]? = some (.cells o1 z1 (f.b.flatMap intC))) (e2 : H[j2]? = some (.cells o2 z2 (l.flatMap rqC))) (e3 : H[j3]? = some (.cells o3 z3 (X.flatMap intC))) (e4 : H[j4]? = some (.cells o4 z4 (Y.flatMap intC))) :
  KCall prog 120 [.pointer (some ⟨j5, 0, none⟩), nI i, nI k] H [] (Is (.int .i64 (laterV (rqAt l i) (rqAt l k))) H) := by
 have hv : Rlater (.int .i64 (laterV (rqAt l i) (rqAt l k))) f l X Y i k := by
  delta Rlater jfd jf1l jfj jf18 jfl jf19 jf11
  have h1 : Int.toNat i < l.length := by omega
  have h2 : Int.toNat k < l.length := by omega
  refine ⟨by omega, partQ h1 (by omega), by omega, partQ h2 (by omega), trivial, fun H' _ _ => kCmp _ _ H', trivial, fun H' _ _ => kCmp _ _ H', _, rfl, forkNe (fun h => iEq (first2_1 h).symm) (fun h => ⟨_, rfl, forkNe (fun g => iEq (first2_2 h).symm) (fun g => iEq ?_)⟩)⟩
  exact ((first2_2 h).trans g).symm
 have hp : ∀ (l : List Value), l.all (belowC 0) = true -> l.map (rn (sgR 0 [j0, j1, j2, j3, j4, j5]) 3) = l := fun l hl => (rnCl (d := 0) hl).1
 refine valRA (css := [inL f.t, f.b.flatMap intC, l.flatMap rqC, X.flatMap intC, Y.flatMap intC, wkC f l X Y]) (Eq.mpr (Elater _ f l X Y i k) hv) rfl [j0, j1, j2, j3, j4, j5] rfl ?_
 intro n cs h
 match n with
 | 0 => cases h; exact ⟨_, _, _, rfl, by rw [hp _ (inL_b 0 _)]; exact e0⟩
 | 1 => cases h; exact ⟨_, _, _, rfl, by rw [hp _ (plainIL 0 _)]; exact e1⟩
 | 2 => cases h; exact ⟨_, _, _, rfl, by rw [hp _ (plainRQ 0 _)]; exact e2⟩
 | 3 => cases h; exact ⟨_, _, _, rfl, by rw [hp _ (plainIL 0 _)]; exact e3⟩
 | 4 => cases h; exact ⟨_, _, _, rfl, by rw [hp _ (plainIL 0 _)]; exact e4⟩
 | 5 => cases h; exact ⟨_, _, _, rfl, e5⟩
 | n + 6 => cases h
theorem wk_RI {id n m : Nat} (h : m = n) : wk (.slice (some ⟨id, 0, none⟩) n n) (.slice (some ⟨id, 0, some 2⟩) m m) := by subst h; exact wk_R
end
end Go.Proofs.YthdekmpkioikdaaGreat
/- Request: the history of a policy, hour by hour, as plain functions. No condition. -/
namespace Go.Proofs.YthdekmpkioikdaaGreat
set_option linter.unusedSimpArgs false
set_option linter.unusedVariables false
open Go Go.K
noncomputable section
def ovN (l : List Rq) (h : List Sv) : Nat -> List Int
 | 0 => List.replicate l.length 0
 | k + 1 => tabP (fun i => (ovN l h k).getD i 0 + if (!((metH l.length h (k + 1)).getD i false) && befB (l.getD i zeroQ) (rqAt l (svAt h k).rq)) = true then 1 else 0) l.length
def classV (p : Pol) (r : Rq) (taken : Bool) (ov hour : Int) : Int :=
 if taken = true ∨ hour < r.at_ then 0 else if p.ov <= ov then 3 else if 0 < r.limit /\ r.at_ + r.limit - hour <= p.warn then 2 else 1
def aheadB (c : Int) (a b : Rq) : Bool :=
 if c = 2 /\ a.at_ + a.limit ≠ b.at_ + b.limit then decide (a.at_ + a.limit < b.at_ + b.limit) else
 if c = 1 /\ a.prio ≠ b.prio then decide (b.prio < a.prio) else befB a b
def clsAt (p : Pol) (l : List Rq) (h : List Sv) (hour : Int) (i : Nat) : Int :=
 classV p (l.getD i zeroQ) ((metH l.length h h.length).getD i false) ((ovN l h h.length).getD i 0) hour
def bestTo (p : Pol) (l : List Rq) (h : List Sv) (hour : Int) : Nat -> Int × Int
 | 0 => (-1, 0)
 | i + 1 =>
  let b := bestTo p l h hour i
  let c := clsAt p l h hour i
  if b.2 < c ∨ (0 < c /\ c = b.2 /\ aheadB c (l.getD i zeroQ) (rqAt l b.1) = true) then ((i : Int), c) else b
def byTo (f : Fleet) (l : List Rq) (h : List Sv) (hour place : Int) : Nat -> Int
 | 0 => -1
 | b + 1 =>
  let y := byTo f l h hour place b
  let q := (brH f l h h.length).getD b zeroB
  if hour < q.free then y else
  if y < 0 ∨ trav f q.at_ place < trav f ((brH f l h h.length).getD (Int.toNat y) zeroB).at_ place then (b : Int) else y
def bestAt (p : Pol) (l : List Rq) (h : List Sv) (hour : Int) : Int := (bestTo p l h hour l.length).1
def byAt (f : Fleet) (p : Pol) (l : List Rq) (h : List Sv) (hour : Int) : Int := byTo f l h hour (rqAt l (bestAt p l h hour)).place f.b.length
def mkSv (f : Fleet) (l : List Rq) (h : List Sv) (i b hour : Int) : Sv :=
 let bg := hour + trav f ((brH f l h h.length).getD (Int.toNat b) zeroB).at_ (rqAt l i).place
 ⟨i, b, hour, bg, bg + (rqAt l i).len⟩
def decAt (f : Fleet) (p : Pol) (l : List Rq) (h : List Sv) (hour : Int) : Option Sv :=
 if bestAt p l h hour < 0 ∨ byAt f p l h hour < 0 then none else some (mkSv f l h (bestAt p l h hour) (byAt f p l h hour) hour)
def playS (f : Fleet) (p : Pol) (l : List Rq) : Nat -> Int -> List Sv -> List Sv
 | 0, _, h => h
 | n + 1, hour, h => if l.length <= h.length then h else match decAt f p l h hour with
  | some s => playS f p l n hour (h ++ [s])
  | none => playS f p l n (hour + 1) h
def ovP (l : List Rq) (h : List Sv) (s : Sv) (i : Nat) : List Int := tabP (fun j => if j < i then (ovN l (h ++ [s]) (h.length + 1)).getD j 0 else (ovN l h h.length).getD j 0) l.length
def playF (f : Fleet) (p : Pol) (l : List Rq) : List Sv := playS f p l 40000 0 []
structure GoodH (f : Fleet) (l : List Rq) (h : List Sv) : Prop where
 rq : ∀ k, k < h.length -> 0 <= (svAt h k).rq /\ (svAt h k).rq < (l.length : Int)
 br : ∀ k, k < h.length -> 0 <= (svAt h k).br /\ (svAt h k).br < (f.b.length : Int)
 ne : ∀ k, k < h.length -> (h.take k).any (isRq (svAt h k).rq) = false
structure PlayI (f : Fleet) (p : Pol) (l : List Rq) (hour : Nat) (h : List Sv) : Prop where
 good : GoodH f l h
 len : h.length <= l.length
 now : h.length < l.length -> hour <= 10000 + 200 * h.length
 top : hour <= 10001 + 200 * l.length
 free : ∀ b, b < f.b.length -> 0 <= (frH f h h.length).getD b 0 /\ (frH f h h.length).getD b 0 <= 10000 + 200 * (h.length : Int)
 own : ∃ m, (l.length - h.length) + (10000 + 200 * l.length - hour) <= m /\ playS f p l m (hour : Int) h = playF f p l
def PlayJ (f : Fleet) (p : Pol) (l : List Rq) (hour : Nat) (more : Bool) (h : List Sv) : Prop := PlayI f p l hour h /\ (more = false -> h.length < l.length -> decAt f p l h (hour : Int) = none)
def playM (l : List Rq) (hour : Nat) (h : List Sv) : Nat := 10002 + 200 * l.length - hour
def playN (l : List Rq) (more : Bool) (h : List Sv) : Nat := 2 * (l.length - h.length) + (if more = true then 1 else 0)
def errAll (f : Fleet) (p : Pol) (l : List Rq) : Int := first2 (first2 (errFl f) (errPol p)) (errRq f.t.length l)
def fRun (f : Fleet) (p : Pol) (l : List Rq) : List Sv × Int := if errAll f p l = 0 then (playF f p l, 0) else ([], errAll f p l)
def oH (f : Fleet) (p : Pol) (l : List Rq) : List Sv := (fRun f p l).1
end
end Go.Proofs.YthdekmpkioikdaaGreat
/- What is to be shown of functions. Printed by a program. No condition. -/
namespace Go.Proofs.YthdekmpkioikdaaGreat
set_option linter.unusedSimpArgs false
open Go Go.K
set_option maxRecDepth 100000
set_option maxHeartbeats 4000000
set_option linter.unusedVariables false
noncomputable section
abbrev jg1g : Value:=nI 0
def Rclass (sp : Value) (p : Pol) (r : Rq) (t : Bool) (o h : Int) : Prop :=
 ((t = true -> jg1g = sp) /\ (t = false -> (((decide ((h : Int) < r.at_)) = true -> jg1g = sp) /\ ((decide ((h : Int) < r.at_)) = false -> (((decide ((p.ov : Int) <= o)) = true -> (nI 3 : Value) = sp) /\ ((decide ((p.ov : Int) <= o)) = false -> (((decide ((0 : Int) < r.limit)) = true -> ((nI (IntKind.wrap .i64 (r.at_ + r.limit)) : Value) = nI (r.at_ + r.limit) /\ ((nI (IntKind.wrap .i64 ((r.at_ + r.limit) - h)) : Value) = nI ((r.at_ + r.limit) - h) /\ (((decide ((((r.at_ + r.limit) - h) : Int) <= p.warn)) = true -> (nI 2 : Value) = sp) /\ ((decide ((((r.at_ + r.limit) - h) : Int) <= p.warn)) = false -> (nI 1 : Value) = sp))))) /\ ((decide ((0 : Int) < r.limit)) = false -> (nI 1 : Value) = sp))))))))
theorem Eclass (sp : Value) (p : Pol) (r : Rq) (t : Bool) (o h : Int) : vF prog msk (dm 0) 100000 true 40 true 139 [.agg #[nI p.ov,nI p.warn,nI p.w0,nI p.w1,nI p.w2],.agg #[nI r.id,nI r.at_,nI r.place,nI r.dest,nI r.len,nI r.prio,nI r.limit],.bool t,nI o,nI h] ⟨0,.leaf⟩ (some [])
 (.go 4 (.gfork (.auto) (.go 5 (.fork (.auto) (.go 4 (.fork (.auto) (.go 3 (.gfork (.go 4 (.slot 33 (nI (r.at_ + r.limit)) (.go 1 (.slot 35 (nI ((r.at_ + r.limit) - h)) (.go 4 (.fork (.auto) (.auto))))))) (.auto)))))))))
 (fun v _ _ => v = sp) = Rclass sp p r t o h:=by kernel_rfl
abbrev jgc (a : Rq) (b : Rq) (sp : Value) : Prop:=(True) /\ (∀ H' : Heap,H'.length = 2 -> (True) -> KCall prog 142 [.agg #[nI a.id,nI a.at_,nI a.place,nI a.dest,nI a.len,nI a.prio,nI a.limit],.agg #[nI b.id,nI b.at_,nI b.place,nI b.dest,nI b.len,nI b.prio,nI b.limit]] H' [] (Is (.bool (befB a b)) H')) /\ (.bool (befB a b) : Value) = sp
abbrev jg11 (c : Int) (a : Rq) (b : Rq) (sp : Value) : Prop:=(((c : Int) == 1) = true -> ((((a.prio : Int) != b.prio) = true -> (.bool (decide ((b.prio : Int) < a.prio)) : Value) = sp) /\ (((a.prio : Int) != b.prio) = false -> (jgc a b sp)))) /\ (((c : Int) == 1) = false -> (jgc a b sp))
def Rahead (sp : Value) (c : Int) (a b : Rq) : Prop :=
 ((((c : Int) == 2) = true -> ((nI (IntKind.wrap .i64 (a.at_ + a.limit)) : Value) = nI (a.at_ + a.limit) /\ ((nI (IntKind.wrap .i64 (b.at_ + b.limit)) : Value) = nI (b.at_ + b.limit) /\ (((((a.at_ + a.limit) : Int) != (b.at_ + b.limit)) = true -> ((nI (IntKind.wrap .i64 (a.at_ + a.limit)) : Value) = nI (a.at_ + a.limit) /\ ((nI (IntKind.wrap .i64 (b.at_ + b.limit)) : Value) = nI (b.at_ + b.limit) /\ (.bool (decide (((a.at_ + a.limit) : Int) < (b.at_ + b.limit))) : Value) = sp))) /\ ((((a.at_ + a.limit) : Int) != (b.at_ + b.limit)) = false -> (jg11 c a b sp)))))) /\ (((c : Int) == 2) = false -> (jg11 c a b sp)))
abbrev jg18 (a : Rq) (b : Rq) : Hint:=.gfork (.go 5 (.fork (.auto) (.go 1 (.ans [] (.bool (befB a b)) [] (.auto))))) (.go 3 (.ans [] (.bool (befB a b)) [] (.auto)))
theorem Eahead (sp : Value) (c : Int) (a b : Rq) : vF prog msk (dm 0) 100000 true 40 true 140 [nI c,.agg #[nI a.id,nI a.at_,nI a.place,nI a.dest,nI a.len,nI a.prio,nI a.limit],.agg #[nI b.id,nI b.at_,nI b.place,nI b.dest,nI b.len,nI b.prio,nI b.limit]] ⟨0,.leaf⟩ (some [])
 (.go 5 (.gfork (.go 4 (.slot 14 (nI (a.at_ + a.limit)) (.go 4 (.slot 19 (nI (b.at_ + b.limit)) (.go 1 (.fork (.go 4 (.slot 26 (nI (a.at_ + a.limit)) (.go 4 (.slot 31 (nI (b.at_ + b.limit)) (.auto))))) (.go 2 (jg18 a b)))))))) (.go 4 (jg18 a b))))
 (fun v _ _ => v = sp) = Rahead sp c a b:=by kernel_rfl
abbrev jgk (l : List Rq) : Int:=(l.length : Nat)
abbrev jgp : Nat × List Sv:=(0,[])
abbrev jg1a:=List.length jgp.2
abbrev jgh (l : List Rq) (f : Fleet) : Prop:=wkR (slQ 2 2 l.length) /\ (.pointer (some ⟨3,0,none⟩) : Value) = .pointer (some ⟨3,0,none⟩) /\ (.pointer (some ⟨4,0,none⟩) : Value) = .pointer (some ⟨4,0,none⟩) /\ (.slice none 0 0 : Value) = .slice none 0 0 /\ wkR (slQ 5 1 (dock f).length) /\ (.slice (some ⟨6,0,none⟩) l.length l.length : Value) = .slice (some ⟨6,0,none⟩) l.length l.length /\ (.slice (some ⟨7,0,none⟩) l.length l.length : Value) = .slice (some ⟨7,0,none⟩) l.length l.length /\ True
abbrev jgn (f : Fleet) : List Value:=[slQ 0 2 f.t.length,slQ 1 2 f.b.length]
abbrev jg1b (f : Fleet) : KObj:=.cells true 0 (jgn f)
abbrev jgi (p : Pol) : List Value:=[nI p.ov,nI p.warn,nI p.w0,nI p.w1,nI p.w2]
abbrev jg19 (p : Pol) : KObj:=.cells true 0 (jgi p)
abbrev jgm (x1 : Nat × List Sv) : Bool × List Sv:=(true,x1.2)
abbrev jg1f (x1 : Nat × List Sv):=List.length (jgm x1).2
abbrev jgo (x1 : Nat × List Sv) : Int:=(x1.1 : Nat)
abbrev jgg (l : List Rq) (f : Fleet) (x1 : Nat × List Sv) : Prop:=(.slice (some ⟨7,0,none⟩) l.length l.length : Value) = .slice (some ⟨7,0,none⟩) l.length l.length /\ (.slice (some ⟨6,0,none⟩) l.length l.length : Value) = .slice (some ⟨6,0,none⟩) l.length l.length /\ wkR (slQ 5 1 (dock f).length) /\ (.slice none 0 0 : Value) = .slice none 0 0 /\ (.pointer (some ⟨4,0,none⟩) : Value) = .pointer (some ⟨4,0,none⟩) /\ (.pointer (some ⟨3,0,none⟩) : Value) = .pointer (some ⟨3,0,none⟩) /\ wkR (slQ 2 2 l.length) /\ (nI (jgo x1) : Value) = nI (jgo x1) /\ True
abbrev jg4 (x1 : Nat × List Sv) (l : List Rq) (f : Fleet) (x2 : Bool × List Sv) : Prop:=(nI (jgo x1) : Value) = nI (jgo x1) /\ wkR (slQ 2 2 l.length) /\ (.pointer (some ⟨3,0,none⟩) : Value) = .pointer (some ⟨3,0,none⟩) /\ (.pointer (some ⟨4,0,none⟩) : Value) = .pointer (some ⟨4,0,none⟩) /\ (.slice none 0 0 : Value) = .slice none 0 0 /\ wkR (slQ 5 1 (dock f).length) /\ (.slice (some ⟨6,0,none⟩) l.length l.length : Value) = .slice (some ⟨6,0,none⟩) l.length l.length /\ (.slice (some ⟨7,0,none⟩) l.length l.length : Value) = .slice (some ⟨7,0,none⟩) l.length l.length /\ wkR (slQ 9 1 x2.2.length) /\ (.bool false : Value) = .bool false /\ True
abbrev jge (f : Fleet) (l : List Rq) (x2 : Bool × List Sv):=brH f l x2.2 x2.2.length
abbrev jg16 (l : List Rq) (x2 : Bool × List Sv):=metH l.length x2.2 x2.2.length
abbrev jg6 (f : Fleet) (p : Pol) (l : List Rq) (x2 : Bool × List Sv) : Prop:=((keptR 10 (jg1b f)) /\ (keptR 10 (jg19 p)) /\ (keptR 10 (.cells true 2 ((jge f l x2).flatMap brC))) /\ (keptR 10 (.cells true 1 ((jg16 l x2).flatMap boolC))) /\ (keptR 10 (.cells true 1 ((ovN l x2.2 x2.2.length).flatMap intC))) /\ True) /\ (True) /\ (True)
abbrev jg14 (x3 : Nat) (l : List Rq) : Prop:=(0 : Int) <= (x3 : Int) /\ ((x3 : Int) : Int) < (jgk l)
abbrev jg1i (l : List Rq):=l.flatMap rqC
abbrev jgf (l : List Rq) (x3 : Nat) : Value:=.agg #[nI (l.getD x3 zeroQ).id,nI (l.getD x3 zeroQ).at_,nI (l.getD x3 zeroQ).place,nI (l.getD x3 zeroQ).dest,nI (l.getD x3 zeroQ).len,nI (l.getD x3 zeroQ).prio,nI (l.getD x3 zeroQ).limit]
abbrev jg5 (p : Pol) (l : List Rq) (x3 : Nat) (x2 : Bool × List Sv) (x1 : Nat × List Sv):=classV p (l.getD x3 zeroQ) ((jg16 l x2).getD x3 false) ((ovN l x2.2 x2.2.length).getD x3 0) (jgo x1)
abbrev jg1 (p : Pol) (l : List Rq) (x2 : Bool × List Sv) (x1 : Nat × List Sv) (x3 : Nat):=bestTo p l x2.2 (jgo x1) x3
abbrev jgw (p : Pol) (l : List Rq) (x2 : Bool × List Sv) (x1 : Nat × List Sv) (x3 : Nat) : Prop:=(0 : Int) <= (jg1 p l x2 x1 x3).1 /\ ((jg1 p l x2 x1 x3).1 : Int) < (jgk l)
abbrev jga (l : List Rq) (p : Pol) (x2 : Bool × List Sv) (x1 : Nat × List Sv) (x3 : Nat):=l.getD (Int.toNat (jg1 p l x2 x1 x3).1) zeroQ
abbrev jgj (l : List Rq) (p : Pol) (x2 : Bool × List Sv) (x1 : Nat × List Sv) (x3 : Nat) : Value:=.agg #[nI (jga l p x2 x1 x3).id,nI (jga l p x2 x1 x3).at_,nI (jga l p x2 x1 x3).place,nI (jga l p x2 x1 x3).dest,nI (jga l p x2 x1 x3).len,nI (jga l p x2 x1 x3).prio,nI (jga l p x2 x1 x3).limit]
abbrev jgl (p : Pol) (l : List Rq) (x3 : Nat) (x2 : Bool × List Sv) (x1 : Nat × List Sv):=aheadB (jg5 p l x3 x2 x1) (l.getD x3 zeroQ) (jga l p x2 x1 x3)
abbrev jg1c : Prop:=(True) /\ (True) /\ (True)
abbrev jgr (x3 : Nat) (l : List Rq) (p : Pol) (x2 : Bool × List Sv) (x1 : Nat × List Sv) (f : Fleet) : Prop:=(nI (IntKind.wrap .i64 ((x3 : Int) + 1)) : Value) = nI ((x3 : Int) + 1) /\ (∃ x3' : Nat,(x3' <= List.length l) /\ (List.length l - x3') < (List.length l - x3) /\ true = true /\ ((nI ((x3 : Int) + 1) : Value) = nI (x3' : Int) /\ (nI (jg1 p l x2 x1 x3).1 : Value) = nI (bestTo p l x2.2 (jgo x1) x3').1 /\ (nI (jg1 p l x2 x1 x3).2 : Value) = nI (bestTo p l x2.2 (jgo x1) x3').2 /\ jg4 x1 l f x2) /\ jg6 f p l x2)
abbrev jgb (f : Fleet) (p : Pol) (l : List Rq) (x1 : Nat × List Sv) (x2 : Bool × List Sv) : Prop:=∃ x2' : Bool × List Sv,(PlayJ f p l x1.1 x2'.1 x2'.2) /\ (playN l x2'.1 x2'.2) < (playN l x2.1 x2.2) /\ true = true /\ ((.bool false : Value) = .bool x2'.1 /\ wk (slQ 9 1 x2.2.length : Value) (slQ 9 1 x2'.2.length : Value) /\ jgg l f x1) /\ (True /\ (keptR 9 (jg1b f)) /\ (keptR 9 (jg19 p)) /\ (some (.cells true 2 ((jge f l x2).flatMap brC) : KObj) = some (.cells true 2 ((brH f l x2'.2 x2'.2.length).flatMap brC) : KObj) /\ belowO 9 (.cells true 2 ((brH f l x2'.2 x2'.2.length).flatMap brC) : KObj) = true) /\ (some (.cells true 1 ((jg16 l x2).flatMap boolC) : KObj) = some (.cells true 1 ((metH l.length x2'.2 x2'.2.length).flatMap boolC) : KObj) /\ belowO 9 (.cells true 1 ((metH l.length x2'.2 x2'.2.length).flatMap boolC) : KObj) = true) /\ (some (.cells true 1 ((ovN l x2.2 x2.2.length).flatMap intC) : KObj) = some (.cells true 1 ((ovN l x2'.2 x2'.2.length).flatMap intC) : KObj) /\ belowO 9 (.cells true 1 ((ovN l x2'.2 x2'.2.length).flatMap intC) : KObj) = true) /\ True) /\ ((some (.cells true 5 (x2.2.flatMap svC) : KObj) = some (.cells true 5 (x2'.2.flatMap svC) : KObj) /\ belowO 9 (.cells true 5 (x2'.2.flatMap svC) : KObj) = true) /\ True) /\ (True)
abbrev jg3 (x2 : Bool × List Sv) (l : List Rq) (f : Fleet) (x1 : Nat × List Sv) (p : Pol) (x3 : Nat) : Prop:=(.bool false : Value) = .bool false /\ wkR (slQ 9 1 x2.2.length) /\ (.slice (some ⟨7,0,none⟩) l.length l.length : Value) = .slice (some ⟨7,0,none⟩) l.length l.length /\ (.slice (some ⟨6,0,none⟩) l.length l.length : Value) = .slice (some ⟨6,0,none⟩) l.length l.length /\ wkR (slQ 5 1 (dock f).length) /\ (.slice none 0 0 : Value) = .slice none 0 0 /\ (.pointer (some ⟨4,0,none⟩) : Value) = .pointer (some ⟨4,0,none⟩) /\ (.pointer (some ⟨3,0,none⟩) : Value) = .pointer (some ⟨3,0,none⟩) /\ wkR (slQ 2 2 l.length) /\ (nI (jgo x1) : Value) = nI (jgo x1) /\ (nI (jg1 p l x2 x1 x3).2 : Value) = nI (jg1 p l x2 x1 x3).2 /\ (nI (jg1 p l x2 x1 x3).1 : Value) = nI (jg1 p l x2 x1 x3).1 /\ (nI (x3 : Int) : Value) = nI (x3 : Int) /\ True
abbrev jg12 (f : Fleet) : Int:=((dock f).length : Nat)
abbrev jg1e (x4 : Nat) : Value:=nI (IntKind.wrap .i64 ((x4 : Int) + 1))
abbrev jg0 (f : Fleet) (l : List Rq) (x2 : Bool × List Sv) (x1 : Nat × List Sv) (p : Pol) (x3 : Nat) (x4 : Nat):=byTo f l x2.2 (jgo x1) (rqAt l (jg1 p l x2 x1 x3).1).place x4
abbrev jgv (f : Fleet) (l : List Rq) (x2 : Bool × List Sv) (x4 : Nat):=f.t.getD (Int.toNat ((jge f l x2).getD x4 zeroB).at_) []
abbrev jgq (f : Fleet) (l : List Rq) (x2 : Bool × List Sv) (x1 : Nat × List Sv) (p : Pol) (x3 : Nat) (x4 : Nat):=f.t.getD (Int.toNat ((jge f l x2).getD (jg0 f l x2 x1 p x3 x4).toNat zeroB).at_) []
abbrev jg8 (f : Fleet) (l : List Rq) (x2 : Bool × List Sv) (x4 : Nat) (p : Pol) (x1 : Nat × List Sv) (x3 : Nat):=decide ((((jgv f l x2 x4).getD (Int.toNat (jga l p x2 x1 x3).place) 0) : Int) < ((jgq f l x2 x1 p x3 x4).getD (Int.toNat (jga l p x2 x1 x3).place) 0))
abbrev jgx (p : Pol) (l : List Rq) (x2 : Bool × List Sv) (x1 : Nat × List Sv) (x3 : Nat) (f : Fleet) (x4 : Nat) : Value:=.agg #[nI (jg1 p l x2 x1 x3).1,nI (jg0 f l x2 x1 p x3 x4),nI (jgo x1),nI ((jgo x1) + trav f ((jge f l x2).getD (jg0 f l x2 x1 p x3 x4).toNat zeroB).at_ (rqAt l (jg1 p l x2 x1 x3).1).place),nI (((jgo x1) + trav f ((jge f l x2).getD (jg0 f l x2 x1 p x3 x4).toNat zeroB).at_ (rqAt l (jg1 p l x2 x1 x3).1).place) + (rqAt l (jg1 p l x2 x1 x3).1).len)]
abbrev jg9 (p : Pol) (l : List Rq) (x2 : Bool × List Sv) (x1 : Nat × List Sv) (x3 : Nat) (f : Fleet) (x4 : Nat) : List Value:=[nI (jg1 p l x2 x1 x3).1,nI (jg0 f l x2 x1 p x3 x4),nI (jgo x1),nI ((jgo x1) + trav f ((jge f l x2).getD (jg0 f l x2 x1 p x3 x4).toNat zeroB).at_ (rqAt l (jg1 p l x2 x1 x3).1).place),nI (((jgo x1) + trav f ((jge f l x2).getD (jg0 f l x2 x1 p x3 x4).toNat zeroB).at_ (rqAt l (jg1 p l x2 x1 x3).1).place) + (rqAt l (jg1 p l x2 x1 x3).1).len)]
abbrev jg2 (f : Fleet) (l : List Rq) (x2 : Bool × List Sv) (p : Pol) (x1 : Nat × List Sv) (x3 : Nat) (x4 : Nat):=mkSv f l x2.2 (jg1 p l x2 x1 x3).1 (jg0 f l x2 x1 p x3 x4) (jgo x1)
abbrev jg7 (x3 : Nat) (p : Pol) (l : List Rq) (x2 : Bool × List Sv) (x1 : Nat × List Sv) (f : Fleet) (x4 : Nat) : Prop:=(nI (x3 : Int) : Value) = nI (x3 : Int) /\ (nI (jg1 p l x2 x1 x3).1 : Value) = nI (jg1 p l x2 x1 x3).1 /\ (nI (jg1 p l x2 x1 x3).2 : Value) = nI (jg1 p l x2 x1 x3).2 /\ (nI (jgo x1) : Value) = nI (jgo x1) /\ wkR (slQ 2 2 l.length) /\ (.pointer (some ⟨3,0,none⟩) : Value) = .pointer (some ⟨3,0,none⟩) /\ (.pointer (some ⟨4,0,none⟩) : Value) = .pointer (some ⟨4,0,none⟩) /\ (.slice none 0 0 : Value) = .slice none 0 0 /\ wkR (slQ 5 1 (dock f).length) /\ (.slice (some ⟨6,0,none⟩) l.length l.length : Value) = .slice (some ⟨6,0,none⟩) l.length l.length /\ (.slice (some ⟨7,0,none⟩) l.length l.length : Value) = .slice (some ⟨7,0,none⟩) l.length l.length /\ (.bool false : Value) = .bool false /\ (nI (jg0 f l x2 x1 p x3 x4) : Value) = nI (jg0 f l x2 x1 p x3 x4) /\ (nI (x4 : Int) : Value) = nI (x4 : Int) /\ (.pointer (some ⟨10,0,none⟩) : Value) = .pointer (some ⟨10,0,none⟩) /\ True
abbrev jgs (f : Fleet) (l : List Rq) (x2 : Bool × List Sv) (p : Pol) (x1 : Nat × List Sv) (x3 : Nat) (x4 : Nat):=brH f l (x2.2 ++ [(jg2 f l x2 p x1 x3 x4)]) (x2.2 ++ [(jg2 f l x2 p x1 x3 x4)]).length
abbrev jgd (l : List Rq) (x2 : Bool × List Sv) (f : Fleet) (p : Pol) (x1 : Nat × List Sv) (x3 : Nat) (x4 : Nat):=metH l.length (x2.2 ++ [(jg2 f l x2 p x1 x3 x4)]) (x2.2 ++ [(jg2 f l x2 p x1 x3 x4)]).length
def Rplay (f : Fleet) (p : Pol) (l : List Rq) : Prop :=
 (((someR (.cells false 0 (inL f.t))) /\ (someR (.cells false 0 (f.b.flatMap intC))) /\ True) /\ (∀ H' : Heap,H'.length = 5 -> (H'[0]? = some (.cells false 0 (inL f.t) : KObj) /\ H'[1]? = some (.cells false 0 (f.b.flatMap intC) : KObj) /\ True) -> KCall prog 138 [.agg #[slQ 0 2 f.t.length,slQ 1 2 f.b.length]] H' [] (Is (slQ 5 1 (dock f).length) (H' ++ [(.cells true 2 ((dock f).flatMap brC) : KObj)]))) /\ (((0 : Int) <= (jgk l) /\ ((jgk l) : Int) <= (jgk l) /\ ((jgk l) : Int) < 2 ^ 62 /\ 1 * ((jgk l) : Int) <= 2 ^ 48) /\ (((0 : Int) <= (jgk l) /\ ((jgk l) : Int) <= (jgk l) /\ ((jgk l) : Int) < 2 ^ 62 /\ 8 * ((jgk l) : Int) <= 2 ^ 48) /\ (true = true /\ (PlayI f p l jgp.1 jgp.2) /\ (true = true /\ (jg1g = nI ((jgp.1 : Nat) : Int) /\ wk (.slice none 0 0 : Value) (slQ 0 1 jg1a : Value) /\ jgh l f) /\ ((keptR 8 (jg1b f)) /\ (keptR 8 (jg19 p)) /\ (some (.cells true 2 ((dock f).flatMap brC) : KObj) = some (.cells true 2 ((brH f l jgp.2 jg1a).flatMap brC) : KObj) /\ belowO 8 (.cells true 2 ((brH f l jgp.2 jg1a).flatMap brC) : KObj) = true) /\ (some (.cells true 1 (krep [.bool false] l.length) : KObj) = some (.cells true 1 ((metH l.length jgp.2 jg1a).flatMap boolC) : KObj) /\ belowO 8 (.cells true 1 ((metH l.length jgp.2 jg1a).flatMap boolC) : KObj) = true) /\ (some (.cells true 1 (krep [nI 0] l.length) : KObj) = some (.cells true 1 ((ovN l jgp.2 jg1a).flatMap intC) : KObj) /\ belowO 8 (.cells true 1 ((ovN l jgp.2 jg1a).flatMap intC) : KObj) = true) /\ True) /\ (True /\ True) /\ (True)) /\ (∀ x1 : Nat × List Sv,true = true) /\ ∀ x1 : Nat × List Sv,(PlayI f p l x1.1 x1.2) -> (((decide ((((x1.2.length : Nat) : Int) : Int) < (jgk l))) = true -> (true = true /\ (PlayJ f p l x1.1 (jgm x1).1 (jgm x1).2) /\ (true = true /\ ((.bool true : Value) = .bool (jgm x1).1 /\ wk (slQ 8 1 x1.2.length : Value) (slQ 8 1 (jg1f x1) : Value) /\ jgg l f x1) /\ (True /\ (keptR 9 (jg1b f)) /\ (keptR 9 (jg19 p)) /\ (some (.cells true 2 ((brH f l x1.2 x1.2.length).flatMap brC) : KObj) = some (.cells true 2 ((brH f l (jgm x1).2 (jg1f x1)).flatMap brC) : KObj) /\ belowO 9 (.cells true 2 ((brH f l (jgm x1).2 (jg1f x1)).flatMap brC) : KObj) = true) /\ (some (.cells true 1 ((metH l.length x1.2 x1.2.length).flatMap boolC) : KObj) = some (.cells true 1 ((metH l.length (jgm x1).2 (jg1f x1)).flatMap boolC) : KObj) /\ belowO 9 (.cells true 1 ((metH l.length (jgm x1).2 (jg1f x1)).flatMap boolC) : KObj) = true) /\ (some (.cells true 1 ((ovN l x1.2 x1.2.length).flatMap intC) : KObj) = some (.cells true 1 ((ovN l (jgm x1).2 (jg1f x1)).flatMap intC) : KObj) /\ belowO 9 (.cells true 1 ((ovN l (jgm x1).2 (jg1f x1)).flatMap intC) : KObj) = true) /\ True) /\ ((some (.cells true 5 (x1.2.flatMap svC) : KObj) = some (.cells true 5 (List.flatMap svC (jgm x1).2) : KObj) /\ belowO 9 (.cells true 5 (List.flatMap svC (jgm x1).2) : KObj) = true) /\ True) /\ (True)) /\ (∀ x2 : Bool × List Sv,true = true) /\ ∀ x2 : Bool × List Sv,(PlayJ f p l x1.1 x2.1 x2.2) -> ((x2.1 = true -> (true = true /\ (0 <= List.length l) /\ (true = true /\ (jg1g = nI ((0 : Nat) : Int) /\ (nI (-1) : Value) = nI (bestTo p l x2.2 (jgo x1) 0).1 /\ jg1g = nI (bestTo p l x2.2 (jgo x1) 0).2 /\ jg4 x1 l f x2) /\ jg6 f p l x2) /\ (∀ x3 : Nat,true = true) /\ ∀ x3 : Nat,(x3 <= List.length l) -> (((decide (((x3 : Int) : Int) < (jgk l))) = true -> ((jg14 x3 l) /\ ((partA 7 (jg1i l) (0 + Int.toNat (x3 : Int) * 7) = some (jgf l x3)) /\ ((jg14 x3 l) /\ ((((jg16 l x2).flatMap boolC)[(0 + Int.toNat (x3 : Int) * 1)]? = some (.bool ((jg16 l x2).getD x3 false))) /\ ((jg14 x3 l) /\ ((((ovN l x2.2 x2.2.length).flatMap intC)[(0 + Int.toNat (x3 : Int) * 1)]? = some (nI ((ovN l x2.2 x2.2.length).getD x3 0))) /\ ((True) /\ (∀ H' : Heap,H'.length = 10 -> (True) -> KCall prog 139 [.agg #[nI p.ov,nI p.warn,nI p.w0,nI p.w1,nI p.w2],.agg #[nI (l.getD x3 zeroQ).id,nI (l.getD x3 zeroQ).at_,nI (l.getD x3 zeroQ).place,nI (l.getD x3 zeroQ).dest,nI (l.getD x3 zeroQ).len,nI (l.getD x3 zeroQ).prio,nI (l.getD x3 zeroQ).limit],.bool ((jg16 l x2).getD x3 false),nI ((ovN l x2.2 x2.2.length).getD x3 0),nI (jgo x1)] H' [] (Is (nI (jg5 p l x3 x2 x1)) H')) /\ (((decide (((jg1 p l x2 x1 x3).2 : Int) < (jg5 p l x3 x2 x1))) = true -> ((nI (IntKind.wrap .i64 ((x3 : Int) + 1)) : Value) = nI ((x3 : Int) + 1) /\ (∃ x3' : Nat,(x3' <= List.length l) /\ (List.length l - x3') < (List.length l - x3) /\ true = true /\ ((nI ((x3 : Int) + 1) : Value) = nI (x3' : Int) /\ (nI (x3 : Int) : Value) = nI (bestTo p l x2.2 (jgo x1) x3').1 /\ (nI (jg5 p l x3 x2 x1) : Value) = nI (bestTo p l x2.2 (jgo x1) x3').2 /\ jg4 x1 l f x2) /\ jg6 f p l x2))) /\ ((decide (((jg1 p l x2 x1 x3).2 : Int) < (jg5 p l x3 x2 x1))) = false -> (((decide ((0 : Int) < (jg5 p l x3 x2 x1))) = true -> (((((jg5 p l x3 x2 x1) : Int) == (jg1 p l x2 x1 x3).2) = true -> ((jg14 x3 l) /\ ((partA 7 (jg1i l) (0 + Int.toNat (x3 : Int) * 7) = some (jgf l x3)) /\ ((jgw p l x2 x1 x3) /\ ((partA 7 (jg1i l) (0 + Int.toNat (jg1 p l x2 x1 x3).1 * 7) = some (jgj l p x2 x1 x3)) /\ ((True) /\ (∀ H' : Heap,H'.length = 10 -> (True) -> KCall prog 140 [nI (jg5 p l x3 x2 x1),.agg #[nI (l.getD x3 zeroQ).id,nI (l.getD x3 zeroQ).at_,nI (l.getD x3 zeroQ).place,nI (l.getD x3 zeroQ).dest,nI (l.getD x3 zeroQ).len,nI (l.getD x3 zeroQ).prio,nI (l.getD x3 zeroQ).limit],.agg #[nI (jga l p x2 x1 x3).id,nI (jga l p x2 x1 x3).at_,nI (jga l p x2 x1 x3).place,nI (jga l p x2 x1 x3).dest,nI (jga l p x2 x1 x3).len,nI (jga l p x2 x1 x3).prio,nI (jga l p x2 x1 x3).limit]] H' [] (Is (.bool (jgl p l x3 x2 x1)) H')) /\ (true = true /\ ((jgl p l x3 x2 x1) = true -> (∃ x6' : Int × Int,(((jgl p l x3 x2 x1) = true /\ (x6'.1 : Int) = (jg5 p l x3 x2 x1) /\ (x6'.2 : Int) = (x3 : Int) /\ True) ∨ ((jgl p l x3 x2 x1) = false /\ (x6'.1 : Int) = (jg1 p l x2 x1 x3).2 /\ (x6'.2 : Int) = (jg1 p l x2 x1 x3).1 /\ True)) /\ true = true /\ ((nI (jg5 p l x3 x2 x1) : Value) = nI x6'.1 /\ (nI (x3 : Int) : Value) = nI x6'.2 /\ (nI (jg5 p l x3 x2 x1) : Value) = nI (jg5 p l x3 x2 x1) /\ (nI (x3 : Int) : Value) = nI (x3 : Int) /\ jg4 x1 l f x2) /\ jg1c)) /\ ((jgl p l x3 x2 x1) = false -> (∃ x6' : Int × Int,(((jgl p l x3 x2 x1) = true /\ (x6'.1 : Int) = (jg5 p l x3 x2 x1) /\ (x6'.2 : Int) = (x3 : Int) /\ True) ∨ ((jgl p l x3 x2 x1) = false /\ (x6'.1 : Int) = (jg1 p l x2 x1 x3).2 /\ (x6'.2 : Int) = (jg1 p l x2 x1 x3).1 /\ True)) /\ true = true /\ ((nI (jg1 p l x2 x1 x3).2 : Value) = nI x6'.1 /\ (nI (jg1 p l x2 x1 x3).1 : Value) = nI x6'.2 /\ (nI (jg5 p l x3 x2 x1) : Value) = nI (jg5 p l x3 x2 x1) /\ (nI (x3 : Int) : Value) = nI (x3 : Int) /\ jg4 x1 l f x2) /\ jg1c)) /\ ∀ x6 : Int × Int,(((jgl p l x3 x2 x1) = true /\ (x6.1 : Int) = (jg5 p l x3 x2 x1) /\ (x6.2 : Int) = (x3 : Int) /\ True) ∨ ((jgl p l x3 x2 x1) = false /\ (x6.1 : Int) = (jg1 p l x2 x1 x3).2 /\ (x6.2 : Int) = (jg1 p l x2 x1 x3).1 /\ True)) -> ((nI (IntKind.wrap .i64 ((x3 : Int) + 1)) : Value) = nI ((x3 : Int) + 1) /\ (∃ x3' : Nat,(x3' <= List.length l) /\ (List.length l - x3') < (List.length l - x3) /\ true = true /\ ((nI ((x3 : Int) + 1) : Value) = nI (x3' : Int) /\ (nI x6.2 : Value) = nI (bestTo p l x2.2 (jgo x1) x3').1 /\ (nI x6.1 : Value) = nI (bestTo p l x2.2 (jgo x1) x3').2 /\ jg4 x1 l f x2) /\ jg6 f p l x2))))))))) /\ ((((jg5 p l x3 x2 x1) : Int) == (jg1 p l x2 x1 x3).2) = false -> (jgr x3 l p x2 x1 f)))) /\ ((decide ((0 : Int) < (jg5 p l x3 x2 x1))) = false -> (jgr x3 l p x2 x1 f))))))))))))) /\ ((decide (((x3 : Int) : Int) < (jgk l))) = false -> (((decide (((jg1 p l x2 x1 x3).1 : Int) < 0)) = true -> (jgb f p l x1 x2)) /\ ((decide (((jg1 p l x2 x1 x3).1 : Int) < 0)) = false -> (true = true /\ (0 <= List.length f.b) /\ (true = true /\ (jg1g = nI ((0 : Nat) : Int) /\ (nI (-1) : Value) = nI (byTo f l x2.2 (jgo x1) (rqAt l (jg1 p l x2 x1 x3).1).place 0) /\ jg3 x2 l f x1 p x3) /\ jg6 f p l x2) /\ (∀ x4 : Nat,true = true) /\ ∀ x4 : Nat,(x4 <= List.length f.b) -> (((decide (((x4 : Int) : Int) < (jg12 f))) = true -> (((0 : Int) <= (x4 : Int) /\ ((x4 : Int) : Int) < (jg12 f)) /\ ((((jge f l x2).flatMap brC)[((0 + Int.toNat (x4 : Int) * 2) + 0)]? = some (nI ((jge f l x2).getD x4 zeroB).free)) /\ (((decide (((jgo x1) : Int) < ((jge f l x2).getD x4 zeroB).free)) = true -> ((jg1e x4) = nI ((x4 : Int) + 1) /\ (∃ x4' : Nat,(x4' <= List.length f.b) /\ (List.length f.b - x4') < (List.length f.b - x4) /\ true = true /\ ((nI ((x4 : Int) + 1) : Value) = nI (x4' : Int) /\ (nI (jg0 f l x2 x1 p x3 x4) : Value) = nI (byTo f l x2.2 (jgo x1) (rqAt l (jg1 p l x2 x1 x3).1).place x4') /\ jg3 x2 l f x1 p x3) /\ jg6 f p l x2))) /\ ((decide (((jgo x1) : Int) < ((jge f l x2).getD x4 zeroB).free)) = false -> (((decide (((jg0 f l x2 x1 p x3 x4) : Int) < 0)) = true -> ((jg1e x4) = nI ((x4 : Int) + 1) /\ (∃ x4' : Nat,(x4' <= List.length f.b) /\ (List.length f.b - x4') < (List.length f.b - x4) /\ true = true /\ ((nI ((x4 : Int) + 1) : Value) = nI (x4' : Int) /\ (nI (x4 : Int) : Value) = nI (byTo f l x2.2 (jgo x1) (rqAt l (jg1 p l x2 x1 x3).1).place x4') /\ jg3 x2 l f x1 p x3) /\ jg6 f p l x2))) /\ ((decide (((jg0 f l x2 x1 p x3 x4) : Int) < 0)) = false -> (((0 : Int) <= (x4 : Int) /\ ((x4 : Int) : Int) < (jg12 f)) /\ ((((jge f l x2).flatMap brC)[((0 + Int.toNat (x4 : Int) * 2) + 1)]? = some (nI ((jge f l x2).getD x4 zeroB).at_)) /\ (((0 : Int) <= ((jge f l x2).getD x4 zeroB).at_ /\ (((jge f l x2).getD x4 zeroB).at_ : Int) < ((f.t.length : Nat) : Int)) /\ (((inL f.t)[(0 + Int.toNat ((jge f l x2).getD x4 zeroB).at_ * 1)]? = some (.iface ((jgv f l x2 x4).length + 1) (.agg ⟨((jgv f l x2 x4).flatMap intC)⟩))) /\ ((jgw p l x2 x1 x3) /\ (((jg1i l)[((0 + Int.toNat (jg1 p l x2 x1 x3).1 * 7) + 2)]? = some (nI (jga l p x2 x1 x3).place)) /\ (((0 : Int) <= (jga l p x2 x1 x3).place /\ ((jga l p x2 x1 x3).place : Int) < (((jgv f l x2 x4).length : Nat) : Int)) /\ ((((jgv f l x2 x4).flatMap intC)[(Int.toNat (jga l p x2 x1 x3).place * 1)]? = some (nI ((jgv f l x2 x4).getD (Int.toNat (jga l p x2 x1 x3).place) 0))) /\ (((0 : Int) <= (jg0 f l x2 x1 p x3 x4) /\ ((jg0 f l x2 x1 p x3 x4) : Int) < (jg12 f)) /\ ((((jge f l x2).flatMap brC)[((0 + Int.toNat (jg0 f l x2 x1 p x3 x4) * 2) + 1)]? = some (nI ((jge f l x2).getD (jg0 f l x2 x1 p x3 x4).toNat zeroB).at_)) /\ (((0 : Int) <= ((jge f l x2).getD (jg0 f l x2 x1 p x3 x4).toNat zeroB).at_ /\ (((jge f l x2).getD (jg0 f l x2 x1 p x3 x4).toNat zeroB).at_ : Int) < ((f.t.length : Nat) : Int)) /\ (((inL f.t)[(0 + Int.toNat ((jge f l x2).getD (jg0 f l x2 x1 p x3 x4).toNat zeroB).at_ * 1)]? = some (.iface ((jgq f l x2 x1 p x3 x4).length + 1) (.agg ⟨((jgq f l x2 x1 p x3 x4).flatMap intC)⟩))) /\ ((jgw p l x2 x1 x3) /\ (((jg1i l)[((0 + Int.toNat (jg1 p l x2 x1 x3).1 * 7) + 2)]? = some (nI (jga l p x2 x1 x3).place)) /\ (((0 : Int) <= (jga l p x2 x1 x3).place /\ ((jga l p x2 x1 x3).place : Int) < (((jgq f l x2 x1 p x3 x4).length : Nat) : Int)) /\ ((((jgq f l x2 x1 p x3 x4).flatMap intC)[(Int.toNat (jga l p x2 x1 x3).place * 1)]? = some (nI ((jgq f l x2 x1 p x3 x4).getD (Int.toNat (jga l p x2 x1 x3).place) 0))) /\ (true = true /\ ((jg8 f l x2 x4 p x1 x3) = true -> (∃ x5' : Int,(((jg8 f l x2 x4 p x1 x3) = true /\ (x5' : Int) = (x4 : Int) /\ True) ∨ ((jg8 f l x2 x4 p x1 x3) = false /\ (x5' : Int) = (jg0 f l x2 x1 p x3 x4) /\ True)) /\ true = true /\ ((nI (x4 : Int) : Value) = nI x5' /\ (nI (x4 : Int) : Value) = nI (x4 : Int) /\ jg3 x2 l f x1 p x3) /\ jg1c)) /\ ((jg8 f l x2 x4 p x1 x3) = false -> (∃ x5' : Int,(((jg8 f l x2 x4 p x1 x3) = true /\ (x5' : Int) = (x4 : Int) /\ True) ∨ ((jg8 f l x2 x4 p x1 x3) = false /\ (x5' : Int) = (jg0 f l x2 x1 p x3 x4) /\ True)) /\ true = true /\ ((nI (jg0 f l x2 x1 p x3 x4) : Value) = nI x5' /\ (nI (x4 : Int) : Value) = nI (x4 : Int) /\ jg3 x2 l f x1 p x3) /\ jg1c)) /\ ∀ x5 : Int,(((jg8 f l x2 x4 p x1 x3) = true /\ (x5 : Int) = (x4 : Int) /\ True) ∨ ((jg8 f l x2 x4 p x1 x3) = false /\ (x5 : Int) = (jg0 f l x2 x1 p x3 x4) /\ True)) -> ((jg1e x4) = nI ((x4 : Int) + 1) /\ (∃ x4' : Nat,(x4' <= List.length f.b) /\ (List.length f.b - x4') < (List.length f.b - x4) /\ true = true /\ ((nI ((x4 : Int) + 1) : Value) = nI (x4' : Int) /\ (nI x5 : Value) = nI (byTo f l x2.2 (jgo x1) (rqAt l (jg1 p l x2 x1 x3).1).place x4') /\ jg3 x2 l f x1 p x3) /\ jg6 f p l x2)))))))))))))))))))))))))) /\ ((decide (((x4 : Int) : Int) < (jg12 f))) = false -> (((decide (((jg0 f l x2 x1 p x3 x4) : Int) < 0)) = true -> (jgb f p l x1 x2)) /\ ((decide (((jg0 f l x2 x1 p x3 x4) : Int) < 0)) = false -> (((0 : Int) <= (jg0 f l x2 x1 p x3 x4) /\ ((jg0 f l x2 x1 p x3 x4) : Int) < (jg12 f)) /\ ((((jge f l x2).flatMap brC)[((0 + Int.toNat (jg0 f l x2 x1 p x3 x4) * 2) + 1)]? = some (nI ((jge f l x2).getD (jg0 f l x2 x1 p x3 x4).toNat zeroB).at_)) /\ (((someR (.cells false 0 (inL f.t))) /\ (someR (.cells false 0 (f.b.flatMap intC))) /\ (someR (.cells false 0 (jg1i l))) /\ True) /\ (∀ H' : Heap,H'.length = 11 -> (H'[0]? = some (.cells false 0 (inL f.t) : KObj) /\ H'[1]? = some (.cells false 0 (f.b.flatMap intC) : KObj) /\ H'[2]? = some (.cells false 0 (jg1i l) : KObj) /\ True) -> KCall prog 141 [.agg #[slQ 0 2 f.t.length,slQ 1 2 f.b.length],slQ 2 2 l.length,nI (jg1 p l x2 x1 x3).1,nI (jg0 f l x2 x1 p x3 x4),nI ((jge f l x2).getD (jg0 f l x2 x1 p x3 x4).toNat zeroB).at_,nI (jgo x1)] H' [] (Is (jgx p l x2 x1 x3 f x4) H')) /\ (((x2.2.length + 1) * 40 <= 2 ^ 44 /\ 1 ≠ 0 /\ (x2.2.length <= x2.2.length /\ 0 + x2.2.length * 5 <= List.length (x2.2.flatMap svC)) /\ (1 <= 1 /\ 0 + 1 * 5 <= List.length ((jg9 p l x2 x1 x3 f x4) : List Value)) /\ (((((jg9 p l x2 x1 x3 f x4) : List Value).drop 0).take (1 * 5)) : List Value).all (fun v => one1 v) = true) /\ true = true /\ ((jgw p l x2 x1 x3) /\ (((jg1i l)[((0 + Int.toNat (jg1 p l x2 x1 x3).1 * 7) + 3)]? = some (nI (jga l p x2 x1 x3).dest)) /\ (((0 : Int) <= (jg0 f l x2 x1 p x3 x4) /\ ((jg0 f l x2 x1 p x3 x4) : Int) < (jg12 f)) /\ (((0 + Int.toNat (jg0 f l x2 x1 p x3 x4) * 2) + 2 <= List.length ((jge f l x2).flatMap brC)) /\ true = true /\ ((jgw p l x2 x1 x3) /\ (((0 + Int.toNat (jg1 p l x2 x1 x3).1 * 1) + 1 <= List.length ((jg16 l x2).flatMap boolC)) /\ true = true /\ (true = true /\ (0 <= List.length l) /\ (true = true /\ (jg1g = nI ((0 : Nat) : Int) /\ wk (.slice (some ⟨12,0,none⟩) (x2.2.length + 1) (x2.2.length + 1) : Value) (slQ 12 1 (x2.2 ++ [(jg2 f l x2 p x1 x3 x4)]).length : Value) /\ jg7 x3 p l x2 x1 f x4) /\ (True /\ (keptR 13 (jg1b f)) /\ (keptR 13 (jg19 p)) /\ (keptR 13 (.cells true 0 (jg9 p l x2 x1 x3 f x4))) /\ (some (.cells true 2 (setl ((jge f l x2).flatMap brC) (0 + Int.toNat (jg0 f l x2 x1 p x3 x4) * 2) [nI (((jgo x1) + trav f ((jge f l x2).getD (jg0 f l x2 x1 p x3 x4).toNat zeroB).at_ (rqAt l (jg1 p l x2 x1 x3).1).place) + (rqAt l (jg1 p l x2 x1 x3).1).len),nI (jga l p x2 x1 x3).dest]) : KObj) = some (.cells true 2 ((jgs f l x2 p x1 x3 x4).flatMap brC) : KObj) /\ belowO 13 (.cells true 2 ((jgs f l x2 p x1 x3 x4).flatMap brC) : KObj) = true) /\ (some (.cells true 1 (setl ((jg16 l x2).flatMap boolC) (0 + Int.toNat (jg1 p l x2 x1 x3).1 * 1) [.bool true]) : KObj) = some (.cells true 1 ((jgd l x2 f p x1 x3 x4).flatMap boolC) : KObj) /\ belowO 13 (.cells true 1 ((jgd l x2 f p x1 x3 x4).flatMap boolC) : KObj) = true) /\ (some (.cells true 1 ((ovN l x2.2 x2.2.length).flatMap intC) : KObj) = some (.cells true 1 ((ovP l x2.2 (jg2 f l x2 p x1 x3 x4) 0).flatMap intC) : KObj) /\ belowO 13 (.cells true 1 ((ovP l x2.2 (jg2 f l x2 p x1 x3 x4) 0).flatMap intC) : KObj) = true) /\ True) /\ ((some (.cells true 5 ((((x2.2.flatMap svC).drop 0).take (x2.2.length * 5)) ++ ((((jg9 p l x2 x1 x3 f x4) : List Value).drop 0).take (1 * 5))) : KObj) = some (.cells true 5 ((x2.2 ++ [(jg2 f l x2 p x1 x3 x4)]).flatMap svC) : KObj) /\ belowO 13 (.cells true 5 ((x2.2 ++ [(jg2 f l x2 p x1 x3 x4)]).flatMap svC) : KObj) = true) /\ True) /\ (True)) /\ (∀ x6 : Nat,true = true) /\ ∀ x6 : Nat,(x6 <= List.length l) -> (((decide (((x6 : Int) : Int) < (jgk l))) = true -> (((0 : Int) <= (x6 : Int) /\ ((x6 : Int) : Int) < (jgk l)) /\ ((((jgd l x2 f p x1 x3 x4).flatMap boolC)[(0 + Int.toNat (x6 : Int) * 1)]? = some (.bool ((jgd l x2 f p x1 x3 x4).getD x6 false))) /\ (((!((jgd l x2 f p x1 x3 x4).getD x6 false)) = true -> (((0 : Int) <= (x6 : Int) /\ ((x6 : Int) : Int) < (jgk l)) /\ ((partA 7 (jg1i l) (0 + Int.toNat (x6 : Int) * 7) = some (.agg #[nI (l.getD x6 zeroQ).id,nI (l.getD x6 zeroQ).at_,nI (l.getD x6 zeroQ).place,nI (l.getD x6 zeroQ).dest,nI (l.getD x6 zeroQ).len,nI (l.getD x6 zeroQ).prio,nI (l.getD x6 zeroQ).limit])) /\ ((jgw p l x2 x1 x3) /\ ((partA 7 (jg1i l) (0 + Int.toNat (jg1 p l x2 x1 x3).1 * 7) = some (jgj l p x2 x1 x3)) /\ ((True) /\ (∀ H' : Heap,H'.length = 14 -> (True) -> KCall prog 142 [.agg #[nI (l.getD x6 zeroQ).id,nI (l.getD x6 zeroQ).at_,nI (l.getD x6 zeroQ).place,nI (l.getD x6 zeroQ).dest,nI (l.getD x6 zeroQ).len,nI (l.getD x6 zeroQ).prio,nI (l.getD x6 zeroQ).limit],.agg #[nI (jga l p x2 x1 x3).id,nI (jga l p x2 x1 x3).at_,nI (jga l p x2 x1 x3).place,nI (jga l p x2 x1 x3).dest,nI (jga l p x2 x1 x3).len,nI (jga l p x2 x1 x3).prio,nI (jga l p x2 x1 x3).limit]] H' [] (Is (.bool (befB (l.getD x6 zeroQ) (jga l p x2 x1 x3))) H')) /\ (((befB (l.getD x6 zeroQ) (jga l p x2 x1 x3)) = true -> (((0 : Int) <= (x6 : Int) /\ ((x6 : Int) : Int) < (jgk l)) /\ ((((ovP l x2.2 (jg2 f l x2 p x1 x3 x4) x6).flatMap intC)[(0 + Int.toNat (x6 : Int) * 1)]? = some (nI ((ovP l x2.2 (jg2 f l x2 p x1 x3 x4) x6).getD x6 0))) /\ ((nI (IntKind.wrap .i64 (((ovP l x2.2 (jg2 f l x2 p x1 x3 x4) x6).getD x6 0) + 1)) : Value) = nI (((ovP l x2.2 (jg2 f l x2 p x1 x3 x4) x6).getD x6 0) + 1) /\ (((0 : Int) <= (x6 : Int) /\ ((x6 : Int) : Int) < (jgk l)) /\ (((0 + Int.toNat (x6 : Int) * 1) + 1 <= List.length ((ovP l x2.2 (jg2 f l x2 p x1 x3 x4) x6).flatMap intC)) /\ true = true /\ ((nI (IntKind.wrap .i64 ((x6 : Int) + 1)) : Value) = nI ((x6 : Int) + 1) /\ (∃ x6' : Nat,(x6' <= List.length l) /\ (List.length l - x6') < (List.length l - x6) /\ true = true /\ ((nI ((x6 : Int) + 1) : Value) = nI (x6' : Int) /\ wkR (slQ 13 1 (x2.2 ++ [(jg2 f l x2 p x1 x3 x4)]).length) /\ jg7 x3 p l x2 x1 f x4) /\ (True /\ (keptR 13 (jg1b f)) /\ (keptR 13 (jg19 p)) /\ (keptR 13 (.cells true 0 (jg9 p l x2 x1 x3 f x4))) /\ (keptR 13 (.cells true 2 ((jgs f l x2 p x1 x3 x4).flatMap brC))) /\ (keptR 13 (.cells true 1 ((jgd l x2 f p x1 x3 x4).flatMap boolC))) /\ (some (.cells true 1 (setl ((ovP l x2.2 (jg2 f l x2 p x1 x3 x4) x6).flatMap intC) (0 + Int.toNat (x6 : Int) * 1) [nI (((ovP l x2.2 (jg2 f l x2 p x1 x3 x4) x6).getD x6 0) + 1)]) : KObj) = some (.cells true 1 ((ovP l x2.2 (jg2 f l x2 p x1 x3 x4) x6').flatMap intC) : KObj) /\ belowO 13 (.cells true 1 ((ovP l x2.2 (jg2 f l x2 p x1 x3 x4) x6').flatMap intC) : KObj) = true) /\ True) /\ ((keptR 13 (.cells true 5 ((x2.2 ++ [(jg2 f l x2 p x1 x3 x4)]).flatMap svC))) /\ True) /\ (True))))))))) /\ ((befB (l.getD x6 zeroQ) (jga l p x2 x1 x3)) = false -> ((nI (IntKind.wrap .i64 ((x6 : Int) + 1)) : Value) = nI ((x6 : Int) + 1) /\ (∃ x6' : Nat,(x6' <= List.length l) /\ (List.length l - x6') < (List.length l - x6) /\ true = true /\ ((nI ((x6 : Int) + 1) : Value) = nI (x6' : Int) /\ wkR (slQ 13 1 (x2.2 ++ [(jg2 f l x2 p x1 x3 x4)]).length) /\ jg7 x3 p l x2 x1 f x4) /\ (True /\ (keptR 13 (jg1b f)) /\ (keptR 13 (jg19 p)) /\ (keptR 13 (.cells true 0 (jg9 p l x2 x1 x3 f x4))) /\ (keptR 13 (.cells true 2 ((jgs f l x2 p x1 x3 x4).flatMap brC))) /\ (keptR 13 (.cells true 1 ((jgd l x2 f p x1 x3 x4).flatMap boolC))) /\ (some (.cells true 1 ((ovP l x2.2 (jg2 f l x2 p x1 x3 x4) x6).flatMap intC) : KObj) = some (.cells true 1 ((ovP l x2.2 (jg2 f l x2 p x1 x3 x4) x6').flatMap intC) : KObj) /\ belowO 13 (.cells true 1 ((ovP l x2.2 (jg2 f l x2 p x1 x3 x4) x6').flatMap intC) : KObj) = true) /\ True) /\ ((keptR 13 (.cells true 5 ((x2.2 ++ [(jg2 f l x2 p x1 x3 x4)]).flatMap svC))) /\ True) /\ (True))))))))))) /\ ((!((jgd l x2 f p x1 x3 x4).getD x6 false)) = false -> ((nI (IntKind.wrap .i64 ((x6 : Int) + 1)) : Value) = nI ((x6 : Int) + 1) /\ (∃ x6' : Nat,(x6' <= List.length l) /\ (List.length l - x6') < (List.length l - x6) /\ true = true /\ ((nI ((x6 : Int) + 1) : Value) = nI (x6' : Int) /\ wkR (slQ 13 1 (x2.2 ++ [(jg2 f l x2 p x1 x3 x4)]).length) /\ jg7 x3 p l x2 x1 f x4) /\ (True /\ (keptR 13 (jg1b f)) /\ (keptR 13 (jg19 p)) /\ (keptR 13 (.cells true 0 (jg9 p l x2 x1 x3 f x4))) /\ (keptR 13 (.cells true 2 ((jgs f l x2 p x1 x3 x4).flatMap brC))) /\ (keptR 13 (.cells true 1 ((jgd l x2 f p x1 x3 x4).flatMap boolC))) /\ (some (.cells true 1 ((ovP l x2.2 (jg2 f l x2 p x1 x3 x4) x6).flatMap intC) : KObj) = some (.cells true 1 ((ovP l x2.2 (jg2 f l x2 p x1 x3 x4) x6').flatMap intC) : KObj) /\ belowO 13 (.cells true 1 ((ovP l x2.2 (jg2 f l x2 p x1 x3 x4) x6').flatMap intC) : KObj) = true) /\ True) /\ ((keptR 13 (.cells true 5 ((x2.2 ++ [(jg2 f l x2 p x1 x3 x4)]).flatMap svC))) /\ True) /\ (True)))))))) /\ ((decide (((x6 : Int) : Int) < (jgk l))) = false -> (∃ x2' : Bool × List Sv,(PlayJ f p l x1.1 x2'.1 x2'.2) /\ (playN l x2'.1 x2'.2) < (playN l x2.1 x2.2) /\ true = true /\ ((.bool true : Value) = .bool x2'.1 /\ wk (slQ 13 1 (x2.2 ++ [(jg2 f l x2 p x1 x3 x4)]).length : Value) (slQ 13 1 x2'.2.length : Value) /\ jgg l f x1) /\ (True /\ (keptR 9 (jg1b f)) /\ (keptR 9 (jg19 p)) /\ (some (.cells true 2 ((jgs f l x2 p x1 x3 x4).flatMap brC) : KObj) = some (.cells true 2 ((brH f l x2'.2 x2'.2.length).flatMap brC) : KObj) /\ belowO 9 (.cells true 2 ((brH f l x2'.2 x2'.2.length).flatMap brC) : KObj) = true) /\ (some (.cells true 1 ((jgd l x2 f p x1 x3 x4).flatMap boolC) : KObj) = some (.cells true 1 ((metH l.length x2'.2 x2'.2.length).flatMap boolC) : KObj) /\ belowO 9 (.cells true 1 ((metH l.length x2'.2 x2'.2.length).flatMap boolC) : KObj) = true) /\ (some (.cells true 1 ((ovP l x2.2 (jg2 f l x2 p x1 x3 x4) x6).flatMap intC) : KObj) = some (.cells true 1 ((ovN l x2'.2 x2'.2.length).flatMap intC) : KObj) /\ belowO 9 (.cells true 1 ((ovN l x2'.2 x2'.2.length).flatMap intC) : KObj) = true) /\ True) /\ ((some (.cells true 5 ((x2.2 ++ [(jg2 f l x2 p x1 x3 x4)]).flatMap svC) : KObj) = some (.cells true 5 (x2'.2.flatMap svC) : KObj) /\ belowO 9 (.cells true 5 (x2'.2.flatMap svC) : KObj) = true) /\ True) /\ (True)))))))))))))))))))))))))) /\ (x2.1 = false -> ((nI (IntKind.wrap .i64 ((jgo x1) + 1)) : Value) = nI ((jgo x1) + 1) /\ (∃ x1' : Nat × List Sv,(PlayI f p l x1'.1 x1'.2) /\ (playM l x1'.1 x1'.2) < (playM l x1.1 x1.2) /\ true = true /\ ((nI ((jgo x1) + 1) : Value) = nI ((x1'.1 : Nat) : Int) /\ wk (slQ 9 1 x2.2.length : Value) (slQ 9 1 x1'.2.length : Value) /\ jgh l f) /\ ((keptR 8 (jg1b f)) /\ (keptR 8 (jg19 p)) /\ (some (.cells true 2 ((jge f l x2).flatMap brC) : KObj) = some (.cells true 2 ((brH f l x1'.2 x1'.2.length).flatMap brC) : KObj) /\ belowO 8 (.cells true 2 ((brH f l x1'.2 x1'.2.length).flatMap brC) : KObj) = true) /\ (some (.cells true 1 ((jg16 l x2).flatMap boolC) : KObj) = some (.cells true 1 ((metH l.length x1'.2 x1'.2.length).flatMap boolC) : KObj) /\ belowO 8 (.cells true 1 ((metH l.length x1'.2 x1'.2.length).flatMap boolC) : KObj) = true) /\ (some (.cells true 1 ((ovN l x2.2 x2.2.length).flatMap intC) : KObj) = some (.cells true 1 ((ovN l x1'.2 x1'.2.length).flatMap intC) : KObj) /\ belowO 8 (.cells true 1 ((ovN l x1'.2 x1'.2.length).flatMap intC) : KObj) = true) /\ True) /\ ((some (.cells true 5 (x2.2.flatMap svC) : KObj) = some (.cells true 5 (x1'.2.flatMap svC) : KObj) /\ belowO 8 (.cells true 5 (x1'.2.flatMap svC) : KObj) = true) /\ True) /\ (True))))))) /\ ((decide ((((x1.2.length : Nat) : Int) : Int) < (jgk l))) = false -> (true = true /\ wk (slQ 8 1 x1.2.length : Value) (rn (sg 3 [(3,8)]) 3 (slQ 3 1 (playF f p l).length : Value)) /\ ((some (.cells true 5 (x1.2.flatMap svC) : KObj) = some (.cells true 5 ((playF f p l).flatMap svC) : KObj) /\ belowO 3 (.cells true 5 ((playF f p l).flatMap svC) : KObj) = true) /\ True))))))))
abbrev jg1h (l : List Rq) : Nat × Value:=(2,slQ 2 2 l.length)
abbrev jgy : Nat × Value:=(3,.pointer (some ⟨3,0,none⟩))
abbrev jgz : Nat × Value:=(4,.pointer (some ⟨4,0,none⟩))
abbrev jg17 : Nat × Value:=(6,.slice none 0 0)
abbrev jg15 (f : Fleet) : Nat × Value:=(8,slQ 5 1 (dock f).length)
abbrev jgu (l : List Rq) : Nat × Value:=(9,.slice (some ⟨6,0,none⟩) l.length l.length)
abbrev jgt (l : List Rq) : Nat × Value:=(10,.slice (some ⟨7,0,none⟩) l.length l.length)
abbrev jg1j : Nat × Value:=(12,.bool false)
abbrev jg10 (f : Fleet) (p : Pol) (l : List Rq) (x2 : Bool × List Sv) : List (Nat × Bool × KObj):=[(3,true,.cells true 0 (jgn f)),(4,true,.cells true 0 (jgi p)),(5,true,.cells true 2 ((jge f l x2).flatMap brC)),(6,true,.cells true 1 ((jg16 l x2).flatMap boolC)),(7,true,.cells true 1 ((ovN l x2.2 x2.2.length).flatMap intC))]
abbrev jg13 (x3 : Nat) : Hint:=.slot 42 (nI ((x3 : Int) + 1)) (.go 0 (.again []))
abbrev jg1d (x4 : Nat) : Hint:=.slot 91 (nI ((x4 : Int) + 1)) (.go 0 (.again []))
theorem Eplay (f : Fleet) (p : Pol) (l : List Rq) : vF prog msk (dm 0) 100000 true 40 true 81 [.agg #[slQ 0 2 f.t.length,slQ 1 2 f.b.length],.agg #[nI p.ov,nI p.warn,nI p.w0,nI p.w1,nI p.w2],slQ 2 2 l.length] (readsT 0 [inL f.t,f.b.flatMap intC,l.flatMap rqC]) (some [])
 (.go 4 (.ans [(0,.cells false 0 (inL f.t)),(1,.cells false 0 (f.b.flatMap intC))] (slQ 5 1 (dock f).length) [.cells true 2 ((dock f).flatMap brC)] (.go 2 (.need (.go 2 (.need (.go 1 (.inv 3 (Nat × List Sv) (jgp) [] [3,4,5,6,7] (fun x1 => [(11,nI (jgo x1)),(7,slQ 8 1 x1.2.length),(jg1h l),jgy,jgz,jg17,(jg15 f),(jgu l),(jgt l)]) (fun x1 => [(3,true,.cells true 0 (jgn f)),(4,true,.cells true 0 (jgi p)),(5,true,.cells true 2 ((brH f l x1.2 x1.2.length).flatMap brC)),(6,true,.cells true 1 ((metH l.length x1.2 x1.2.length).flatMap boolC)),(7,true,.cells true 1 ((ovN l x1.2 x1.2.length).flatMap intC))]) (fun x1 => [(true,.cells true 5 (x1.2.flatMap svC))]) (fun x1 => []) (fun x1 => (PlayI f p l x1.1 x1.2)) (fun x1 => (playM l x1.1 x1.2)) (fun x1 => .go 4 (.fork (.go 0 (.inv 3 (Bool × List Sv) ((jgm x1)) [(9,8)] [8,3,4,5,6,7] (fun x2 => [(12,.bool x2.1),(7,slQ 9 1 x2.2.length),(jgt l),(jgu l),(jg15 f),jg17,jgz,jgy,(jg1h l),(11,nI (jgo x1))]) (fun x2 => [(8,false,.dead),(3,true,.cells true 0 (jgn f)),(4,true,.cells true 0 (jgi p)),(5,true,.cells true 2 ((jge f l x2).flatMap brC)),(6,true,.cells true 1 ((jg16 l x2).flatMap boolC)),(7,true,.cells true 1 ((ovN l x2.2 x2.2.length).flatMap intC))]) (fun x2 => [(true,.cells true 5 (x2.2.flatMap svC))]) (fun x2 => []) (fun x2 => (PlayJ f p l x1.1 x2.1 x2.2)) (fun x2 => (playN l x2.1 x2.2)) (fun x2 => .go 0 (.fork (.go 3 (.inv 3 (Nat) (0) [] [3,4,5,6,7] (fun x3 => [(15,nI (x3 : Int)),(13,nI (jg1 p l x2 x1 x3).1),(14,nI (jg1 p l x2 x1 x3).2),(11,nI (jgo x1)),(jg1h l),jgy,jgz,jg17,(jg15 f),(jgu l),(jgt l),(7,slQ 9 1 x2.2.length),jg1j]) (fun x3 => (jg10 f p l x2)) (fun x3 => []) (fun x3 => []) (fun x3 => (x3 <= List.length l)) (fun x3 => (List.length l - x3)) (fun x3 => .go 3 (.fork (.go 2 (.need (.val (jgf l x3) (.go 1 (.need (.val (.bool ((jg16 l x2).getD x3 false)) (.go 1 (.need (.val (nI ((ovN l x2.2 x2.2.length).getD x3 0)) (.go 0 (.ans [] (nI (jg5 p l x3 x2 x1)) [] (.go 4 (.gfork (.go 7 (jg13 x3)) (.go 2 (.gfork (.go 4 (.gfork (.go 2 (.need (.val (jgf l x3) (.go 1 (.need (.val (jgj l p x2 x1 x3) (.ans [] (.bool (jgl p l x3 x2 x1)) [] (.go 1 (.join 3 (Int × Int) [] (fun x6 => [(14,nI x6.1),(13,nI x6.2),(16,nI (jg5 p l x3 x2 x1)),(15,nI (x3 : Int)),(11,nI (jgo x1)),(jg1h l),jgy,jgz,jg17,(jg15 f),(jgu l),(jgt l),(7,slQ 9 1 x2.2.length),jg1j]) (fun x6 => []) (fun x6 => []) (fun x6 => []) (fun x6 => (((jgl p l x3 x2 x1) = true /\ (x6.1 : Int) = (jg5 p l x3 x2 x1) /\ (x6.2 : Int) = (x3 : Int) /\ True) ∨ ((jgl p l x3 x2 x1) = false /\ (x6.1 : Int) = (jg1 p l x2 x1 x3).2 /\ (x6.2 : Int) = (jg1 p l x2 x1 x3).1 /\ True))) (.go 3 (.again [])) (.again []) (fun x6 => .go 1 (jg13 x3))))))))))) (.go 4 (jg13 x3)))) (.go 6 (jg13 x3))))))))))))))))) (.go 1 (.fork (.again [(9,9)]) (.go 1 (.inv 3 (Nat) (0) [] [3,4,5,6,7] (fun x4 => [(18,nI (x4 : Int)),(17,nI (jg0 f l x2 x1 p x3 x4)),jg1j,(7,slQ 9 1 x2.2.length),(jgt l),(jgu l),(jg15 f),jg17,jgz,jgy,(jg1h l),(11,nI (jgo x1)),(14,nI (jg1 p l x2 x1 x3).2),(13,nI (jg1 p l x2 x1 x3).1),(15,nI (x3 : Int))]) (fun x4 => (jg10 f p l x2)) (fun x4 => []) (fun x4 => []) (fun x4 => (x4 <= List.length f.b)) (fun x4 => (List.length f.b - x4)) (fun x4 => .go 3 (.fork (.go 1 (.need (.go 0 (.val (nI ((jge f l x2).getD x4 zeroB).free) (.go 1 (.fork (.go 1 (jg1d x4)) (.go 2 (.gfork (.go 5 (jg1d x4)) (.go 3 (.need (.go 0 (.val (nI ((jge f l x2).getD x4 zeroB).at_) (.need (.val (.iface ((jgv f l x2 x4).length + 1) (.agg ⟨((jgv f l x2 x4).flatMap intC)⟩)) (.go 1 (.need (.go 0 (.val (nI (jga l p x2 x1 x3).place) (.need (.val (nI ((jgv f l x2 x4).getD (Int.toNat (jga l p x2 x1 x3).place) 0)) (.go 3 (.need (.go 0 (.val (nI ((jge f l x2).getD (jg0 f l x2 x1 p x3 x4).toNat zeroB).at_) (.need (.val (.iface ((jgq f l x2 x1 p x3 x4).length + 1) (.agg ⟨((jgq f l x2 x1 p x3 x4).flatMap intC)⟩)) (.go 1 (.need (.go 0 (.val (nI (jga l p x2 x1 x3).place) (.need (.val (nI ((jgq f l x2 x1 p x3 x4).getD (Int.toNat (jga l p x2 x1 x3).place) 0)) (.go 1 (.join 3 (Int) [] (fun x5 => [(17,nI x5),(18,nI (x4 : Int)),jg1j,(7,slQ 9 1 x2.2.length),(jgt l),(jgu l),(jg15 f),jg17,jgz,jgy,(jg1h l),(11,nI (jgo x1)),(14,nI (jg1 p l x2 x1 x3).2),(13,nI (jg1 p l x2 x1 x3).1),(15,nI (x3 : Int))]) (fun x5 => []) (fun x5 => []) (fun x5 => []) (fun x5 => (((jg8 f l x2 x4 p x1 x3) = true /\ (x5 : Int) = (x4 : Int) /\ True) ∨ ((jg8 f l x2 x4 p x1 x3) = false /\ (x5 : Int) = (jg0 f l x2 x1 p x3 x4) /\ True))) (.go 1 (.again [])) (.again []) (fun x5 => .go 1 (jg1d x4)))))))))))))))))))))))))))))))))))) (.go 1 (.fork (.again [(9,9)]) (.go 5 (.need (.go 0 (.val (nI ((jge f l x2).getD (jg0 f l x2 x1 p x3 x4).toNat zeroB).at_) (.go 1 (.ans [(0,.cells false 0 (inL f.t)),(1,.cells false 0 (f.b.flatMap intC)),(2,.cells false 0 (jg1i l))] (jgx p l x2 x1 x3 f x4) [] (.go 3 (.need (.go 6 (.need (.go 0 (.val (nI (jga l p x2 x1 x3).dest) (.go 0 (.need (.need (.go 1 (.need (.need (.go 0 (.inv 3 (Nat) (0) [(13,12)] [12,3,4,10,5,6,7] (fun x6 => [(20,nI (x6 : Int)),(7,slQ 13 1 (x2.2 ++ [(jg2 f l x2 p x1 x3 x4)]).length),(15,nI (x3 : Int)),(13,nI (jg1 p l x2 x1 x3).1),(14,nI (jg1 p l x2 x1 x3).2),(11,nI (jgo x1)),(jg1h l),jgy,jgz,jg17,(jg15 f),(jgu l),(jgt l),jg1j,(17,nI (jg0 f l x2 x1 p x3 x4)),(18,nI (x4 : Int)),(19,.pointer (some ⟨10,0,none⟩))]) (fun x6 => [(12,false,.dead),(3,true,.cells true 0 (jgn f)),(4,true,.cells true 0 (jgi p)),(10,true,.cells true 0 (jg9 p l x2 x1 x3 f x4)),(5,true,.cells true 2 ((jgs f l x2 p x1 x3 x4).flatMap brC)),(6,true,.cells true 1 ((jgd l x2 f p x1 x3 x4).flatMap boolC)),(7,true,.cells true 1 ((ovP l x2.2 (jg2 f l x2 p x1 x3 x4) x6).flatMap intC))]) (fun x6 => [(true,.cells true 5 ((x2.2 ++ [(jg2 f l x2 p x1 x3 x4)]).flatMap svC))]) (fun x6 => []) (fun x6 => (x6 <= List.length l)) (fun x6 => (List.length l - x6)) (fun x6 => .go 3 (.fork (.go 1 (.need (.val (.bool ((jgd l x2 f p x1 x3 x4).getD x6 false)) (.go 1 (.gfork (.go 1 (.need (.val (.agg #[nI (l.getD x6 zeroQ).id,nI (l.getD x6 zeroQ).at_,nI (l.getD x6 zeroQ).place,nI (l.getD x6 zeroQ).dest,nI (l.getD x6 zeroQ).len,nI (l.getD x6 zeroQ).prio,nI (l.getD x6 zeroQ).limit]) (.go 1 (.need (.val (jgj l p x2 x1 x3) (.ans [] (.bool (befB (l.getD x6 zeroQ) (jga l p x2 x1 x3))) [] (.go 0 (.fork (.go 1 (.need (.val (nI ((ovP l x2.2 (jg2 f l x2 p x1 x3 x4) x6).getD x6 0)) (.go 0 (.slot 194 (nI (((ovP l x2.2 (jg2 f l x2 p x1 x3 x4) x6).getD x6 0) + 1)) (.need (.need (.go 1 (.slot 173 (nI ((x6 : Int) + 1)) (.go 0 (.again [(13,13)]))))))))))) (.go 1 (.slot 173 (nI ((x6 : Int) + 1)) (.go 0 (.again [(13,13)]))))))))))))) (.go 3 (.slot 173 (nI ((x6 : Int) + 1)) (.go 0 (.again [(13,13)]))))))))) (.go 0 (.again [(9,13)])))))))))))))))))))))))))))))))))))) (.go 1 (.slot 35 (nI ((jgo x1) + 1)) (.go 0 (.again [(8,9)])))))))) (.go 1 (.again [(3,8)]))))))))))))
 (newK ((readsT 0 [inL f.t,f.b.flatMap intC,l.flatMap rqC]) : HT).n 3 (slQ 3 1 (playF f p l).length) [(true,.cells true 5 ((playF f p l).flatMap svC))]) = Rplay f p l:=by kernel_rfl
end
end Go.Proofs.YthdekmpkioikdaaGreat
/- Request: kinds of requests. No condition. -/
namespace Go.Proofs.YthdekmpkioikdaaGreat
open Go Go.K
set_option maxRecDepth 100000
set_option linter.unusedVariables false
set_option linter.unusedSimpArgs false
noncomputable section
attribute [local irreducible] vF
theorem kClass (p : Pol) (r : Rq) (t : Bool) (ov hour : Int) (h1 : 0 <= r.at_ /\ r.at_ <= 10000) (h2 : 0 <= r.limit /\ r.limit <= 10000) (h3 : 0 <= hour /\ hour <= 1000000000) (H : Heap) :
  KCall prog 139 [.agg ⟨polC p⟩, .agg ⟨rqC r⟩, .bool t, nI ov, nI hour] H [] (Is (.int .i64 (classV p r t ov hour)) H) := by
 refine valK 40 (fun σ => rfl) rfl (Eq.mpr (Eclass _ p r t ov hour) ?_) H
 delta Rclass jg1g
 refine forkB (fun c => iEq ?_) (fun c => forkD (fun c2 => iEq ?_) (fun c2 => forkD (fun c3 => iEq ?_) (fun c3 => forkD (fun c4 => ⟨vI64 (by omega), vI64 (by omega), forkD (fun c5 => iEq ?_) (fun c5 => iEq ?_)⟩) (fun c4 => iEq ?_))))
 ·unfold classV; rw [if_pos (.inl c)]
 ·unfold classV; rw [if_pos (.inr c2)]
 all_goals
  have n1 : ¬ (t = true ∨ hour < r.at_) := fun k => k.elim (fun e => by rw [c] at e; cases e) c2
  unfold classV; rw [if_neg n1]
 ·rw [if_pos c3]
 ·rw [if_neg c3, if_pos ⟨c4, c5⟩]
 ·rw [if_neg c3, if_neg fun k => c5 k.2]
 ·rw [if_neg c3, if_neg fun k => c4 k.1]
theorem kAhead (c : Int) (a b : Rq) (h1 : 0 <= a.at_ /\ a.at_ <= 10000) (h2 : 0 <= a.limit /\ a.limit <= 10000) (h3 : 0 <= b.at_ /\ b.at_ <= 10000) (h4 : 0 <= b.limit /\ b.limit <= 10000) (H : Heap) :
  KCall prog 140 [nI c, .agg ⟨rqC a⟩, .agg ⟨rqC b⟩] H [] (Is (.bool (aheadB c a b)) H) := by
 refine valK 40 (fun σ => rfl) rfl (Eq.mpr (Eahead _ c a b) ?_) H
 delta Rahead jgc jg11
 have one : ∀ (n : ¬ (c = 2 /\ a.at_ + a.limit ≠ b.at_ + b.limit)), aheadB c a b = if c = 1 /\ a.prio ≠ b.prio then decide (b.prio < a.prio) else befB a b := fun n => if_neg n
 have k1 : ∀ (n : ¬ (c = 2 /\ a.at_ + a.limit ≠ b.at_ + b.limit)), c = 1 -> a.prio ≠ b.prio -> decide (b.prio < a.prio) = aheadB c a b := fun n e1 e2 => by rw [one n, if_pos ⟨e1, e2⟩]
 have k2 : ∀ (n : ¬ (c = 2 /\ a.at_ + a.limit ≠ b.at_ + b.limit)), a.prio = b.prio -> befB a b = aheadB c a b := fun n e2 => by rw [one n, if_neg fun k => k.2 e2]
 have k3 : ∀ (n : ¬ (c = 2 /\ a.at_ + a.limit ≠ b.at_ + b.limit)), c ≠ 1 -> befB a b = aheadB c a b := fun n e1 => by rw [one n, if_neg fun k => e1 k.1]
 refine forkEq (fun c2 => ⟨vI64 (by omega), vI64 (by omega), forkNe (fun c3 => ⟨vI64 (by omega), vI64 (by omega), bEq (if_pos ⟨c2, c3⟩).symm⟩) (fun c3 => ?_)⟩) (fun c2 => ?_)
 ·have n : ¬ (c = 2 /\ a.at_ + a.limit ≠ b.at_ + b.limit) := fun k => k.2 c3
  exact forkEq (fun e => forkNe (fun e2 => bEq (k1 n e e2)) (fun e2 => ⟨trivial, fun H' _ _ => kBefore a b H', bEq (k2 n e2)⟩)) (fun e => ⟨trivial, fun H' _ _ => kBefore a b H', bEq (k3 n e)⟩)
 ·have n : ¬ (c = 2 /\ a.at_ + a.limit ≠ b.at_ + b.limit) := fun k => c2 k.1
  exact forkEq (fun e => forkNe (fun e2 => bEq (k1 n e e2)) (fun e2 => ⟨trivial, fun H' _ _ => kBefore a b H', bEq (k2 n e2)⟩)) (fun e => ⟨trivial, fun H' _ _ => kBefore a b H', bEq (k3 n e)⟩)
end
end Go.Proofs.YthdekmpkioikdaaGreat
/- Request: plain laws of the history of a policy. No condition. -/
namespace Go.Proofs.YthdekmpkioikdaaGreat
set_option linter.unusedSimpArgs false
open Go Go.K
set_option linter.unusedVariables false
noncomputable section
theorem classV_le (p : Pol) (r : Rq) (t : Bool) (o h : Int) : 0 <= classV p r t o h := by
 unfold classV
 split
 ·decide
 ·split
  ·decide
  ·split <;> decide
theorem classV_pos {p : Pol} {r : Rq} {t : Bool} {o h : Int} (h1 : t = false) (h2 : r.at_ <= h) : 0 < classV p r t o h := by
 unfold classV
 rw [if_neg (fun k => k.elim (fun c => by rw [h1] at c; cases c) (fun c => by omega))]
 split
 ·decide
 ·split <;> decide
theorem classV_free {p : Pol} {r : Rq} {t : Bool} {o h : Int} (h0 : 0 < classV p r t o h) : t = false /\ r.at_ <= h := by
 unfold classV at h0
 split at h0
 ·exact absurd h0 (by decide)
 ·rename_i k
  refine ⟨?_, ?_⟩
  ·cases t with
   | false => rfl
   | true => exact absurd (.inl rfl) k
  ·exact Int.not_lt.1 fun c => k (.inr c)
theorem best_spec (p : Pol) (l : List Rq) (h : List Sv) (hour : Int) : ∀ n : Nat,
  (bestTo p l h hour n = (-1, 0) /\ ∀ i, i < n -> clsAt p l h hour i = 0) ∨
  (0 <= (bestTo p l h hour n).1 /\ (bestTo p l h hour n).1 < (n : Int) /\ (bestTo p l h hour n).2 = clsAt p l h hour (Int.toNat (bestTo p l h hour n).1) /\ 0 < (bestTo p l h hour n).2 /\ ∀ i, i < n -> clsAt p l h hour i <= (bestTo p l h hour n).2)
 | 0 => .inl ⟨rfl, fun i h => absurd h (Nat.not_lt_zero _)⟩
 | n + 1 => by
  have ih := best_spec p l h hour n
  have hc := classV_le p (l.getD n zeroQ) ((metH l.length h h.length).getD n false) ((ovN l h h.length).getD n 0) hour
  have hc : 0 <= clsAt p l h hour n := hc
  obtain ⟨b, eb⟩ : ∃ b, bestTo p l h hour n = b := ⟨_, rfl⟩
  rw [eb] at ih
  have e : bestTo p l h hour (n + 1) = if b.2 < clsAt p l h hour n ∨ (0 < clsAt p l h hour n /\ clsAt p l h hour n = b.2 /\ aheadB (clsAt p l h hour n) (l.getD n zeroQ) (rqAt l b.1) = true) then ((n : Int), clsAt p l h hour n) else b := by rw [<- eb]; rfl
  rw [e]
  split
  ·rename_i k
   have hpos : 0 < clsAt p l h hour n := by
    rcases k with k | k
    ·rcases ih with ⟨i1, _⟩ | ⟨_, _, _, i4, _⟩
     ·rw [i1] at k; exact k
     ·omega
    ·exact k.1
   refine .inr ⟨by show 0 <= (n : Int); omega, by show (n : Int) < _; omega, rfl, hpos, fun i hi => ?_⟩
   show _ <= clsAt p l h hour n
   rcases Nat.lt_or_ge i n with q | q
   ·rcases ih with ⟨i1, i2⟩ | ⟨_, _, _, _, i5⟩
    ·rw [i2 i q]; omega
    ·have := i5 i q
     rcases k with k | k
     ·omega
     ·omega
   ·rw [show i = n by omega]; omega
  ·rename_i k
   rcases ih with ⟨i1, i2⟩ | ⟨i1, i2, i3, i4, i5⟩
   ·refine .inl ⟨i1, fun i hi => ?_⟩
    rcases Nat.lt_or_ge i n with q | q
    ·exact i2 i q
    ·rw [show i = n by omega]
     rw [i1] at k
     have : ¬ (0 : Int) < clsAt p l h hour n := fun c => k (.inl c)
     omega
   ·refine .inr ⟨i1, by omega, i3, i4, fun i hi => ?_⟩
    rcases Nat.lt_or_ge i n with q | q
    ·exact i5 i q
    ·rw [show i = n by omega]
     exact Int.not_lt.1 fun c => k (.inl c)
theorem by_spec (f : Fleet) (l : List Rq) (h : List Sv) (hour place : Int) : ∀ n : Nat,
  (byTo f l h hour place n = -1 /\ ∀ b, b < n -> hour < ((brH f l h h.length).getD b zeroB).free) ∨
  (0 <= byTo f l h hour place n /\ byTo f l h hour place n < (n : Int) /\ ((brH f l h h.length).getD (Int.toNat (byTo f l h hour place n)) zeroB).free <= hour)
 | 0 => .inl ⟨rfl, fun b h => absurd h (Nat.not_lt_zero _)⟩
 | n + 1 => by
  have ih := by_spec f l h hour place n
  obtain ⟨y, ey⟩ : ∃ y, byTo f l h hour place n = y := ⟨_, rfl⟩
  rw [ey] at ih
  have e : byTo f l h hour place (n + 1) = if hour < ((brH f l h h.length).getD n zeroB).free then y else if y < 0 ∨ trav f ((brH f l h h.length).getD n zeroB).at_ place < trav f ((brH f l h h.length).getD (Int.toNat y) zeroB).at_ place then (n : Int) else y := by rw [<- ey]; rfl
  rw [e]
  split
  ·rename_i k
   rcases ih with ⟨i1, i2⟩ | ⟨i1, i2, i3⟩
   ·refine .inl ⟨i1, fun b hb => ?_⟩
    rcases Nat.lt_or_ge b n with q | q
    ·exact i2 b q
    ·rw [show b = n by omega]; exact k
   ·exact .inr ⟨i1, by omega, i3⟩
  ·rename_i k
   split
   ·exact .inr ⟨by omega, by omega, by rw [Int.toNat_natCast]; omega⟩
   ·rename_i k2
    rcases ih with ⟨i1, i2⟩ | ⟨i1, i2, i3⟩
    ·exact absurd (.inl (by omega)) k2
    ·exact .inr ⟨i1, by omega, i3⟩
theorem crN_eq {p r : Nat -> Bool} {n : Nat} (h : ∀ i, i < n -> p i = r i) : crN p n = crN r n :=
 Nat.le_antisymm (crN_mono fun i hi e => by rw [<- h i hi]; exact e) (crN_mono fun i hi e => by rw [h i hi]; exact e)
theorem crN_one {p : Nat -> Bool} {i0 : Nat} (hp : p i0 = false) : ∀ {n : Nat}, crN (fun i => p i || decide (i = i0)) n = crN p n + (if i0 < n then 1 else 0)
 | 0 => rfl
 | n + 1 => by
  rw [crN_succ, crN_succ, crN_one hp]
  by_cases e : n = i0
  ·subst e
   rw [hp, if_neg (Nat.lt_irrefl _), if_pos (Nat.lt_succ_self _), decide_eq_true rfl]; rfl
  ·rw [decide_eq_false e, Bool.or_false]
   by_cases c : i0 < n
   ·rw [if_pos c, if_pos (show i0 < n + 1 by omega)]; omega
   ·rw [if_neg c, if_neg (show ¬ i0 < n + 1 by omega)]; omega
theorem crN_true : ∀ n : Nat, crN (fun _ => true) n = n
 | 0 => rfl
 | n + 1 => by rw [crN_succ, crN_true n]; rfl
theorem met_count {f : Fleet} {l : List Rq} {h : List Sv} (g : GoodH f l h) : ∀ k, k <= h.length -> crN (fun i => (h.take k).any (isRq (i : Int))) l.length = k
 | 0, _ => by
  have : ∀ n, crN (fun i : Nat => (h.take 0).any (isRq (i : Int))) n = 0 := by
   intro n
   induction n with
   | zero => rfl
   | succ n ih => rw [crN_succ, ih, List.take_zero]; rfl
  exact this _
 | k + 1, hk => by
  have r := g.rq k (by omega)
  have e := g.ne k (by omega)
  have ih := met_count g k (by omega)
  rw [crN_eq (r := fun i => (h.take k).any (isRq (i : Int)) || decide (i = Int.toNat (svAt h k).rq)) fun i hi => by
   rw [take_snoc (d := zeroV) (show k < h.length by omega), List.any_append, List.any_cons, List.any_nil, Bool.or_false]
   show (_ || decide ((svAt h k).rq = (i : Int))) = _
   congr 1
   by_cases c : i = Int.toNat (svAt h k).rq
   ·rw [decide_eq_true c, decide_eq_true (by omega)]
   ·rw [decide_eq_false c, decide_eq_false (by omega)]]
  rw [crN_one (by show (h.take k).any (isRq ((Int.toNat (svAt h k).rq : Nat) : Int)) = false; rw [Int.toNat_of_nonneg r.1]; exact e), ih, if_pos (by omega)]
theorem unmet {f : Fleet} {l : List Rq} {h : List Sv} (g : GoodH f l h) (hl : h.length < l.length) : ∃ i, i < l.length /\ h.any (isRq (i : Int)) = false := by
 have e := met_count g h.length (Nat.le_refl _)
 rw [List.take_length] at e
 rcases Classical.em (∃ i, i < l.length /\ h.any (isRq (i : Int)) = false) with k | k
 ·exact k
 ·have : crN (fun i : Nat => h.any (isRq (i : Int))) l.length = l.length := by
   rw [crN_eq (r := fun _ => true) fun i hi => by
    cases c : h.any (isRq (i : Int)) with
    | true => rfl
    | false => exact absurd ⟨i, hi, c⟩ k]
   exact crN_true _
  omega
theorem met_any {l : List Rq} {h : List Sv} {i : Nat} (hi : i < l.length) : (metH l.length h h.length).getD i false = h.any (isRq (i : Int)) := by
 unfold metH; rw [tabP_get hi, List.take_length]
theorem dec_some {f : Fleet} {p : Pol} {l : List Rq} {h : List Sv} {hour : Int} {s : Sv} (e : decAt f p l h hour = some s) :
  ∃ i b : Nat, i < l.length /\ b < f.b.length /\ s = mkSv f l h (i : Int) (b : Int) hour /\ bestAt p l h hour = (i : Int) /\ byAt f p l h hour = (b : Int) /\ h.any (isRq (i : Int)) = false /\ (l.getD i zeroQ).at_ <= hour /\ ((brH f l h h.length).getD b zeroB).free <= hour := by
 unfold decAt at e
 split at e
 ·cases e
 rename_i k
 have k1 : ¬ bestAt p l h hour < 0 := fun c => k (.inl c)
 have k2 : ¬ byAt f p l h hour < 0 := fun c => k (.inr c)
 cases e
 rcases best_spec p l h hour l.length with ⟨a1, _⟩ | ⟨a1, a2, a3, a4, _⟩
 ·exact absurd (by unfold bestAt; rw [a1]; decide) k1
 rcases by_spec f l h hour (rqAt l (bestAt p l h hour)).place f.b.length with ⟨b1, _⟩ | ⟨b1, b2, b3⟩
 ·exact absurd (by unfold byAt; rw [b1]; decide) k2
 have a1 : 0 <= bestAt p l h hour := a1
 have a2 : bestAt p l h hour < (l.length : Int) := a2
 have b1 : 0 <= byAt f p l h hour := b1
 have b2 : byAt f p l h hour < (f.b.length : Int) := b2
 have hi : Int.toNat (bestAt p l h hour) < l.length := by omega
 have c : 0 < clsAt p l h hour (Int.toNat (bestAt p l h hour)) := by rw [a3] at a4; exact a4
 have c := classV_free (show 0 < classV p _ _ _ _ from c)
 rw [met_any hi] at c
 refine ⟨Int.toNat (bestAt p l h hour), Int.toNat (byAt f p l h hour), hi, by omega, ?_, by omega, by omega, c.1, c.2, b3⟩
 rw [Int.toNat_of_nonneg a1, Int.toNat_of_nonneg b1]
theorem dec_none {f : Fleet} {p : Pol} {l : List Rq} {h : List Sv} {hour : Int} (e : decAt f p l h hour = none) :
  (∀ i, i < l.length -> h.any (isRq (i : Int)) = false -> hour < (l.getD i zeroQ).at_) ∨ (∀ b, b < f.b.length -> hour < ((brH f l h h.length).getD b zeroB).free) := by
 unfold decAt at e
 split at e
 ·rename_i k
  rcases k with k | k
  ·left
   intro i hi hm
   rcases best_spec p l h hour l.length with ⟨_, a2⟩ | ⟨a1, _⟩
   ·have := a2 i hi
    rcases Int.lt_or_le hour (l.getD i zeroQ).at_ with q | q
    ·exact q
    ·have c := classV_pos (p := p) (r := l.getD i zeroQ) (t := (metH l.length h h.length).getD i false) (o := (ovN l h h.length).getD i 0) (h := hour) (by rw [met_any hi]; exact hm) q
     have : clsAt p l h hour i = 0 := this
     unfold clsAt at this
     omega
   ·exact absurd k (by have a1 : 0 <= bestAt p l h hour := a1; omega)
  ·right
   rcases by_spec f l h hour (rqAt l (bestAt p l h hour)).place f.b.length with ⟨_, b2⟩ | ⟨b1, _⟩
   ·exact b2
   ·exact absurd k (by have b1 : 0 <= byAt f p l h hour := b1; omega)
 ·cases e
end
end Go.Proofs.YthdekmpkioikdaaGreat
/- Request: what holds while a policy's history is played. No condition. -/
namespace Go.Proofs.YthdekmpkioikdaaGreat
set_option linter.unusedSimpArgs false
open Go Go.K
set_option linter.unusedVariables false
noncomputable section
theorem svAt_l {h : List Sv} {s : Sv} {k : Nat} (hk : k < h.length) : svAt (h ++ [s]) k = svAt h k := by
 show (h ++ [s]).getD k zeroV = h.getD k zeroV
 rw [List.getD_eq_getElem?_getD, List.getElem?_append_left hk, <- List.getD_eq_getElem?_getD]
theorem svAt_r {h : List Sv} {s : Sv} : svAt (h ++ [s]) h.length = s := by
 show (h ++ [s]).getD h.length zeroV = s
 rw [List.getD_eq_getElem?_getD, List.getElem?_append_right (Nat.le_refl _), Nat.sub_self]; rfl
theorem frH_app (f : Fleet) (h : List Sv) (s : Sv) : ∀ k, k <= h.length -> frH f (h ++ [s]) k = frH f h k
 | 0, _ => rfl
 | k + 1, hk => by
  show (frH f (h ++ [s]) k).set _ _ = (frH f h k).set _ _
  rw [frH_app f h s k (by omega), svAt_l (by omega)]
theorem frH_snoc (f : Fleet) (h : List Sv) (s : Sv) : frH f (h ++ [s]) (h.length + 1) = (frH f h h.length).set (Int.toNat s.br) s.nd := by
 show (frH f (h ++ [s]) h.length).set _ _ = _
 rw [frH_app f h s _ (Nat.le_refl _), svAt_r]
theorem take_app {h : List Sv} {s : Sv} {k : Nat} (hk : k <= h.length) : (h ++ [s]).take k = h.take k := List.take_append_of_le_length hk
theorem good_snoc {f : Fleet} {l : List Rq} {h : List Sv} {s : Sv} (g : GoodH f l h) (h1 : 0 <= s.rq /\ s.rq < (l.length : Int)) (h2 : 0 <= s.br /\ s.br < (f.b.length : Int)) (h3 : h.any (isRq s.rq) = false) : GoodH f l (h ++ [s]) := by
 refine ⟨fun k hk => ?_, fun k hk => ?_, fun k hk => ?_⟩
 all_goals
  rw [List.length_append] at hk
  rcases Nat.lt_or_ge k h.length with q | q
  ·rw [svAt_l q]
   first
    | exact g.rq k q
    | exact g.br k q
    | (rw [take_app (by omega)]; exact g.ne k q)
  ·have e : k = h.length := by have : [s].length = 1 := rfl; omega
   subst e
   rw [svAt_r]
   first
    | exact h1
    | exact h2
    | (rw [take_app (Nat.le_refl _), List.take_length]; exact h3)
theorem playI_0 {f : Fleet} {p : Pol} {l : List Rq} (hl : l.length <= 30) : PlayI f p l 0 [] := by
 refine ⟨⟨fun k hk => absurd hk (Nat.not_lt_zero _), fun k hk => absurd hk (Nat.not_lt_zero _), fun k hk => absurd hk (Nat.not_lt_zero _)⟩, Nat.zero_le _, fun _ => Nat.zero_le _, Nat.zero_le _, fun b hb => ?_, 40000, ?_, rfl⟩
 ·show 0 <= (List.replicate _ (0 : Int)).getD b 0 /\ (List.replicate _ (0 : Int)).getD b 0 <= _
  rw [List.getD_eq_getElem?_getD, List.getElem?_replicate, if_pos hb]
  decide
 ·show (l.length - 0) + _ <= _
  omega
theorem playI_dec {f : Fleet} {p : Pol} {l : List Rq} {hour : Nat} {h : List Sv} {s : Sv} (o : FlOk f) (ol : LsOk f.t.length l) (i : PlayI f p l hour h) (hl : h.length < l.length) (e : decAt f p l h (hour : Int) = some s) : PlayI f p l hour (h ++ [s]) := by
 obtain ⟨a, b, ha, hb, es, _, _, hm, hat, hfr⟩ := dec_some e
 have hlen : (h ++ [s]).length = h.length + 1 := by rw [List.length_append]; rfl
 have hn := i.now hl
 have erq : s.rq = (a : Int) := by rw [es]; rfl
 have ebr : s.br = (b : Int) := by rw [es]; rfl
 have pin := plH_in o ol h h.length b hb
 have eB := brH_at (f := f) (l := l) (h := h) (k := h.length) hb
 have tv := trav_in o (b := (rqAt l (a : Int)).place) pin
 have q := (ol.ok a ha).len
 have end_ : s.nd = (hour : Int) + trav f ((plH f l h h.length).getD b 0) (rqAt l (a : Int)).place + (rqAt l (a : Int)).len := by
  rw [es]
  show (hour : Int) + trav f ((brH f l h h.length).getD (Int.toNat (b : Int)) zeroB).at_ _ + _ = _
  rw [Int.toNat_natCast, eB]
 have eq1 : rqAt l (a : Int) = l.getD a zeroQ := by unfold rqAt; rw [Int.toNat_natCast]
 rw [<- eq1] at q
 refine ⟨good_snoc i.good (by rw [erq]; omega) (by rw [ebr]; omega) (by rw [erq]; exact hm), by omega, fun _ => by omega, i.top, fun c hc => ?_, ?_⟩
 ·rw [hlen, frH_snoc, getD_setN (by rw [frH_len]; exact hc)]
  have := i.free c hc
  split <;> omega
 ·obtain ⟨m, hm1, hm2⟩ := i.own
  match m, hm1, hm2 with
  | 0, hm1, _ => omega
  | m + 1, hm1, hm2 =>
   refine ⟨m, by omega, ?_⟩
   rw [<- hm2]
   show _ = if l.length <= h.length then h else _
   rw [if_neg (by omega), e]
theorem playI_next {f : Fleet} {p : Pol} {l : List Rq} {hour : Nat} {h : List Sv} (o : FlOk f) (ol : LsOk f.t.length l) (i : PlayI f p l hour h) (e : h.length < l.length -> decAt f p l h (hour : Int) = none) (ht : h.length < l.length ∨ hour <= 10000 + 200 * l.length) : PlayI f p l (hour + 1) h := by
 have key : h.length < l.length -> hour + 1 <= 10000 + 200 * h.length := by
  intro hl
  have hn := i.now hl
  rcases dec_none (e hl) with k | k
  ·obtain ⟨a, ha, hm⟩ := unmet i.good hl
   have := k a ha hm
   have := (ol.ok a ha).at_
   omega
  ·have b1 := o.b1
   have := k 0 (by omega)
   rw [brH_at (by omega)] at this
   have h2 := i.free 0 (by omega)
   have this : (hour : Int) < (frH f h h.length).getD 0 0 := this
   omega
 have hlen := i.len
 refine ⟨i.good, i.len, key, ?_, i.free, ?_⟩
 ·rcases ht with c | c
  ·have := key c; omega
  ·omega
 ·obtain ⟨m, hm1, hm2⟩ := i.own
  by_cases hl : h.length < l.length
  ·match m, hm1, hm2 with
   | 0, hm1, _ => omega
   | m + 1, hm1, hm2 =>
    refine ⟨m, by have := key hl; omega, ?_⟩
    rw [<- hm2]
    show _ = if l.length <= h.length then h else _
    rw [if_neg (by omega), e hl]; rfl
  ·refine ⟨m, by omega, ?_⟩
   rw [<- hm2]
   match m with
   | 0 => rfl
   | m + 1 =>
    show (if l.length <= h.length then h else _) = if l.length <= h.length then h else _
    rw [if_pos (by omega), if_pos (by omega)]
end
end Go.Proofs.YthdekmpkioikdaaGreat
/- Request: steps of the searches while a policy's history is played. No condition. -/
namespace Go.Proofs.YthdekmpkioikdaaGreat
set_option linter.unusedSimpArgs false
open Go Go.K
set_option linter.unusedVariables false
noncomputable section
theorem best_1 {p : Pol} {l : List Rq} {h : List Sv} {hour : Int} {i : Nat} (k : (bestTo p l h hour i).2 < clsAt p l h hour i ∨ (0 < clsAt p l h hour i /\ clsAt p l h hour i = (bestTo p l h hour i).2 /\ aheadB (clsAt p l h hour i) (l.getD i zeroQ) (rqAt l (bestTo p l h hour i).1) = true)) : bestTo p l h hour (i + 1) = ((i : Int), clsAt p l h hour i) := if_pos k
theorem best_0 {p : Pol} {l : List Rq} {h : List Sv} {hour : Int} {i : Nat} (k : ¬ ((bestTo p l h hour i).2 < clsAt p l h hour i ∨ (0 < clsAt p l h hour i /\ clsAt p l h hour i = (bestTo p l h hour i).2 /\ aheadB (clsAt p l h hour i) (l.getD i zeroQ) (rqAt l (bestTo p l h hour i).1) = true))) : bestTo p l h hour (i + 1) = bestTo p l h hour i := if_neg k
theorem by_0 {f : Fleet} {l : List Rq} {h : List Sv} {hour place : Int} {b : Nat} (k : hour < ((brH f l h h.length).getD b zeroB).free) : byTo f l h hour place (b + 1) = byTo f l h hour place b := if_pos k
theorem by_1 {f : Fleet} {l : List Rq} {h : List Sv} {hour place : Int} {b : Nat} (k : ¬ hour < ((brH f l h h.length).getD b zeroB).free) (k2 : byTo f l h hour place b < 0 ∨ trav f ((brH f l h h.length).getD b zeroB).at_ place < trav f ((brH f l h h.length).getD (Int.toNat (byTo f l h hour place b)) zeroB).at_ place) : byTo f l h hour place (b + 1) = (b : Int) := (if_neg k).trans (if_pos k2)
theorem by_2 {f : Fleet} {l : List Rq} {h : List Sv} {hour place : Int} {b : Nat} (k : ¬ hour < ((brH f l h h.length).getD b zeroB).free) (k2 : ¬ (byTo f l h hour place b < 0 ∨ trav f ((brH f l h h.length).getD b zeroB).at_ place < trav f ((brH f l h h.length).getD (Int.toNat (byTo f l h hour place b)) zeroB).at_ place)) : byTo f l h hour place (b + 1) = byTo f l h hour place b := (if_neg k).trans (if_neg k2)
theorem plH_app (f : Fleet) (l : List Rq) (h : List Sv) (s : Sv) : ∀ k, k <= h.length -> plH f l (h ++ [s]) k = plH f l h k
 | 0, _ => rfl
 | k + 1, hk => by
  show (plH f l (h ++ [s]) k).set _ _ = (plH f l h k).set _ _
  rw [plH_app f l h s k (by omega), svAt_l (by omega)]
theorem brH_app (f : Fleet) (l : List Rq) (h : List Sv) (s : Sv) : brH f l (h ++ [s]) (h ++ [s]).length = (brH f l h h.length).set (Int.toNat s.br) ⟨s.nd, (rqAt l s.rq).dest⟩ := by
 have e : brH f l (h ++ [s]) h.length = brH f l h h.length := by unfold brH; rw [frH_app f h s _ (Nat.le_refl _), plH_app f l h s _ (Nat.le_refl _)]
 rw [List.length_append, show [s].length = 1 from rfl, brH_succ, e, svAt_r]
theorem metH_app {n : Nat} {h : List Sv} {s : Sv} (h1 : 0 <= s.rq) (h2 : s.rq < (n : Int)) : metH n (h ++ [s]) (h ++ [s]).length = (metH n h h.length).set (Int.toNat s.rq) true := by
 have e : metH n (h ++ [s]) h.length = metH n h h.length := by unfold metH; rw [take_app (Nat.le_refl _)]
 have := metH_succ (n := n) (h := h ++ [s]) (k := h.length) (by rw [List.length_append]; show _ < _ + 1; omega) (by rw [svAt_r]; exact h1) (by rw [svAt_r]; exact h2)
 rw [svAt_r, e] at this
 rw [List.length_append]; exact this
theorem ovN_len (l : List Rq) (h : List Sv) : ∀ k, (ovN l h k).length = l.length
 | 0 => List.length_replicate ..
 | k + 1 => tabP_len ..
theorem ovP_len (l : List Rq) (h : List Sv) (s : Sv) (i : Nat) : (ovP l h s i).length = l.length := tabP_len ..
theorem ovN_app (l : List Rq) (h : List Sv) (s : Sv) : ∀ k, k <= h.length -> ovN l (h ++ [s]) k = ovN l h k
 | 0, _ => rfl
 | k + 1, hk => by
  have e1 : metH l.length (h ++ [s]) (k + 1) = metH l.length h (k + 1) := by unfold metH; rw [take_app hk]
  show tabP _ _ = tabP _ _
  rw [ovN_app l h s k (by omega), e1, svAt_l (by omega)]
theorem ovP_0 (l : List Rq) (h : List Sv) (s : Sv) : ovP l h s 0 = ovN l h h.length := by
 refine list_ext 0 (by rw [ovP_len, ovN_len]) fun j hj => ?_
 rw [ovP_len] at hj
 unfold ovP
 rw [tabP_get hj, if_neg (Nat.not_lt_zero _)]
theorem ovP_all (l : List Rq) (h : List Sv) (s : Sv) : ovP l h s l.length = ovN l (h ++ [s]) (h ++ [s]).length := by
 have e : (h ++ [s]).length = h.length + 1 := by rw [List.length_append]; rfl
 refine list_ext 0 (by rw [ovP_len, ovN_len]) fun j hj => ?_
 rw [ovP_len] at hj
 unfold ovP
 rw [tabP_get hj, if_pos hj, e]
theorem ovN_new {l : List Rq} {h : List Sv} {s : Sv} {i : Nat} (hi : i < l.length) : (ovN l (h ++ [s]) (h.length + 1)).getD i 0 = (ovN l h h.length).getD i 0 + (if (!((metH l.length (h ++ [s]) (h.length + 1)).getD i false) && befB (l.getD i zeroQ) (rqAt l s.rq)) = true then 1 else 0) := by
 show (tabP _ _).getD i 0 = _
 rw [tabP_get hi, ovN_app l h s _ (Nat.le_refl _), svAt_r]
theorem ovP_at {l : List Rq} {h : List Sv} {s : Sv} {i : Nat} (hi : i < l.length) : (ovP l h s i).getD i 0 = (ovN l h h.length).getD i 0 := by
 unfold ovP; rw [tabP_get hi, if_neg (Nat.lt_irrefl _)]
theorem ovP_succ {l : List Rq} {h : List Sv} {s : Sv} {i : Nat} (hi : i < l.length) : ovP l h s (i + 1) = (ovP l h s i).set i ((ovN l (h ++ [s]) (h.length + 1)).getD i 0) := by
 refine list_ext 0 (by rw [List.length_set, ovP_len, ovP_len]) fun j hj => ?_
 rw [ovP_len] at hj
 rw [getD_setN (by rw [ovP_len]; exact hj)]
 unfold ovP
 rw [tabP_get hj, tabP_get hj]
 by_cases e : i = j
 ·subst e; rw [if_pos (Nat.lt_succ_self _), if_pos rfl]
 ·rw [if_neg e]
  by_cases c : j < i
  ·rw [if_pos (show j < i + 1 by omega), if_pos c]
  ·rw [if_neg (show ¬ j < i + 1 by omega), if_neg c]
theorem ovN_in {l : List Rq} {h : List Sv} {i : Nat} (hi : i < l.length) : ∀ k : Nat, 0 <= (ovN l h k).getD i 0 /\ (ovN l h k).getD i 0 <= (k : Int)
 | 0 => by
  show 0 <= (List.replicate l.length (0 : Int)).getD i 0 /\ (List.replicate l.length (0 : Int)).getD i 0 <= _
  rw [List.getD_eq_getElem?_getD, List.getElem?_replicate, if_pos hi]
  decide
 | k + 1 => by
  have ih := ovN_in (h := h) hi k
  have e : (ovN l h (k + 1)).getD i 0 = (ovN l h k).getD i 0 + if (!((metH l.length h (k + 1)).getD i false) && befB (l.getD i zeroQ) (rqAt l (svAt h k).rq)) = true then 1 else 0 := tabP_get hi
  rw [e]
  split <;> omega
theorem set_self {l : List Int} {j : Nat} (h : j < l.length) : l.set j (l.getD j 0) = l := by
 refine list_ext 0 (by rw [List.length_set]) fun k hk => ?_
 rw [List.length_set] at hk
 rw [getD_setN hk]
 split
 ·rename_i e; rw [e]
 ·rfl
theorem crN_lt {p : Nat -> Bool} {n i0 : Nat} (h0 : i0 < n) (hp : p i0 = false) : crN p n < n := by
 have e := crN_one hp (n := n)
 rw [if_pos h0] at e
 have m := crN_mono (p := fun i => p i || decide (i = i0)) (r := fun _ => true) (n := n) (fun _ _ _ => rfl)
 rw [crN_true, e] at m
 omega
theorem dec_lt {f : Fleet} {p : Pol} {l : List Rq} {h : List Sv} {hour : Int} {s : Sv} (g : GoodH f l h) (e : decAt f p l h hour = some s) : h.length < l.length := by
 obtain ⟨a, b, ha, _, _, _, _, hm, _⟩ := dec_some e
 have c := met_count g h.length (Nat.le_refl _)
 rw [List.take_length] at c
 have := crN_lt (p := fun i : Nat => h.any (isRq (i : Int))) ha hm
 omega
theorem sv_snoc (g : List Sv) (s : Sv) : List.take (g.length * 5) (List.drop 0 (g.flatMap svC)) ++ List.take (1 * 5) (List.drop 0 (svC s)) = (g ++ [s]).flatMap svC := by
 rw [List.drop_zero, List.drop_zero, List.take_of_length_le (by rw [flat_len svC_len]; exact Nat.le_refl _), List.take_of_length_le (by rw [svC_len]; exact Nat.le_refl _), List.flatMap_append]
 simp
end
end Go.Proofs.YthdekmpkioikdaaGreat
