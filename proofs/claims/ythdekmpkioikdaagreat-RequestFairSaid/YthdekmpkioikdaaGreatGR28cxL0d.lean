/- Request: contracts over what is made of numbers, for RequestFair. No condition. -/
import Derived.Test.YthdekmpkioikdaaGreatGR23gxR28a
import Derived.Test.YthdekmpkioikdaaGreatGR11fxZ1
import Derived.Test.YthdekmpkioikdaaGreatRows
import Derived.JoinedCond
import Derived.Test.YthdekmpkioikdaaGreatGK27xR1
namespace Go.Proofs.YthdekmpkioikdaaGreat
set_option linter.unusedSimpArgs false
open Go Go.K
set_option linter.unusedVariables false
noncomputable section
attribute [local irreducible] vF
theorem sameSv_self (s : Sv) : sameSv s s = true := by unfold sameSv; simp
theorem sameSv_rq {a b : Sv} (h : sameSv a b = true) : a.rq = b.rq := by
 unfold sameSv at h
 rw [Bool.and_eq_true] at h
 exact eq_of_beq h.1
theorem firstN_all {c : Nat -> Bool} : ∀ {n : Nat}, (∀ i, i < n -> c i = false) -> firstN c n = n
 | 0, _ => rfl
 | n + 1, h => firstN_succ (firstN_all fun i hi => h i (by omega)) (h n (by omega))
theorem good_ne {f : Fleet} {l : List Rq} {h : List Sv} (g : GoodH f l h) {j k : Nat} (hk : k < h.length) (hj : j < k) : (svAt h j).rq ≠ (svAt h k).rq := fun e => by
 have n := g.ne k hk
 have hm : svAt h j ∈ h.take k := by
  have : (h.take k).getD j zeroV = svAt h j := sv_take hj
  rw [<- this]; exact getD_mem (by rw [List.length_take]; omega)
 rw [List.any_eq_false] at n
 exact n _ hm (decide_eq_true e)
theorem swpH_len (h : List Sv) (a b : Nat) : (swpH h a b).length = h.length := by unfold swpH; rw [List.length_set, List.length_set]
theorem swpH_at {h : List Sv} {a b j : Nat} (hj : j < h.length) : svAt (swpH h a b) j = if b = j then svAt h a else if a = j then svAt h b else svAt h j := by
 unfold swpH svAt
 rw [getD_setN (by rw [List.length_set]; exact hj)]
 split
 ·rfl
 ·rw [getD_setN hj]
theorem aud_own (own : List Sv) : firstN (difB own own) own.length = own.length :=
 firstN_all fun i hi => by unfold difB; rw [sameSv_self]; rfl
theorem aud_swp {f : Fleet} {l : List Rq} {h : List Sv} (g : GoodH f l h) {a b : Nat} (ha : a < h.length) (hb : b < h.length) : firstN (difB h (swpH h a b)) (swpH h a b).length = if a = b then h.length else min a b := by
 rw [swpH_len]
 have key : ∀ i, i < h.length -> (i ≠ a /\ i ≠ b) ∨ a = b -> difB h (swpH h a b) i = false := fun i hi hc => by
  unfold difB
  rw [swpH_at hi]
  have e : (if b = i then svAt h a else if a = i then svAt h b else svAt h i) = svAt h i := by
   rcases hc with c | c
   ·rw [if_neg (fun q => c.2 q.symm), if_neg (fun q => c.1 q.symm)]
   ·subst c
    by_cases q : a = i
    ·rw [if_pos q, q]
    ·rw [if_neg q, if_neg q]
  rw [e, sameSv_self]; rfl
 have dif : ∀ i j, i < h.length -> j < h.length -> i ≠ j -> (!(sameSv (svAt h i) (svAt h j))) = true := fun i j hi hj hne => by
  cases e : sameSv (svAt h i) (svAt h j) with
  | false => rfl
  | true =>
   have q := sameSv_rq e
   rcases Nat.lt_or_ge i j with w | w
   ·exact absurd q (good_ne g hj w)
   ·exact absurd q.symm (good_ne g hi (by omega))
 split
 ·rename_i c
  exact firstN_all fun i hi => key i hi (.inr c)
 ·rename_i c
  have h0 : firstN (difB h (swpH h a b)) (min a b) = min a b := firstN_all fun i hi => key i (by omega) (.inl (by omega))
  refine firstN_at h0 ?_ (by omega)
  unfold difB
  rw [swpH_at (by omega)]
  rcases Nat.lt_or_ge a b with w | w
  ·rw [show min a b = a by omega, if_neg (by omega), if_pos rfl]; exact dif _ _ hb ha (by omega)
  ·rw [show min a b = b by omega, if_pos rfl]; exact dif _ _ ha hb (by omega)
theorem mkErrs (L : List Int) {m : Int} (hm : 0 <= m /\ m <= 30) : errFl (mkF L) = 0 /\ errPol (mkP L m) = 0 /\ errRq (mkF L).t.length (mkQ L m) = 0 :=
 ⟨errFl_ok (mkF_ok L) (shF_diag L 0), errPol_ok L _, errRq_ok (mkQ_ok L hm).1⟩
theorem errPol_v0 {p : Pol} (h : errPol p = 0) : errPol { p with ov := 0 } = 0 := by
 unfold errPol at h ⊢
 split at h
 ·cases h
 ·rename_i c
  rw [if_neg]
  intro q
  apply c
  rw [Bool.or_eq_true, Bool.or_eq_true] at q ⊢
  rcases q with (q | q) | q
  ·exact absurd q (by show ¬ (!inB (0 : Int) 0 30) = true; decide)
  ·exact .inl (.inr q)
  ·exact .inr q
theorem mkO_len (L : List Int) (m : Int) : (mkO L m).length = (mkQ L m).length := ov_len _ _
theorem mkI_in (L : List Int) (m x : Int) (h : 0 < (mkQ L m).length) : 0 <= mkI L m x /\ mkI L m x < ((mkQ L m).length : Int) := by
 unfold mkI
 exact ⟨Int.emod_nonneg _ (by omega), Int.emod_lt_of_pos _ (by omega)⟩
section
variable (L : List Int) {m : Int} (hm : 0 <= m /\ m <= 30) {H : Heap} {i0 i1 i2 : Nat} {o0 o1 o2 : Bool} {z0 z1 z2 : Nat} (e0 : H[i0]? = some (.cells o0 z0 (inL (mkF L).t))) (e1 : H[i1]? = some (.cells o1 z1 ((mkF L).b.flatMap intC))) (e2 : H[i2]? = some (.cells o2 z2 ((mkQ L m).flatMap rqC)))
include hm e0 e1 e2
theorem kOverM {N : Nat} (hN : H.length = N) {i3 : Nat} {o3 : Bool} {z3 : Nat} (e3 : H[i3]? = some (.cells o3 z3 ((mkH L m).flatMap svC))) :
  KCall prog 41 [fleetV (mkF L) i0 i1, .slice (some ⟨i2, 0, some 2⟩) (mkQ L m).length (mkQ L m).length, .slice (some ⟨i3, 0, some 2⟩) (mkH L m).length (mkH L m).length] H [] (Is (.tuple #[.slice (some ⟨N, 0, some 2⟩) (mkO L m).length (mkO L m).length, .int .i64 0]) (H ++ [.cells true 1 ((mkO L m).flatMap intC)])) := by
 have lh := mkH_len L hm
 have lq := mkQ_len L hm.1
 have h := kOver (mkF L) (mkQ L m) (mkH L m) (mkF_in L).1 (mkF_in L).2.1 (mkF_in L).2.2 (by omega) hN e0 e1 e2 e3
 obtain ⟨c1, c2, c3⟩ := mkErrs L hm
 have e : fOver (mkF L) (mkQ L m) (mkH L m) = (mkO L m, 0) := fOver_0 (errHist_play (mkF_ok L) (mkQ_ok L hm).1 c1 c3)
 rw [e] at h
 exact h
theorem kAudM {i3 : Nat} {o3 : Bool} {z3 : Nat} (e3 : H[i3]? = some (.cells o3 z3 ((mkH L m).flatMap svC))) :
  KCall prog 35 [fleetV (mkF L) i0 i1, .agg ⟨polC (mkP L m)⟩, .slice (some ⟨i2, 0, some 2⟩) (mkQ L m).length (mkQ L m).length, .slice (some ⟨i3, 0, some 2⟩) (mkH L m).length (mkH L m).length] H [] (Is (.tuple #[.int .i64 (((mkQ L m).length : Nat) : Int), .int .i64 0]) H) := by
 have lh := mkH_len L hm
 have lq := mkQ_len L hm.1
 have h := kAudit (mkF L) (mkP L m) (mkQ L m) (mkH L m) (mkF_in L).1 (mkF_in L).2.1 (mkF_in L).2.2 (by omega) e0 e1 e2 e3
 have e : fAud (mkF L) (mkP L m) (mkQ L m) (mkH L m) = (((mkQ L m).length : Int), 0) := by
  unfold fAud
  rw [if_pos (mkErr0 L hm), if_neg (by omega)]
  have := aud_own (mkH L m)
  rw [lh] at this
  rw [lh]
  exact congrArg (fun n : Nat => ((n : Int), (0 : Int))) this
 rw [e] at h
 exact h
theorem kAudX (x y : Int) (h0 : 0 < (mkQ L m).length) {i3 : Nat} {o3 : Bool} {z3 : Nat} (e3 : H[i3]? = some (.cells o3 z3 ((mkX L m x y).flatMap svC))) :
  KCall prog 35 [fleetV (mkF L) i0 i1, .agg ⟨polC (mkP L m)⟩, .slice (some ⟨i2, 0, some 2⟩) (mkQ L m).length (mkQ L m).length, .slice (some ⟨i3, 0, some 2⟩) (mkX L m x y).length (mkX L m x y).length] H [] (Is (.tuple #[.int .i64 (mkK L m x y), .int .i64 0]) H) := by
 have lh := mkH_len L hm
 have lq := mkQ_len L hm.1
 have lx : (mkX L m x y).length = (mkH L m).length := swpH_len _ _ _
 have a1 := mkI_in L m x h0
 have a2 := mkI_in L m y h0
 have h := kAudit (mkF L) (mkP L m) (mkQ L m) (mkX L m x y) (mkF_in L).1 (mkF_in L).2.1 (mkF_in L).2.2 (by omega) e0 e1 e2 e3
 have e : fAud (mkF L) (mkP L m) (mkQ L m) (mkX L m x y) = (mkK L m x y, 0) := by
  unfold fAud
  rw [if_pos (mkErr0 L hm), if_neg (by omega)]
  have := aud_swp (play_dec (p := mkP L m) (mkF_ok L) (mkQ_ok L hm).1).1 (a := Int.toNat (mkI L m x)) (b := Int.toNat (mkI L m y)) (by show _ < (mkH L m).length; omega) (by show _ < (mkH L m).length; omega)
  have this : firstN (difB (playF (mkF L) (mkP L m) (mkQ L m)) (mkX L m x y)) (mkX L m x y).length = if Int.toNat (mkI L m x) = Int.toNat (mkI L m y) then (mkH L m).length else min (Int.toNat (mkI L m x)) (Int.toNat (mkI L m y)) := this
  rw [this]
  refine congrArg (fun z : Int => (z, (0 : Int))) ?_
  unfold mkK
  split
  ·rw [if_pos (by omega), lh]
  ·rw [if_neg (by omega)]; omega
 rw [e] at h
 exact h
theorem kRun0 {N : Nat} (hN : H.length = N) :
  KCall prog 29 [fleetV (mkF L) i0 i1, .agg ⟨polC (mkP0 L m)⟩, .slice (some ⟨i2, 0, some 2⟩) (mkQ L m).length (mkQ L m).length] H [] (Is (.tuple #[.slice (some ⟨N, 0, some 2⟩) (mkH0 L m).length (mkH0 L m).length, .int .i64 0]) (H ++ [.cells true 5 ((mkH0 L m).flatMap svC)])) := by
 have h := kRun (mkF L) (mkP0 L m) (mkQ L m) (mkF_in L).1 (mkF_in L).2.1 (mkF_in L).2.2 hN e0 e1 e2
 obtain ⟨c1, c2, c3⟩ := mkErrs L hm
 have e : fRun (mkF L) (mkP0 L m) (mkQ L m) = (mkH0 L m, 0) := fRun_ok (errAll_ok c1 (errPol_v0 c2) c3)
 rw [e] at h
 exact h
end
theorem mkH0_len (L : List Int) {m : Int} (hm : 0 <= m /\ m <= 30) : (mkH0 L m).length = (mkQ L m).length := playF_len (mkF_ok L) (mkQ_ok L hm).1
theorem wk_RE {id a b : Nat} (h : a = b) : wk (.slice (some ⟨id, 0, none⟩) a a) (.slice (some ⟨id, 0, some 2⟩) b b) := by subst h; exact wk_R
end
end Go.Proofs.YthdekmpkioikdaaGreat
/- What is to be shown of functions. Printed by a program. No condition. -/
namespace Go.Proofs.YthdekmpkioikdaaGreat
set_option linter.unusedSimpArgs false
open Go Go.K
set_option maxRecDepth 100000
set_option maxHeartbeats 4000000
set_option linter.unusedVariables false
noncomputable section
abbrev jt5 (L : List Int) : Value:=.agg ⟨(L.flatMap intC)⟩
abbrev jtl (L : List Int):=List.length (mkF L).t
abbrev jtm (L : List Int):=List.length (mkF L).b
abbrev jtg (L : List Int) : List Value:=[.iface (L.length + 1) (jt5 L),nI (mkA L)]
abbrev jtp (L : List Int) : KObj:=.cells true 1 (inL (mkF L).t)
abbrev jt7 (L : List Int):=List.flatMap intC (mkF L).b
abbrev jts (L : List Int) : KObj:=.cells true 1 (jt7 L)
abbrev jte (L : List Int) : List Value:=[.iface (L.length + 1) (jt5 L),nI (mkB L 25)]
abbrev jtq (L : List Int) : KObj:=.cells true 7 ((mkQ L 25).flatMap rqC)
abbrev jto (L : List Int) : Value:=.agg #[nI (mkP L 25).ov,nI (mkP L 25).warn,nI (mkP L 25).w0,nI (mkP L 25).w1,nI (mkP L 25).w2]
abbrev jtk (L : List Int) : List Value:=[.iface (L.length + 1) (jt5 L),nI (mkB L 25 + 1 + 1 + 1 + 1 + 1)]
abbrev jtd (L : List Int) : Prop:=(someR (.cells true 1 (inL (mkF L).t))) /\ (someR (.cells true 1 (jt7 L))) /\ (someR (.cells true 7 ((mkQ L 25).flatMap rqC))) /\ (someR (.cells true 5 ((mkH L 25).flatMap svC))) /\ True
abbrev jtc (H' : Heap) (L : List Int) : Prop:=H'[1]? = some (jtp L) /\ H'[2]? = some (jts L) /\ H'[4]? = some (jtq L) /\ H'[6]? = some (.cells true 5 ((mkH L 25).flatMap svC) : KObj) /\ True
abbrev jtj (L : List Int) : Int:=(List.length (mkQ L 25) : Nat)
abbrev jt8 (L : List Int) : Int:=((mkQ L 25).length : Nat)
abbrev jth : Value:=.bool false
abbrev jti (L : List Int) : Int:=((mkO L 25).length : Nat)
abbrev jt4 (y : Int) (x : Int) (L : List Int) : Prop:=(nI y : Value) = nI y /\ (nI x : Value) = nI x /\ (.pointer (some ⟨3,0,none⟩) : Value) = .pointer (some ⟨3,0,none⟩) /\ (.pointer (some ⟨5,0,none⟩) : Value) = .pointer (some ⟨5,0,none⟩) /\ wkR (slQ 4 1 (mkQ L 25).length) /\ wkR (slQ 6 2 (mkH L 25).length) /\ (nI 0 : Value) = nI 0 /\ wkR (slQ 7 2 (mkO L 25).length) /\ (nI (jtj L) : Value) = nI (jtj L) /\ True
abbrev jt6 (L : List Int) : Prop:=((keptR 8 (.cells true 0 (jtk L))) /\ (keptR 8 (.cells true 0 [slQ 1 1 (jtl L),slQ 2 1 (jtm L)])) /\ (keptR 8 (.cells true 0 [nI (mkP L 25).ov,nI (mkP L 25).warn,nI (mkP L 25).w0,nI (mkP L 25).w1,nI (mkP L 25).w2])) /\ True) /\ (True) /\ (True)
abbrev jtr (L : List Int) (x6 : Nat) : Prop:=((mkO L 25).flatMap intC)[(0 + Int.toNat (x6 : Int) * 1)]? = some (nI ((mkO L 25).getD x6 0))
abbrev jtn (L : List Int) : Int:=((0 + (mkH L 25).length) : Nat)
abbrev jta (L : List Int) (y : Int) : Value:=.agg #[nI ((mkH L 25).getD (mkI L 25 y).toNat zeroV).rq,nI ((mkH L 25).getD (mkI L 25 y).toNat zeroV).br,nI ((mkH L 25).getD (mkI L 25 y).toNat zeroV).tk,nI ((mkH L 25).getD (mkI L 25 y).toNat zeroV).bg,nI ((mkH L 25).getD (mkI L 25 y).toNat zeroV).nd]
abbrev jtb (L : List Int) (x : Int) : Value:=.agg #[nI ((mkH L 25).getD (mkI L 25 x).toNat zeroV).rq,nI ((mkH L 25).getD (mkI L 25 x).toNat zeroV).br,nI ((mkH L 25).getD (mkI L 25 x).toNat zeroV).tk,nI ((mkH L 25).getD (mkI L 25 x).toNat zeroV).bg,nI ((mkH L 25).getD (mkI L 25 x).toNat zeroV).nd]
abbrev jt9 (L : List Int) (x : Int) (y : Int):=setl ((mkH L 25).flatMap svC) (0 + Int.toNat (mkI L 25 x) * 5) [nI ((mkH L 25).getD (mkI L 25 y).toNat zeroV).rq,nI ((mkH L 25).getD (mkI L 25 y).toNat zeroV).br,nI ((mkH L 25).getD (mkI L 25 y).toNat zeroV).tk,nI ((mkH L 25).getD (mkI L 25 y).toNat zeroV).bg,nI ((mkH L 25).getD (mkI L 25 y).toNat zeroV).nd]
abbrev jt0 (L : List Int) (sp : Value) : Prop:=((someR (.cells true 1 (inL (mkF L).t))) /\ (someR (.cells true 1 (jt7 L))) /\ (someR (.cells true 7 ((mkQ L 25).flatMap rqC))) /\ True) /\ (∀ H' : Heap,H'.length = 10 -> (H'[1]? = some (jtp L) /\ H'[2]? = some (jts L) /\ H'[4]? = some (jtq L) /\ True) -> KCall prog 29 [.agg #[slQ 1 1 (jtl L),slQ 2 1 (jtm L)],.agg #[nI 0,nI (mkP L 25).warn,nI (mkP L 25).w0,nI (mkP L 25).w1,nI (mkP L 25).w2],slQ 4 1 (mkQ L 25).length] H' [] (Is (.tuple #[slQ 10 2 (mkH0 L 25).length,nI 0]) (H' ++ [(.cells true 5 ((mkH0 L 25).flatMap svC) : KObj)]))) /\ (((((((mkH0 L 25).length : Nat) : Int) : Int) != (jt8 L)) = true -> jth = sp) /\ ((((((mkH0 L 25).length : Nat) : Int) : Int) != (jt8 L)) = false -> (true = true /\ (1 <= 1 /\ 1 <= List.length (mkH0 L 25)) /\ (true = true /\ ((nI 1 : Value) = nI ((1 : Nat) : Int) /\ wkR (slQ 4 1 (mkQ L 25).length) /\ wkR (slQ 10 2 (mkH0 L 25).length) /\ True) /\ ((keptR 11 (.cells true 0 [slQ 1 1 (jtl L),slQ 2 1 (jtm L)])) /\ (keptR 11 (.cells true 0 [nI 0,nI (mkP L 25).warn,nI (mkP L 25).w0,nI (mkP L 25).w1,nI (mkP L 25).w2])) /\ True) /\ (True) /\ (True)) /\ (∀ x12 : Nat,true = true) /\ ∀ x12 : Nat,(1 <= x12 /\ x12 <= List.length (mkH0 L 25)) -> (((decide (((x12 : Int) : Int) < (((mkH0 L 25).length : Nat) : Int))) = true -> ((nI (IntKind.wrap .i64 ((x12 : Int) - 1)) : Value) = nI ((x12 : Int) - 1) /\ (((0 : Int) <= ((x12 : Int) - 1) /\ (((x12 : Int) - 1) : Int) < (((mkH0 L 25).length : Nat) : Int)) /\ ((((mkH0 L 25).flatMap svC)[((0 + Int.toNat ((x12 : Int) - 1) * 5) + 0)]? = some (nI ((mkH0 L 25).getD ((x12 : Int) - 1).toNat zeroV).rq)) /\ (((0 : Int) <= (x12 : Int) /\ ((x12 : Int) : Int) < (((mkH0 L 25).length : Nat) : Int)) /\ ((((mkH0 L 25).flatMap svC)[((0 + Int.toNat (x12 : Int) * 5) + 0)]? = some (nI ((mkH0 L 25).getD x12 zeroV).rq)) /\ (∃ y13 : Int,(nI ((mkH0 L 25).getD ((x12 : Int) - 1).toNat zeroV).rq : Value) = nI y13 /\ (((decide ((y13 : Int) < 0)) = true -> jth = sp) /\ ((decide ((y13 : Int) < 0)) = false -> (((decide (((jt8 L) : Int) <= y13)) = true -> jth = sp) /\ ((decide (((jt8 L) : Int) <= y13)) = false -> (((decide ((((mkH0 L 25).getD x12 zeroV).rq : Int) < 0)) = true -> jth = sp) /\ ((decide ((((mkH0 L 25).getD x12 zeroV).rq : Int) < 0)) = false -> (((decide (((jt8 L) : Int) <= ((mkH0 L 25).getD x12 zeroV).rq)) = true -> jth = sp) /\ ((decide (((jt8 L) : Int) <= ((mkH0 L 25).getD x12 zeroV).rq)) = false -> (((0 : Int) <= y13 /\ (y13 : Int) < (jt8 L)) /\ ((((mkQ L 25).flatMap rqC)[((0 + Int.toNat y13 * 7) + 1)]? = some (nI ((mkQ L 25).getD y13.toNat zeroQ).at_)) /\ (((0 : Int) <= ((mkH0 L 25).getD x12 zeroV).rq /\ (((mkH0 L 25).getD x12 zeroV).rq : Int) < (jt8 L)) /\ ((((mkQ L 25).flatMap rqC)[((0 + Int.toNat ((mkH0 L 25).getD x12 zeroV).rq * 7) + 1)]? = some (nI ((mkQ L 25).getD (Int.toNat ((mkH0 L 25).getD x12 zeroV).rq) zeroQ).at_)) /\ (((decide ((((mkQ L 25).getD (Int.toNat ((mkH0 L 25).getD x12 zeroV).rq) zeroQ).at_ : Int) < ((mkQ L 25).getD y13.toNat zeroQ).at_)) = true -> jth = sp) /\ ((decide ((((mkQ L 25).getD (Int.toNat ((mkH0 L 25).getD x12 zeroV).rq) zeroQ).at_ : Int) < ((mkQ L 25).getD y13.toNat zeroQ).at_)) = false -> (((0 : Int) <= y13 /\ (y13 : Int) < (jt8 L)) /\ ((((mkQ L 25).flatMap rqC)[((0 + Int.toNat y13 * 7) + 1)]? = some (nI ((mkQ L 25).getD y13.toNat zeroQ).at_)) /\ (((0 : Int) <= ((mkH0 L 25).getD x12 zeroV).rq /\ (((mkH0 L 25).getD x12 zeroV).rq : Int) < (jt8 L)) /\ ((((mkQ L 25).flatMap rqC)[((0 + Int.toNat ((mkH0 L 25).getD x12 zeroV).rq * 7) + 1)]? = some (nI ((mkQ L 25).getD (Int.toNat ((mkH0 L 25).getD x12 zeroV).rq) zeroQ).at_)) /\ ((((((mkQ L 25).getD y13.toNat zeroQ).at_ : Int) == ((mkQ L 25).getD (Int.toNat ((mkH0 L 25).getD x12 zeroV).rq) zeroQ).at_) = true -> (((0 : Int) <= y13 /\ (y13 : Int) < (jt8 L)) /\ ((((mkQ L 25).flatMap rqC)[((0 + Int.toNat y13 * 7) + 0)]? = some (nI ((mkQ L 25).getD y13.toNat zeroQ).id)) /\ (((0 : Int) <= ((mkH0 L 25).getD x12 zeroV).rq /\ (((mkH0 L 25).getD x12 zeroV).rq : Int) < (jt8 L)) /\ ((((mkQ L 25).flatMap rqC)[((0 + Int.toNat ((mkH0 L 25).getD x12 zeroV).rq * 7) + 0)]? = some (nI ((mkQ L 25).getD (Int.toNat ((mkH0 L 25).getD x12 zeroV).rq) zeroQ).id)) /\ (((decide ((((mkQ L 25).getD (Int.toNat ((mkH0 L 25).getD x12 zeroV).rq) zeroQ).id : Int) < ((mkQ L 25).getD y13.toNat zeroQ).id)) = true -> jth = sp) /\ ((decide ((((mkQ L 25).getD (Int.toNat ((mkH0 L 25).getD x12 zeroV).rq) zeroQ).id : Int) < ((mkQ L 25).getD y13.toNat zeroQ).id)) = false -> ((nI (IntKind.wrap .i64 ((x12 : Int) + 1)) : Value) = nI ((x12 : Int) + 1) /\ (∃ x12' : Nat,(1 <= x12' /\ x12' <= List.length (mkH0 L 25)) /\ (List.length (mkH0 L 25) - x12') < (List.length (mkH0 L 25) - x12) /\ true = true /\ ((nI ((x12 : Int) + 1) : Value) = nI (x12' : Int) /\ wkR (slQ 4 1 (mkQ L 25).length) /\ wkR (slQ 10 2 (mkH0 L 25).length) /\ True) /\ ((keptR 11 (.cells true 0 [slQ 1 1 (jtl L),slQ 2 1 (jtm L)])) /\ (keptR 11 (.cells true 0 [nI 0,nI (mkP L 25).warn,nI (mkP L 25).w0,nI (mkP L 25).w1,nI (mkP L 25).w2])) /\ True) /\ (True) /\ (True)))))))))) /\ (((((mkQ L 25).getD y13.toNat zeroQ).at_ : Int) == ((mkQ L 25).getD (Int.toNat ((mkH0 L 25).getD x12 zeroV).rq) zeroQ).at_) = false -> ((nI (IntKind.wrap .i64 ((x12 : Int) + 1)) : Value) = nI ((x12 : Int) + 1) /\ (∃ x12' : Nat,(1 <= x12' /\ x12' <= List.length (mkH0 L 25)) /\ (List.length (mkH0 L 25) - x12') < (List.length (mkH0 L 25) - x12) /\ true = true /\ ((nI ((x12 : Int) + 1) : Value) = nI (x12' : Int) /\ wkR (slQ 4 1 (mkQ L 25).length) /\ wkR (slQ 10 2 (mkH0 L 25).length) /\ True) /\ ((keptR 11 (.cells true 0 [slQ 1 1 (jtl L),slQ 2 1 (jtm L)])) /\ (keptR 11 (.cells true 0 [nI 0,nI (mkP L 25).warn,nI (mkP L 25).w0,nI (mkP L 25).w1,nI (mkP L 25).w2])) /\ True) /\ (True) /\ (True)))))))))))))))))))))))))))))) /\ ((decide (((x12 : Int) : Int) < (((mkH0 L 25).length : Nat) : Int))) = false -> ((True) /\ (∀ H' : Heap,H'.length = 11 -> (True) -> KCall prog 14 [] H' [] (Is (.bool true) H')) /\ (.bool true : Value) = sp))))))
abbrev jt1 (L : List Int) (sp : Value) : Prop:=((someR (.cells true 1 (inL (mkF L).t))) /\ (someR (.cells true 1 (jt7 L))) /\ (someR (.cells true 7 ((mkQ L 25).flatMap rqC))) /\ True) /\ (∀ H' : Heap,H'.length = 10 -> (H'[1]? = some (jtp L) /\ H'[2]? = some (jts L) /\ H'[4]? = some (jtq L) /\ True) -> KCall prog 29 [.agg #[slQ 1 1 (jtl L),slQ 2 1 (jtm L)],.agg #[nI 0,nI (mkP L 25).warn,nI (mkP L 25).w0,nI (mkP L 25).w1,nI (mkP L 25).w2],slQ 4 1 (mkQ L 25).length] H' [] (Is (.tuple #[slQ 10 2 (mkH0 L 25).length,nI 0]) (H' ++ [(.cells true 5 ((mkH0 L 25).flatMap svC) : KObj)]))) /\ (((((((mkH0 L 25).length : Nat) : Int) : Int) != (jt8 L)) = true -> jth = sp) /\ ((((((mkH0 L 25).length : Nat) : Int) : Int) != (jt8 L)) = false -> (true = true /\ (1 <= 1 /\ 1 <= List.length (mkH0 L 25)) /\ (true = true /\ ((nI 1 : Value) = nI ((1 : Nat) : Int) /\ wkR (slQ 4 1 (mkQ L 25).length) /\ wkR (slQ 10 2 (mkH0 L 25).length) /\ True) /\ ((keptR 11 (.cells true 0 [slQ 1 1 (jtl L),slQ 2 1 (jtm L)])) /\ (keptR 11 (.cells true 0 [nI 0,nI (mkP L 25).warn,nI (mkP L 25).w0,nI (mkP L 25).w1,nI (mkP L 25).w2])) /\ True) /\ (True) /\ (True)) /\ (∀ x11 : Nat,true = true) /\ ∀ x11 : Nat,(1 <= x11 /\ x11 <= List.length (mkH0 L 25)) -> (((decide (((x11 : Int) : Int) < (((mkH0 L 25).length : Nat) : Int))) = true -> ((nI (IntKind.wrap .i64 ((x11 : Int) - 1)) : Value) = nI ((x11 : Int) - 1) /\ (((0 : Int) <= ((x11 : Int) - 1) /\ (((x11 : Int) - 1) : Int) < (((mkH0 L 25).length : Nat) : Int)) /\ ((((mkH0 L 25).flatMap svC)[((0 + Int.toNat ((x11 : Int) - 1) * 5) + 0)]? = some (nI ((mkH0 L 25).getD ((x11 : Int) - 1).toNat zeroV).rq)) /\ (((0 : Int) <= (x11 : Int) /\ ((x11 : Int) : Int) < (((mkH0 L 25).length : Nat) : Int)) /\ ((((mkH0 L 25).flatMap svC)[((0 + Int.toNat (x11 : Int) * 5) + 0)]? = some (nI ((mkH0 L 25).getD x11 zeroV).rq)) /\ (∃ y12 : Int,(nI ((mkH0 L 25).getD ((x11 : Int) - 1).toNat zeroV).rq : Value) = nI y12 /\ (((decide ((y12 : Int) < 0)) = true -> jth = sp) /\ ((decide ((y12 : Int) < 0)) = false -> (((decide (((jt8 L) : Int) <= y12)) = true -> jth = sp) /\ ((decide (((jt8 L) : Int) <= y12)) = false -> (((decide ((((mkH0 L 25).getD x11 zeroV).rq : Int) < 0)) = true -> jth = sp) /\ ((decide ((((mkH0 L 25).getD x11 zeroV).rq : Int) < 0)) = false -> (((decide (((jt8 L) : Int) <= ((mkH0 L 25).getD x11 zeroV).rq)) = true -> jth = sp) /\ ((decide (((jt8 L) : Int) <= ((mkH0 L 25).getD x11 zeroV).rq)) = false -> (((0 : Int) <= y12 /\ (y12 : Int) < (jt8 L)) /\ ((((mkQ L 25).flatMap rqC)[((0 + Int.toNat y12 * 7) + 1)]? = some (nI ((mkQ L 25).getD y12.toNat zeroQ).at_)) /\ (((0 : Int) <= ((mkH0 L 25).getD x11 zeroV).rq /\ (((mkH0 L 25).getD x11 zeroV).rq : Int) < (jt8 L)) /\ ((((mkQ L 25).flatMap rqC)[((0 + Int.toNat ((mkH0 L 25).getD x11 zeroV).rq * 7) + 1)]? = some (nI ((mkQ L 25).getD (Int.toNat ((mkH0 L 25).getD x11 zeroV).rq) zeroQ).at_)) /\ (((decide ((((mkQ L 25).getD (Int.toNat ((mkH0 L 25).getD x11 zeroV).rq) zeroQ).at_ : Int) < ((mkQ L 25).getD y12.toNat zeroQ).at_)) = true -> jth = sp) /\ ((decide ((((mkQ L 25).getD (Int.toNat ((mkH0 L 25).getD x11 zeroV).rq) zeroQ).at_ : Int) < ((mkQ L 25).getD y12.toNat zeroQ).at_)) = false -> (((0 : Int) <= y12 /\ (y12 : Int) < (jt8 L)) /\ ((((mkQ L 25).flatMap rqC)[((0 + Int.toNat y12 * 7) + 1)]? = some (nI ((mkQ L 25).getD y12.toNat zeroQ).at_)) /\ (((0 : Int) <= ((mkH0 L 25).getD x11 zeroV).rq /\ (((mkH0 L 25).getD x11 zeroV).rq : Int) < (jt8 L)) /\ ((((mkQ L 25).flatMap rqC)[((0 + Int.toNat ((mkH0 L 25).getD x11 zeroV).rq * 7) + 1)]? = some (nI ((mkQ L 25).getD (Int.toNat ((mkH0 L 25).getD x11 zeroV).rq) zeroQ).at_)) /\ ((((((mkQ L 25).getD y12.toNat zeroQ).at_ : Int) == ((mkQ L 25).getD (Int.toNat ((mkH0 L 25).getD x11 zeroV).rq) zeroQ).at_) = true -> (((0 : Int) <= y12 /\ (y12 : Int) < (jt8 L)) /\ ((((mkQ L 25).flatMap rqC)[((0 + Int.toNat y12 * 7) + 0)]? = some (nI ((mkQ L 25).getD y12.toNat zeroQ).id)) /\ (((0 : Int) <= ((mkH0 L 25).getD x11 zeroV).rq /\ (((mkH0 L 25).getD x11 zeroV).rq : Int) < (jt8 L)) /\ ((((mkQ L 25).flatMap rqC)[((0 + Int.toNat ((mkH0 L 25).getD x11 zeroV).rq * 7) + 0)]? = some (nI ((mkQ L 25).getD (Int.toNat ((mkH0 L 25).getD x11 zeroV).rq) zeroQ).id)) /\ (((decide ((((mkQ L 25).getD (Int.toNat ((mkH0 L 25).getD x11 zeroV).rq) zeroQ).id : Int) < ((mkQ L 25).getD y12.toNat zeroQ).id)) = true -> jth = sp) /\ ((decide ((((mkQ L 25).getD (Int.toNat ((mkH0 L 25).getD x11 zeroV).rq) zeroQ).id : Int) < ((mkQ L 25).getD y12.toNat zeroQ).id)) = false -> ((nI (IntKind.wrap .i64 ((x11 : Int) + 1)) : Value) = nI ((x11 : Int) + 1) /\ (∃ x11' : Nat,(1 <= x11' /\ x11' <= List.length (mkH0 L 25)) /\ (List.length (mkH0 L 25) - x11') < (List.length (mkH0 L 25) - x11) /\ true = true /\ ((nI ((x11 : Int) + 1) : Value) = nI (x11' : Int) /\ wkR (slQ 4 1 (mkQ L 25).length) /\ wkR (slQ 10 2 (mkH0 L 25).length) /\ True) /\ ((keptR 11 (.cells true 0 [slQ 1 1 (jtl L),slQ 2 1 (jtm L)])) /\ (keptR 11 (.cells true 0 [nI 0,nI (mkP L 25).warn,nI (mkP L 25).w0,nI (mkP L 25).w1,nI (mkP L 25).w2])) /\ True) /\ (True) /\ (True)))))))))) /\ (((((mkQ L 25).getD y12.toNat zeroQ).at_ : Int) == ((mkQ L 25).getD (Int.toNat ((mkH0 L 25).getD x11 zeroV).rq) zeroQ).at_) = false -> ((nI (IntKind.wrap .i64 ((x11 : Int) + 1)) : Value) = nI ((x11 : Int) + 1) /\ (∃ x11' : Nat,(1 <= x11' /\ x11' <= List.length (mkH0 L 25)) /\ (List.length (mkH0 L 25) - x11') < (List.length (mkH0 L 25) - x11) /\ true = true /\ ((nI ((x11 : Int) + 1) : Value) = nI (x11' : Int) /\ wkR (slQ 4 1 (mkQ L 25).length) /\ wkR (slQ 10 2 (mkH0 L 25).length) /\ True) /\ ((keptR 11 (.cells true 0 [slQ 1 1 (jtl L),slQ 2 1 (jtm L)])) /\ (keptR 11 (.cells true 0 [nI 0,nI (mkP L 25).warn,nI (mkP L 25).w0,nI (mkP L 25).w1,nI (mkP L 25).w2])) /\ True) /\ (True) /\ (True)))))))))))))))))))))))))))))) /\ ((decide (((x11 : Int) : Int) < (((mkH0 L 25).length : Nat) : Int))) = false -> ((True) /\ (∀ H' : Heap,H'.length = 11 -> (True) -> KCall prog 14 [] H' [] (Is (.bool true) H')) /\ (.bool true : Value) = sp))))))
def RFairLaw (sp : Value) (L : List Int) (x y : Int) : Prop :=
 (((someR (.cells true 0 [.iface (L.length + 1) (jt5 L),nI 0])) /\ True) /\ (∀ H' : Heap,H'.length = 1 -> (H'[0]? = some (.cells true 0 [.iface (L.length + 1) (jt5 L),nI 0] : KObj) /\ True) -> KCall prog 26 [.pointer (some ⟨0,0,none⟩),nI 3] H' [0] (Is (.agg #[slQ 1 1 (jtl L),slQ 2 1 (jtm L)]) ((List.set H' 0 (.cells true 0 (jtg L) : KObj)) ++ [(jtp L),(jts L)]))) /\ (((someR (.cells true 0 (jtg L))) /\ (someR (.cells true 1 (inL (mkF L).t))) /\ (someR (.cells true 1 (jt7 L))) /\ True) /\ (∀ H' : Heap,H'.length = 4 -> (H'[0]? = some (.cells true 0 (jtg L) : KObj) /\ H'[1]? = some (jtp L) /\ H'[2]? = some (jts L) /\ True) -> KCall prog 27 [.pointer (some ⟨0,0,none⟩),.agg #[slQ 1 1 (jtl L),slQ 2 1 (jtm L)],nI 25] H' [0] (Is (slQ 4 1 (mkQ L 25).length) ((List.set H' 0 (.cells true 0 (jte L) : KObj)) ++ [(jtq L)]))) /\ (((someR (.cells true 0 (jte L))) /\ True) /\ (∀ H' : Heap,H'.length = 5 -> (H'[0]? = some (.cells true 0 (jte L) : KObj) /\ True) -> KCall prog 28 [.pointer (some ⟨0,0,none⟩)] H' [0] (Is (jto L) (List.set H' 0 (.cells true 0 (jtk L) : KObj)))) /\ (((someR (.cells true 1 (inL (mkF L).t))) /\ (someR (.cells true 1 (jt7 L))) /\ (someR (.cells true 7 ((mkQ L 25).flatMap rqC))) /\ True) /\ (∀ H' : Heap,H'.length = 6 -> (H'[1]? = some (jtp L) /\ H'[2]? = some (jts L) /\ H'[4]? = some (jtq L) /\ True) -> KCall prog 29 [.agg #[slQ 1 1 (jtl L),slQ 2 1 (jtm L)],.agg #[nI (mkP L 25).ov,nI (mkP L 25).warn,nI (mkP L 25).w0,nI (mkP L 25).w1,nI (mkP L 25).w2],slQ 4 1 (mkQ L 25).length] H' [] (Is (.tuple #[slQ 6 2 (mkH L 25).length,nI 0]) (H' ++ [(.cells true 5 ((mkH L 25).flatMap svC) : KObj)]))) /\ ((jtd L) /\ (∀ H' : Heap,H'.length = 7 -> (jtc H' L) -> KCall prog 41 [.agg #[slQ 1 1 (jtl L),slQ 2 1 (jtm L)],slQ 4 1 (mkQ L 25).length,slQ 6 2 (mkH L 25).length] H' [] (Is (.tuple #[slQ 7 2 (mkO L 25).length,nI 0]) (H' ++ [(.cells true 1 ((mkO L 25).flatMap intC) : KObj)]))) /\ ((jtd L) /\ (∀ H' : Heap,H'.length = 8 -> (jtc H' L) -> KCall prog 35 [.agg #[slQ 1 1 (jtl L),slQ 2 1 (jtm L)],.agg #[nI (mkP L 25).ov,nI (mkP L 25).warn,nI (mkP L 25).w0,nI (mkP L 25).w1,nI (mkP L 25).w2],slQ 4 1 (mkQ L 25).length,slQ 6 2 (mkH L 25).length] H' [] (Is (.tuple #[nI (jtj L),nI 0]) H')) /\ (((((((mkH L 25).length : Nat) : Int) : Int) != (jt8 L)) = true -> jth = sp) /\ ((((((mkH L 25).length : Nat) : Int) : Int) != (jt8 L)) = false -> (((((jti L) : Int) != (jt8 L)) = true -> jth = sp) /\ ((((jti L) : Int) != (jt8 L)) = false -> (((((jtj L) : Int) != (jt8 L)) = true -> jth = sp) /\ ((((jtj L) : Int) != (jt8 L)) = false -> (true = true /\ (0 <= List.length (mkO L 25)) /\ (true = true /\ ((nI 0 : Value) = nI ((0 : Nat) : Int) /\ jt4 y x L) /\ jt6 L) /\ (∀ x6 : Nat,true = true) /\ ∀ x6 : Nat,(x6 <= List.length (mkO L 25)) -> (((decide (((x6 : Int) : Int) < (jti L))) = true -> (((0 : Int) <= (x6 : Int) /\ ((x6 : Int) : Int) < (jti L)) /\ ((jtr L x6) /\ (((decide ((((mkO L 25).getD x6 0) : Int) < 0)) = true -> jth = sp) /\ ((decide ((((mkO L 25).getD x6 0) : Int) < 0)) = false -> (((0 : Int) <= (x6 : Int) /\ ((x6 : Int) : Int) < (jti L)) /\ ((jtr L x6) /\ (((decide (((mkP L 25).ov : Int) < ((mkO L 25).getD x6 0))) = true -> jth = sp) /\ ((decide (((mkP L 25).ov : Int) < ((mkO L 25).getD x6 0))) = false -> ((nI (IntKind.wrap .i64 ((x6 : Int) + 1)) : Value) = nI ((x6 : Int) + 1) /\ (∃ x6' : Nat,(x6' <= List.length (mkO L 25)) /\ (List.length (mkO L 25) - x6') < (List.length (mkO L 25) - x6) /\ true = true /\ ((nI ((x6 : Int) + 1) : Value) = nI (x6' : Int) /\ jt4 y x L) /\ jt6 L))))))))))) /\ ((decide (((x6 : Int) : Int) < (jti L))) = false -> (((((jt8 L) : Int) == 0) = true -> ((True) /\ (∀ H' : Heap,H'.length = 8 -> (True) -> KCall prog 14 [] H' [] (Is (.bool true) H')) /\ (.bool true : Value) = sp)) /\ ((((jt8 L) : Int) == 0) = false -> ((True) /\ (∀ H' : Heap,H'.length = 8 -> (True) -> KCall prog 21 [nI x,nI (jt8 L)] H' [] (Is (nI (mkI L 25 x)) H')) /\ ((True) /\ (∀ H' : Heap,H'.length = 8 -> (True) -> KCall prog 21 [nI y,nI (jt8 L)] H' [] (Is (nI (mkI L 25 y)) H')) /\ (((mkH L 25).length = 0 -> (((0 + (mkH L 25).length) * 40 <= 2 ^ 44 /\ (mkH L 25).length = 0) /\ (((0 : Int) <= (mkI L 25 y) /\ ((mkI L 25 y) : Int) < ((0 : Nat) : Int)) /\ False))) /\ (¬ ((mkH L 25).length = 0) -> (((0 + (mkH L 25).length) * 40 <= 2 ^ 44 /\ (mkH L 25).length ≠ 0 /\ (0 <= 0 /\ 0 + 0 * 5 <= List.length ([] : List Value)) /\ ((mkH L 25).length <= (mkH L 25).length /\ 0 + (mkH L 25).length * 5 <= List.length ((mkH L 25).flatMap svC)) /\ (((((mkH L 25).flatMap svC).drop 0).take ((mkH L 25).length * 5)) : List Value).all (fun v => one1 v) = true) /\ true = true /\ ((some (.cells true 5 (((([] : List Value).drop 0).take (0 * 5)) ++ ((((mkH L 25).flatMap svC).drop 0).take ((mkH L 25).length * 5))) : KObj) = some (.cells true 5 ((mkH L 25).flatMap svC) : KObj)) /\ (((0 : Int) <= (mkI L 25 y) /\ ((mkI L 25 y) : Int) < (jtn L)) /\ ((partA 5 ((mkH L 25).flatMap svC) (0 + Int.toNat (mkI L 25 y) * 5) = some (jta L y)) /\ (((0 : Int) <= (mkI L 25 x) /\ ((mkI L 25 x) : Int) < (jtn L)) /\ ((partA 5 ((mkH L 25).flatMap svC) (0 + Int.toNat (mkI L 25 x) * 5) = some (jtb L x)) /\ (((0 : Int) <= (mkI L 25 x) /\ ((mkI L 25 x) : Int) < (jtn L)) /\ (((0 + Int.toNat (mkI L 25 x) * 5) + 5 <= List.length ((mkH L 25).flatMap svC)) /\ true = true /\ (((0 : Int) <= (mkI L 25 y) /\ ((mkI L 25 y) : Int) < (jtn L)) /\ (((0 + Int.toNat (mkI L 25 y) * 5) + 5 <= List.length (jt9 L x y)) /\ true = true /\ ((some (.cells true 5 (setl (jt9 L x y) (0 + Int.toNat (mkI L 25 y) * 5) [nI ((mkH L 25).getD (mkI L 25 x).toNat zeroV).rq,nI ((mkH L 25).getD (mkI L 25 x).toNat zeroV).br,nI ((mkH L 25).getD (mkI L 25 x).toNat zeroV).tk,nI ((mkH L 25).getD (mkI L 25 x).toNat zeroV).bg,nI ((mkH L 25).getD (mkI L 25 x).toNat zeroV).nd]) : KObj) = some (.cells true 5 ((mkX L 25 x y).flatMap svC) : KObj)) /\ (((someR (.cells true 1 (inL (mkF L).t))) /\ (someR (.cells true 1 (jt7 L))) /\ (someR (.cells true 7 ((mkQ L 25).flatMap rqC))) /\ (someR (.cells true 5 ((mkX L 25 x y).flatMap svC))) /\ True) /\ (∀ H' : Heap,H'.length = 10 -> (H'[1]? = some (jtp L) /\ H'[2]? = some (jts L) /\ H'[4]? = some (jtq L) /\ H'[9]? = some (.cells true 5 ((mkX L 25 x y).flatMap svC) : KObj) /\ True) -> KCall prog 35 [.agg #[slQ 1 1 (jtl L),slQ 2 1 (jtm L)],.agg #[nI (mkP L 25).ov,nI (mkP L 25).warn,nI (mkP L 25).w0,nI (mkP L 25).w1,nI (mkP L 25).w2],slQ 4 1 (mkQ L 25).length,.slice (some ⟨9,0,none⟩) (0 + (mkH L 25).length) (0 + (mkH L 25).length)] H' [] (Is (.tuple #[nI (mkK L 25 x y),nI 0]) H')) /\ (((((mkI L 25 x) : Int) != (mkI L 25 y)) = true -> (∃ y10 : Int,(nI (if ((mkI L 25 y) : Int) < (mkI L 25 x) then ((mkI L 25 y) : Int) else (mkI L 25 x)) : Value) = nI y10 /\ (((((mkK L 25 x y) : Int) != y10) = true -> jth = sp) /\ ((((mkK L 25 x y) : Int) != y10) = false -> (((((mkI L 25 x) : Int) == (mkI L 25 y)) = true -> (((((mkK L 25 x y) : Int) != (jt8 L)) = true -> jth = sp) /\ ((((mkK L 25 x y) : Int) != (jt8 L)) = false -> (jt0 L sp)))) /\ ((((mkI L 25 x) : Int) == (mkI L 25 y)) = false -> (jt0 L sp))))))) /\ ((((mkI L 25 x) : Int) != (mkI L 25 y)) = false -> (((((mkI L 25 x) : Int) == (mkI L 25 y)) = true -> (((((mkK L 25 x y) : Int) != (jt8 L)) = true -> jth = sp) /\ ((((mkK L 25 x y) : Int) != (jt8 L)) = false -> (jt1 L sp)))) /\ ((((mkI L 25 x) : Int) == (mkI L 25 y)) = false -> (jt1 L sp))))))))))))))))))))))))))))))))))))))
abbrev jtf (L : List Int) : List (Nat × KObj):=[(1,.cells true 1 (inL (mkF L).t)),(2,.cells true 1 (jt7 L)),(4,.cells true 7 ((mkQ L 25).flatMap rqC)),(6,.cells true 5 ((mkH L 25).flatMap svC))]
abbrev jt2 (L : List Int) : Hint:=.ans [(1,.cells true 1 (inL (mkF L).t)),(2,.cells true 1 (jt7 L)),(4,.cells true 7 ((mkQ L 25).flatMap rqC))] (.tuple #[slQ 10 2 (mkH0 L 25).length,nI 0]) [.cells true 5 ((mkH0 L 25).flatMap svC)] (.go 13 (.fork (.auto) (.go 0 (.inv 3 (Nat) (1) [] [3,5] (fun x12 => [(21,nI (x12 : Int)),(9,slQ 4 1 (mkQ L 25).length),(11,slQ 10 2 (mkH0 L 25).length)]) (fun x12 => [(3,true,.cells true 0 [slQ 1 1 (jtl L),slQ 2 1 (jtm L)]),(5,true,.cells true 0 [nI 0,nI (mkP L 25).warn,nI (mkP L 25).w0,nI (mkP L 25).w1,nI (mkP L 25).w2])]) (fun x12 => []) (fun x12 => []) (fun x12 => (1 <= x12 /\ x12 <= List.length (mkH0 L 25))) (fun x12 => (List.length (mkH0 L 25) - x12)) (fun x12 => .go 3 (.fork (.go 2 (.slot 193 (nI ((x12 : Int) - 1)) (.need (.go 0 (.val (nI ((mkH0 L 25).getD ((x12 : Int) - 1).toNat zeroV).rq) (.go 1 (.need (.go 0 (.val (nI ((mkH0 L 25).getD x12 zeroV).rq) (.go 0 (.bind Int (fun y13 => .slot 22 (nI y13) (.go 3 (.gfork (.auto) (.go 5 (.gfork (.auto) (.go 3 (.gfork (.auto) (.go 5 (.gfork (.auto) (.go 1 (.need (.go 0 (.val (nI ((mkQ L 25).getD y13.toNat zeroQ).at_) (.go 1 (.need (.go 0 (.val (nI ((mkQ L 25).getD (Int.toNat ((mkH0 L 25).getD x12 zeroV).rq) zeroQ).at_) (.go 2 (.gfork (.auto) (.go 1 (.need (.go 0 (.val (nI ((mkQ L 25).getD y13.toNat zeroQ).at_) (.go 1 (.need (.go 0 (.val (nI ((mkQ L 25).getD (Int.toNat ((mkH0 L 25).getD x12 zeroV).rq) zeroQ).at_) (.go 1 (.gfork (.go 1 (.need (.go 0 (.val (nI ((mkQ L 25).getD y13.toNat zeroQ).id) (.go 1 (.need (.go 0 (.val (nI ((mkQ L 25).getD (Int.toNat ((mkH0 L 25).getD x12 zeroV).rq) zeroQ).id) (.go 2 (.fork (.auto) (.go 1 (.slot 190 (nI ((x12 : Int) + 1)) (.go 0 (.again [])))))))))))))) (.go 4 (.slot 190 (nI ((x12 : Int) + 1)) (.go 0 (.again [])))))))))))))))))))))))))))))))))))))))))))) (.ans [] (.bool true) [] (.auto))))))))
abbrev jt3 (L : List Int) : Hint:=.ans [(1,.cells true 1 (inL (mkF L).t)),(2,.cells true 1 (jt7 L)),(4,.cells true 7 ((mkQ L 25).flatMap rqC))] (.tuple #[slQ 10 2 (mkH0 L 25).length,nI 0]) [.cells true 5 ((mkH0 L 25).flatMap svC)] (.go 13 (.fork (.auto) (.go 0 (.inv 3 (Nat) (1) [] [3,5] (fun x11 => [(21,nI (x11 : Int)),(9,slQ 4 1 (mkQ L 25).length),(11,slQ 10 2 (mkH0 L 25).length)]) (fun x11 => [(3,true,.cells true 0 [slQ 1 1 (jtl L),slQ 2 1 (jtm L)]),(5,true,.cells true 0 [nI 0,nI (mkP L 25).warn,nI (mkP L 25).w0,nI (mkP L 25).w1,nI (mkP L 25).w2])]) (fun x11 => []) (fun x11 => []) (fun x11 => (1 <= x11 /\ x11 <= List.length (mkH0 L 25))) (fun x11 => (List.length (mkH0 L 25) - x11)) (fun x11 => .go 3 (.fork (.go 2 (.slot 193 (nI ((x11 : Int) - 1)) (.need (.go 0 (.val (nI ((mkH0 L 25).getD ((x11 : Int) - 1).toNat zeroV).rq) (.go 1 (.need (.go 0 (.val (nI ((mkH0 L 25).getD x11 zeroV).rq) (.go 0 (.bind Int (fun y12 => .slot 22 (nI y12) (.go 3 (.gfork (.auto) (.go 5 (.gfork (.auto) (.go 3 (.gfork (.auto) (.go 5 (.gfork (.auto) (.go 1 (.need (.go 0 (.val (nI ((mkQ L 25).getD y12.toNat zeroQ).at_) (.go 1 (.need (.go 0 (.val (nI ((mkQ L 25).getD (Int.toNat ((mkH0 L 25).getD x11 zeroV).rq) zeroQ).at_) (.go 2 (.gfork (.auto) (.go 1 (.need (.go 0 (.val (nI ((mkQ L 25).getD y12.toNat zeroQ).at_) (.go 1 (.need (.go 0 (.val (nI ((mkQ L 25).getD (Int.toNat ((mkH0 L 25).getD x11 zeroV).rq) zeroQ).at_) (.go 1 (.gfork (.go 1 (.need (.go 0 (.val (nI ((mkQ L 25).getD y12.toNat zeroQ).id) (.go 1 (.need (.go 0 (.val (nI ((mkQ L 25).getD (Int.toNat ((mkH0 L 25).getD x11 zeroV).rq) zeroQ).id) (.go 2 (.fork (.auto) (.go 1 (.slot 190 (nI ((x11 : Int) + 1)) (.go 0 (.again [])))))))))))))) (.go 4 (.slot 190 (nI ((x11 : Int) + 1)) (.go 0 (.again [])))))))))))))))))))))))))))))))))))))))))))) (.ans [] (.bool true) [] (.auto))))))))
theorem EFairLaw (sp : Value) (L : List Int) (x y : Int) : vF prog msk (dm 0) 100000 true 40 true 8 [.iface (L.length + 1) (jt5 L),nI x,nI y] ⟨0,.leaf⟩ (some [])
 (.go 5 (.answ [(0,.cells true 0 [.iface (L.length + 1) (jt5 L),nI 0])] (.agg #[slQ 1 1 (jtl L),slQ 2 1 (jtm L)]) [(0,.cells true 0 (jtg L))] [.cells true 1 (inL (mkF L).t),.cells true 1 (jt7 L)] (.go 3 (.answ [(0,.cells true 0 (jtg L)),(1,.cells true 1 (inL (mkF L).t)),(2,.cells true 1 (jt7 L))] (slQ 4 1 (mkQ L 25).length) [(0,.cells true 0 (jte L))] [.cells true 7 ((mkQ L 25).flatMap rqC)] (.go 0 (.answ [(0,.cells true 0 (jte L))] (jto L) [(0,.cells true 0 (jtk L))] [] (.go 5 (.ans [(1,.cells true 1 (inL (mkF L).t)),(2,.cells true 1 (jt7 L)),(4,.cells true 7 ((mkQ L 25).flatMap rqC))] (.tuple #[slQ 6 2 (mkH L 25).length,nI 0]) [.cells true 5 ((mkH L 25).flatMap svC)] (.go 7 (.ans (jtf L) (.tuple #[slQ 7 2 (mkO L 25).length,nI 0]) [.cells true 1 ((mkO L 25).flatMap intC)] (.go 8 (.ans (jtf L) (.tuple #[nI (jtj L),nI 0]) [] (.go 22 (.gfork (.auto) (.go 6 (.gfork (.auto) (.go 4 (.fork (.auto) (.go 0 (.inv 3 (Nat) (0) [] [0,3,5] (fun x6 => [(17,nI (x6 : Int)),(2,nI y),(1,nI x),(8,.pointer (some ⟨3,0,none⟩)),(10,.pointer (some ⟨5,0,none⟩)),(9,slQ 4 1 (mkQ L 25).length),(11,slQ 6 2 (mkH L 25).length),(12,nI 0),(13,slQ 7 2 (mkO L 25).length),(15,nI (jtj L))]) (fun x6 => [(0,true,.cells true 0 (jtk L)),(3,true,.cells true 0 [slQ 1 1 (jtl L),slQ 2 1 (jtm L)]),(5,true,.cells true 0 [nI (mkP L 25).ov,nI (mkP L 25).warn,nI (mkP L 25).w0,nI (mkP L 25).w1,nI (mkP L 25).w2])]) (fun x6 => []) (fun x6 => []) (fun x6 => (x6 <= List.length (mkO L 25))) (fun x6 => (List.length (mkO L 25) - x6)) (fun x6 => .go 3 (.fork (.go 1 (.need (.val (nI ((mkO L 25).getD x6 0)) (.go 1 (.gfork (.auto) (.go 1 (.need (.val (nI ((mkO L 25).getD x6 0)) (.go 3 (.fork (.auto) (.go 1 (.slot 91 (nI ((x6 : Int) + 1)) (.go 0 (.again [])))))))))))))) (.go 2 (.fork (.ans [] (.bool true) [] (.auto)) (.go 2 (.ans [] (nI (mkI L 25 x)) [] (.go 2 (.ans [] (nI (mkI L 25 y)) [] (.go 3 (.cas ((mkH L 25).length = 0) (.val (.bool true) (.go 6 (.need (.auto)))) (.need (.obj 9 (.cells true 5 ((mkH L 25).flatMap svC)) (.go 6 (.need (.val (jta L y) (.go 1 (.need (.val (jtb L x) (.need (.need (.need (.need (.obj 9 (.cells true 5 ((mkX L 25 x y).flatMap svC)) (.go 3 (.ans [(1,.cells true 1 (inL (mkF L).t)),(2,.cells true 1 (jt7 L)),(4,.cells true 7 ((mkQ L 25).flatMap rqC)),(9,.cells true 5 ((mkX L 25 x y).flatMap svC))] (.tuple #[nI (mkK L 25 x y),nI 0]) [] (.go 11 (.gfork (.go 3 (.bind Int (fun y10 => .slot 153 (nI y10) (.go 3 (.gfork (.auto) (.go 3 (.gfork (.go 5 (.fork (.auto) (.go 4 (jt2 L)))) (.go 7 (jt2 L))))))))) (.go 6 (.gfork (.go 5 (.fork (.auto) (.go 4 (jt3 L)))) (.go 7 (jt3 L)))))))))))))))))))))))))))))))))))))))))))))))))))
 (fun v _ _ => v = sp) = RFairLaw sp L x y:=by kernel_rfl
end
end Go.Proofs.YthdekmpkioikdaaGreat
/- Request: RequestFair. No condition. -/
namespace Go.Proofs.YthdekmpkioikdaaGreat
open Go Go.K
set_option maxRecDepth 100000
set_option linter.unusedVariables false
set_option linter.unusedSimpArgs false
noncomputable section
attribute [local irreducible] vF
theorem hm25 : (0 : Int) <= 25 /\ (25 : Int) <= 30 := by omega
theorem bef_no {a b : Rq} (h : befB b a = false) : a.at_ <= b.at_ /\ (a.at_ = b.at_ -> a.id <= b.id) := by
 have n : ¬ befB b a = true := by rw [h]; decide
 rw [bef_iff] at n
 constructor
 ·exact Int.not_lt.1 fun c => n (.inl c)
 ·intro e
  exact Int.not_lt.1 fun c => n (.inr ⟨e.symm, c⟩)
set_option maxHeartbeats 4000000 in
theorem fairEnd (L : List Int) (h0 : 0 < (mkQ L 25).length) : jt0 L (.bool true) := by
 delta jt0 jtl jtm jtp jt7 jts jtq jt8 jth
 have lq := mkQ_len L hm25.1
 have l0 := mkH0_len L hm25
 have g : GoodH (mkF L) (mkQ L 25) (mkH0 L 25) := (play_dec (p := mkP0 L 25) (mkF_ok L) (mkQ_ok L hm25).1).1
 refine ⟨⟨rfl, rfl, rfl, trivial⟩, fun H' hL hd => KCall.wkA (kRun0 L hm25 hd.1 hd.2.1 hd.2.2.1 hL) (wks_cons wk_fleet (wks_cons (wk_refl _) (wks_cons wk_QR wks_nil))), forkF (by rw [l0]; exact bne_self_eq_false _) ?_⟩
 refine ⟨rfl, ⟨Nat.le_refl _, by omega⟩, ?_, fun _ => rfl, ?_⟩
 ·repeat' first | exact inL_b _ _ | exact plainIL _ _ | exact plainBL _ _ | exact plainRQ _ _ | exact plainSV _ _ | exact plainBR _ _ | exact digO _ _ _ | exact wk_QR | exact trivial | exact rfl | exact wk_refl _ | refine wkO_cells ?_ | refine wks_cons ?_ ?_ | exact wks_nil | exact wk_nil _ _ _ (.inl rfl) | (exact wk_Q (by omega)) | refine wk_tupL ?_ | refine wk_aggL ?_ | refine joinMax ?_ ?_ ?_ | refine joinMin ?_ ?_ ?_ | refine toMax ?_ | refine toMin ?_ | refine ⟨rfl, ?_⟩ | refine ⟨trivial, ?_⟩ | (refine forkD (fun h => ?_) (fun h => ?_)) | (refine forkNe (fun h => ?_) (fun h => ?_)) | (refine forkEq (fun h => ?_) (fun h => ?_)) | refine forkNot ?_ | (refine ⟨vI64 (by omega), ?_⟩) | (refine And.intro (by omega) ?_) | apply And.intro | (exact iEq (by omega)) | (exact vI64 (by omega))
 intro x ⟨hx1, hx2⟩
 refine forkD (fun hx => ?_) (fun _ => ⟨trivial, fun H' _ _ => kAwake H', rfl⟩)
 have hx3 : x < (mkH0 L 25).length := by omega
 have hx4 : x - 1 < (mkH0 L 25).length := by omega
 have en : Int.toNat ((x : Int) - 1) = x - 1 := by omega
 have ga : 0 <= ((mkH0 L 25).getD (x - 1) zeroV).rq /\ ((mkH0 L 25).getD (x - 1) zeroV).rq < ((mkQ L 25).length : Int) := g.rq (x - 1) hx4
 have gb : 0 <= ((mkH0 L 25).getD x zeroV).rq /\ ((mkH0 L 25).getD x zeroV).rq < ((mkQ L 25).length : Int) := g.rq x hx3
 obtain ⟨a1, a2⟩ := ga
 obtain ⟨b1, b2⟩ := gb
 have or := in_order (p := mkP0 L 25) (mkF_ok L) (mkQ_ok L hm25).1 rfl (k := x - 1) (by show _ < (mkH0 L 25).length; omega)
 rw [show x - 1 + 1 = x by omega] at or
 obtain ⟨c1, c2⟩ := bef_no or
 have c1 : ((mkQ L 25).getD (Int.toNat ((mkH0 L 25).getD (x - 1) zeroV).rq) zeroQ).at_ <= ((mkQ L 25).getD (Int.toNat ((mkH0 L 25).getD x zeroV).rq) zeroQ).at_ := c1
 have c2 : ((mkQ L 25).getD (Int.toNat ((mkH0 L 25).getD (x - 1) zeroV).rq) zeroQ).at_ = ((mkQ L 25).getD (Int.toNat ((mkH0 L 25).getD x zeroV).rq) zeroQ).at_ -> ((mkQ L 25).getD (Int.toNat ((mkH0 L 25).getD (x - 1) zeroV).rq) zeroQ).id <= ((mkQ L 25).getD (Int.toNat ((mkH0 L 25).getD x zeroV).rq) zeroQ).id := c2
 have i1 : Int.toNat ((mkH0 L 25).getD (x - 1) zeroV).rq < (mkQ L 25).length := by omega
 have i2 : Int.toNat ((mkH0 L 25).getD x zeroV).rq < (mkQ L 25).length := by omega
 refine ⟨vI64 (by omega), by omega, ?_, by omega, cell_at (n := 5) (d := zeroV) (c := 0) svC_len hx3 (by omega) rfl, ((mkH0 L 25).getD (x - 1) zeroV).rq, by rw [en], ?_⟩
 ·rw [en]; exact cell_at (n := 5) (d := zeroV) (c := 0) svC_len hx4 (by omega) rfl
 refine forkD (fun q => absurd q (Int.not_lt.2 a1)) (fun _ => forkD (fun q => absurd q (Int.not_le.2 a2)) (fun _ => forkD (fun q => absurd q (Int.not_lt.2 b1)) (fun _ => forkD (fun q => absurd q (Int.not_le.2 b2)) (fun _ => ?_))))
 refine ⟨⟨a1, a2⟩, atAt i1 (by omega), ⟨b1, b2⟩, atAt i2 (by omega), forkD (fun q => absurd q (Int.not_lt.2 c1)) (fun _ => ?_)⟩
 refine ⟨⟨a1, a2⟩, atAt i1 (by omega), ⟨b1, b2⟩, atAt i2 (by omega), forkB (fun q => ?_) (fun _ => ?_)⟩
 ·refine ⟨⟨a1, a2⟩, idAt i1 (by omega), ⟨b1, b2⟩, idAt i2 (by omega), forkD (fun w => absurd w (Int.not_lt.2 (c2 (eq_of_beq q)))) (fun _ => ?_)⟩
  refine ⟨vI64 (by omega), x + 1, by omega, by omega, ?_⟩
  repeat' first | exact inL_b _ _ | exact plainIL _ _ | exact plainBL _ _ | exact plainRQ _ _ | exact plainSV _ _ | exact plainBR _ _ | exact digO _ _ _ | exact wk_QR | exact trivial | exact rfl | exact wk_refl _ | refine wkO_cells ?_ | refine wks_cons ?_ ?_ | exact wks_nil | exact wk_nil _ _ _ (.inl rfl) | (exact wk_Q (by omega)) | refine wk_tupL ?_ | refine wk_aggL ?_ | refine joinMax ?_ ?_ ?_ | refine joinMin ?_ ?_ ?_ | refine toMax ?_ | refine toMin ?_ | refine ⟨rfl, ?_⟩ | refine ⟨trivial, ?_⟩ | (refine forkD (fun h => ?_) (fun h => ?_)) | (refine forkNe (fun h => ?_) (fun h => ?_)) | (refine forkEq (fun h => ?_) (fun h => ?_)) | refine forkNot ?_ | (refine ⟨vI64 (by omega), ?_⟩) | (refine And.intro (by omega) ?_) | apply And.intro | (exact iEq (by omega)) | (exact vI64 (by omega))
 ·refine ⟨vI64 (by omega), x + 1, by omega, by omega, ?_⟩
  repeat' first | exact inL_b _ _ | exact plainIL _ _ | exact plainBL _ _ | exact plainRQ _ _ | exact plainSV _ _ | exact plainBR _ _ | exact digO _ _ _ | exact wk_QR | exact trivial | exact rfl | exact wk_refl _ | refine wkO_cells ?_ | refine wks_cons ?_ ?_ | exact wks_nil | exact wk_nil _ _ _ (.inl rfl) | (exact wk_Q (by omega)) | refine wk_tupL ?_ | refine wk_aggL ?_ | refine joinMax ?_ ?_ ?_ | refine joinMin ?_ ?_ ?_ | refine toMax ?_ | refine toMin ?_ | refine ⟨rfl, ?_⟩ | refine ⟨trivial, ?_⟩ | (refine forkD (fun h => ?_) (fun h => ?_)) | (refine forkNe (fun h => ?_) (fun h => ?_)) | (refine forkEq (fun h => ?_) (fun h => ?_)) | refine forkNot ?_ | (refine ⟨vI64 (by omega), ?_⟩) | (refine And.intro (by omega) ?_) | apply And.intro | (exact iEq (by omega)) | (exact vI64 (by omega))
set_option maxHeartbeats 4000000 in
theorem kFairLaw (L : List Int) (x y : Int) (H : Heap) : KCall prog 8 [.iface (L.length + 1) (.agg ⟨L.flatMap intC⟩), .int .i64 x, .int .i64 y] H [] (Is (.bool true) H) := by
 refine valK 40 (fun σ => deepI_rn σ L [.int .i64 x, .int .i64 y] rfl) rfl (Eq.mpr (EFairLaw (.bool true) L x y) ?_) H
 delta RFairLaw jt5 jtl jtm jtg jtp jt7 jts jte jtq jto jtk jtd jtc jtj jt8 jth jti jt4 jt6 jtr jtn jta jtb jt9 jt0 jt1
 have hm := hm25
 have lq := mkQ_len L hm.1
 have lh := mkH_len L hm
 have lo := mkO_len L 25
 have ov := fun i => ov_play (p := mkP L 25) (mkF_ok L) (mkQ_ok L hm).1 (by
  have := dN_bd L (mkB L 25) (m := 6) (by omega); exact this.1) i
 refine ⟨⟨rfl, trivial⟩, fun H' hL hd => kShipsM L hL hd.1, ?_⟩
 refine ⟨⟨rfl, rfl, rfl, trivial⟩, fun H' hL hd => KCall.wkA (kAsksM L hm hL hd.1 hd.2.1 hd.2.2.1 (by decide) (by decide)) (wks_cons (wk_refl _) (wks_cons wk_fleet (wks_cons (wk_refl _) wks_nil))), ?_⟩
 refine ⟨⟨rfl, trivial⟩, fun H' hL hd => kRuleM L hm hd.1, ?_⟩
 refine ⟨⟨rfl, rfl, rfl, trivial⟩, fun H' hL hd => KCall.wkA (kRunM L hm hL hd.1 hd.2.1 hd.2.2.1) (wks_cons wk_fleet (wks_cons (wk_refl _) (wks_cons wk_QR wks_nil))), ?_⟩
 refine ⟨⟨rfl, rfl, rfl, rfl, trivial⟩, fun H' hL hd => KCall.wkA (kOverM L hm hd.1 hd.2.1 hd.2.2.1 hL hd.2.2.2.1) (wks_cons wk_fleet (wks_cons wk_QR (wks_cons (wk_refl _) wks_nil))), ?_⟩
 refine ⟨⟨rfl, rfl, rfl, rfl, trivial⟩, fun H' hL hd => KCall.wkA (kAudM L hm hd.1 hd.2.1 hd.2.2.1 hd.2.2.2.1) (wks_cons wk_fleet (wks_cons (wk_refl _) (wks_cons wk_QR (wks_cons (wk_refl _) wks_nil)))), ?_⟩
 refine forkF (by rw [lh]; exact bne_self_eq_false _) (forkF (by rw [lo]; exact bne_self_eq_false _) (forkF (bne_self_eq_false _) ?_))
 refine ⟨rfl, Nat.zero_le _, ?_, fun _ => rfl, ?_⟩
 ·repeat' first | exact inL_b _ _ | exact plainIL _ _ | exact plainBL _ _ | exact plainRQ _ _ | exact plainSV _ _ | exact plainBR _ _ | exact digO _ _ _ | exact wk_QR | exact trivial | exact rfl | exact wk_refl _ | refine wkO_cells ?_ | refine wks_cons ?_ ?_ | exact wks_nil | exact wk_nil _ _ _ (.inl rfl) | (exact wk_Q (by omega)) | refine wk_tupL ?_ | refine wk_aggL ?_ | refine joinMax ?_ ?_ ?_ | refine joinMin ?_ ?_ ?_ | refine toMax ?_ | refine toMin ?_ | refine ⟨rfl, ?_⟩ | refine ⟨trivial, ?_⟩ | (refine forkD (fun h => ?_) (fun h => ?_)) | (refine forkNe (fun h => ?_) (fun h => ?_)) | (refine forkEq (fun h => ?_) (fun h => ?_)) | refine forkNot ?_ | (refine ⟨vI64 (by omega), ?_⟩) | (refine And.intro (by omega) ?_) | apply And.intro | (exact iEq (by omega)) | (exact vI64 (by omega))
 intro k hk
 refine forkD (fun hk2 => ?_) (fun _ => forkB (fun _ => ⟨trivial, fun H' _ _ => kAwake H', rfl⟩) (fun hq => ?_))
 ·have hk3 : k < (mkO L 25).length := by omega
  obtain ⟨v1, v2⟩ := ov k
  refine ⟨by omega, intAt hk3 (by omega), forkD (fun q => absurd q (Int.not_lt.2 v1)) (fun _ => ⟨by omega, intAt hk3 (by omega), forkD (fun q => absurd q (Int.not_lt.2 v2)) (fun _ => ⟨vI64 (by omega), k + 1, by omega, by omega, ?_⟩)⟩)⟩
  repeat' first | exact inL_b _ _ | exact plainIL _ _ | exact plainBL _ _ | exact plainRQ _ _ | exact plainSV _ _ | exact plainBR _ _ | exact digO _ _ _ | exact wk_QR | exact trivial | exact rfl | exact wk_refl _ | refine wkO_cells ?_ | refine wks_cons ?_ ?_ | exact wks_nil | exact wk_nil _ _ _ (.inl rfl) | (exact wk_Q (by omega)) | refine wk_tupL ?_ | refine wk_aggL ?_ | refine joinMax ?_ ?_ ?_ | refine joinMin ?_ ?_ ?_ | refine toMax ?_ | refine toMin ?_ | refine ⟨rfl, ?_⟩ | refine ⟨trivial, ?_⟩ | (refine forkD (fun h => ?_) (fun h => ?_)) | (refine forkNe (fun h => ?_) (fun h => ?_)) | (refine forkEq (fun h => ?_) (fun h => ?_)) | refine forkNot ?_ | (refine ⟨vI64 (by omega), ?_⟩) | (refine And.intro (by omega) ?_) | apply And.intro | (exact iEq (by omega)) | (exact vI64 (by omega))
 have h0 : 0 < (mkQ L 25).length := by
  have := beq_eq_false_iff_ne.1 hq
  omega
 have a1 := mkI_in L 25 x h0
 have a2 := mkI_in L 25 y h0
 have lx : (mkX L 25 x y).length = (mkH L 25).length := swpH_len _ _ _
 have ix : Int.toNat (mkI L 25 x) < (mkH L 25).length := by omega
 have iy : Int.toNat (mkI L 25 y) < (mkH L 25).length := by omega
 refine ⟨trivial, fun H' _ _ => kPick x _ (by omega) (by omega) H', trivial, fun H' _ _ => kPick y _ (by omega) (by omega) H', fun q => absurd q (by omega), fun q => ?_⟩
 refine ⟨⟨by omega, q, ⟨Nat.le_refl _, Nat.le_refl _⟩, ⟨Nat.le_refl _, flat_le svC_len _⟩, one1_take one1_V⟩, rfl, ?_⟩
 have e9 : List.take (0 * 5) (List.drop 0 ([] : List Value)) ++ List.take ((mkH L 25).length * 5) (List.drop 0 ((mkH L 25).flatMap svC)) = (mkH L 25).flatMap svC := by
  have : List.take ((mkH L 25).length * 5) ((mkH L 25).flatMap svC) = (mkH L 25).flatMap svC := List.take_of_length_le (by rw [flat_len svC_len]; exact Nat.le_refl _)
  exact this
 refine ⟨congrArg (fun c => some (KObj.cells true 5 c)) e9, ⟨a2.1, by omega⟩, partV iy (by omega), ⟨a1.1, by omega⟩, partV ix (by omega), ⟨a1.1, by omega⟩, ?_⟩
 have e10 : setl (setl ((mkH L 25).flatMap svC) (0 + Int.toNat (mkI L 25 x) * 5) (svC ((mkH L 25).getD (Int.toNat (mkI L 25 y)) zeroV))) (0 + Int.toNat (mkI L 25 y) * 5) (svC ((mkH L 25).getD (Int.toNat (mkI L 25 x)) zeroV)) = (mkX L 25 x y).flatMap svC := by
  rw [Nat.zero_add, Nat.zero_add, flat_set svC_len _ _ ix, flat_set svC_len _ _ (by rw [List.length_set]; exact iy)]; rfl
 have fl : ((mkH L 25).flatMap svC).length = (mkH L 25).length * 5 := flat_len svC_len _
 refine ⟨by omega, rfl, ⟨a2.1, by omega⟩, by rw [setl_length]; omega, rfl, congrArg (fun c => some (KObj.cells true 5 c)) e10, ⟨rfl, rfl, rfl, rfl, trivial⟩, fun H' hL hd => KCall.wkA (kAudX L hm hd.1 hd.2.1 hd.2.2.1 x y h0 hd.2.2.2.1) (wks_cons wk_fleet (wks_cons (wk_refl _) (wks_cons wk_QR (wks_cons (wk_RE (by omega)) wks_nil)))), ?_⟩
 have end_ := fairEnd L h0
 refine ⟨fun c => ⟨_, rfl, forkF ?_ (forkF ?_ end_)⟩, fun c => ⟨fun _ => forkF ?_ end_, fun d => ?_⟩⟩
 ·refine bne_eq_false_iff_eq.2 ?_
  have c := bne_iff_ne.1 c
  unfold mkK
  rw [if_neg c]
  split <;> omega
 ·exact beq_eq_false_iff_ne.2 (bne_iff_ne.1 c)
 ·have c := bne_eq_false_iff_eq.1 c
  refine bne_eq_false_iff_eq.2 ?_
  unfold mkK
  rw [if_pos c]
 ·exact absurd (bne_eq_false_iff_eq.1 c) (beq_eq_false_iff_ne.1 d)
end
end Go.Proofs.YthdekmpkioikdaaGreat
/- How laws' arguments are read. No condition. -/
namespace Go.Proofs.YthdekmpkioikdaaGreat
set_option linter.unusedSimpArgs false
open Go Go.K Go.ChangeShapes Go.WideShapes Go.ChangeAt Go.RowKit
set_option maxRecDepth 100000
set_option linter.unusedVariables false
noncomputable section
theorem own : ownKnob Tryz.prog.godebug = none := by kernel_rfl
theorem sized : slicesSized Tryz.prog = true := by kernel_rfl
abbrev known (t : TypeId) : Prop := t < Tryz.prog.types.size
theorem kids : Kids Tryz.prog known := kids_rows (by kernel_rfl) (by kernel_rfl)
end
end Go.Proofs.YthdekmpkioikdaaGreat
/- How laws' numbers are read. No condition. -/
namespace Go.Proofs.YthdekmpkioikdaaGreat
set_option linter.unusedSimpArgs false
open Go Go.K Go.ChangeShapes Go.WideShapes Go.ChangeAt Go.RowKit
set_option maxRecDepth 100000
set_option linter.unusedVariables false
noncomputable section
theorem goodAD_cons {n : Nat} {t : TypeId} {ts : List TypeId} {vs : List Value} (h : GoodAD Tryz.prog n (t :: ts) vs) : ∃ v vs', vs = v :: vs' /\ GoodVD Tryz.prog n t v /\ GoodAD Tryz.prog n ts vs' := by
 cases vs with
 | nil => exact h.elim
 | cons v vs => exact ⟨v, vs, rfl, h.1, h.2⟩
theorem goodAD_nil {n : Nat} {vs : List Value} (h : GoodAD Tryz.prog n [] vs) : vs = [] := by
 cases vs with
 | nil => rfl
 | cons v vs => exact h.elim
theorem goodD_i64 {n : Nat} {c : List Value} (h : GoodD Tryz.prog (n + 1) 3 c) : ∃ x : Int, c = [.int .i64 x] /\ inI x := by
 unfold GoodD at h
 rw [show Tryz.prog.underlying 3 = some (.int .i64) by kernel_rfl] at h
 obtain ⟨x, rfl, h1, h2⟩ := h
 refine ⟨x, rfl, ?_⟩
 simp only [IntKind.min, IntKind.max, IntKind.signed, IntKind.bits] at h1 h2
 unfold inI
 simp at h1 h2
 omega
theorem goodVD_int {v : Value} (h : GoodVD Tryz.prog 6 3 v) : ∃ x : Int, v = .int .i64 x /\ inI x := by
 unfold GoodVD at h
 rw [show Tryz.prog.underlying 3 = some (.int .i64) by kernel_rfl] at h
 obtain ⟨x, h1, h2⟩ := goodD_i64 h
 exact ⟨x, by simpa using h1, h2⟩
theorem goodVD_ints {v : Value} (h : GoodVD Tryz.prog 6 23 v) : ∃ L : List Int, v = .iface (L.length + 1) (.agg ⟨L.flatMap intC⟩) /\ L.length <= maxLen /\ ∀ x ∈ L, inI x := by
 unfold GoodVD at h
 rw [show Tryz.prog.underlying 23 = some (.slice 3) by kernel_rfl] at h
 unfold GoodD at h
 rw [show Tryz.prog.underlying 23 = some (.slice 3) by kernel_rfl] at h
 obtain ⟨len, ds, h1, h2, h3, h4⟩ := h
 obtain ⟨xs, e1, e2, e3⟩ := goodL_list (f := intC) (q := inI) (fun c hc => goodD_i64 (n := 4) hc) len ds h4
 subst e1 e2
 exact ⟨xs, by simpa using h1, h3, e3⟩
end
end Go.Proofs.YthdekmpkioikdaaGreat
