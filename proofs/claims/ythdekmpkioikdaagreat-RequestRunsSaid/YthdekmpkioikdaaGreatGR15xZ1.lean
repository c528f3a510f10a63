/- Request: the history of a policy, hour by hour. No condition. -/
import Derived.Test.YthdekmpkioikdaaGreatGR7xR15f
import Derived.Test.YthdekmpkioikdaaGreatGK27xR1g
namespace Go.Proofs.YthdekmpkioikdaaGreat
open Go Go.K
set_option maxRecDepth 100000
set_option linter.unusedVariables false
set_option linter.unusedSimpArgs false
noncomputable section
attribute [local irreducible] vF
theorem brfAt {l : List Br} {k : Nat} (h : k < l.length) {off : Nat} (ho : off = k * 2 + 0) : (l.flatMap brC)[off]? = some (.int .i64 (l.getD k zeroB).free) := cell_at (n := 2) (d := zeroB) (c := 0) brC_len h ho rfl
theorem braAt {l : List Br} {k : Nat} (h : k < l.length) {off : Nat} (ho : off = k * 2 + 1) : (l.flatMap brC)[off]? = some (.int .i64 (l.getD k zeroB).at_) := cell_at (n := 2) (d := zeroB) (c := 1) brC_len h ho rfl
set_option maxHeartbeats 8000000 in
theorem kPlay (f : Fleet) (p : Pol) (l : List Rq) (o : FlOk f) (ol : LsOk f.t.length l) {H : Heap} {L : Nat} (hL : H.length = L) {i0 i1 i2 : Nat} {o0 o1 o2 : Bool} {z0 z1 z2 : Nat} (e0 : H[i0]? = some (.cells o0 z0 (inL f.t))) (e1 : H[i1]? = some (.cells o1 z1 (f.b.flatMap intC))) (e2 : H[i2]? = some (.cells o2 z2 (l.flatMap rqC))) :
  KCall prog 81 [fleetV f i0 i1, .agg ⟨polC p⟩, .slice (some ⟨i2, 0, some 2⟩) l.length l.length] H [] (Is (.slice (some ⟨L, 0, some 1⟩) (playF f p l).length (playF f p l).length) (H ++ [.cells true 5 ((playF f p l).flatMap svC)])) := by
 subst hL
 refine valNs (fun i => .slice (some ⟨i, 0, some 1⟩) (playF f p l).length (playF f p l).length) (css := [inL f.t, f.b.flatMap intC, l.flatMap rqC]) (new := [.cells true 5 ((playF f p l).flatMap svC)]) (Eq.mpr (Eplay f p l) ?_) ⟨inL_b 0 _, plainIL 0 _, plainRQ 0 _, trivial⟩ ⟨⟨_, _, rfl, plainSV 0 _⟩, trivial⟩ rfl rfl (fun _ => rfl) (ids := [i0, i1, i2]) ⟨⟨_, _, e0⟩, ⟨_, _, e1⟩, ⟨_, _, e2⟩, trivial⟩ rfl
 delta Rplay jgk jgp jg1g jg1a jgh jgn jg1b jgi jg19 jgm jg1f jgo jgg jg4 jge jg16 jg6 jg14 jg1i jgf jg5 jg1 jgw jga jgj jgl jg1c jgr jgb jg3 jg12 jg1e jg0 jgv jgq jg8 jgx jg9 jg2 jg7 jgs jgd
 have n1 := o.n1
 have n2 := o.n2
 have m1 := o.b1
 have m2 := o.b2
 have l30 := ol.len
 have hdk := dock_len f
 refine ⟨⟨rfl, rfl, trivial⟩, fun H' hL hd => kDocked f (by omega) hL hd.1 hd.2.1, by omega, by omega, rfl, playI_0 l30, ?_, fun _ => rfl, ?_⟩
 ·rw [krep_bool, krep_int, <- metH_0 l.length [], <- brH_0 f l []]
  repeat' first | exact plainIL _ _ | exact plainBL _ _ | exact plainSV _ _ | exact plainBR _ _ | exact wk_QR | exact wk_nil _ _ _ (.inr rfl) | exact trivial | exact rfl | exact wk_refl _ | exact wk_nil _ _ _ (.inl rfl) | (exact wk_Q (by omega)) | refine ⟨rfl, ?_⟩ | refine ⟨trivial, ?_⟩ | (refine ⟨vI64 (by omega), ?_⟩) | (refine And.intro (by omega) ?_) | apply And.intro | (exact iEq (by omega)) | (exact vI64 (by omega))
 rintro ⟨hour, h⟩ hI
 have hI : PlayI f p l hour h := hI
 have htop := hI.top
 have hln := hI.len
 refine forkD (fun k => ?_) (fun k => ?_)
 ·refine ⟨rfl, ⟨hI, fun c => by cases c⟩, ?_, fun _ => rfl, ?_⟩
  ·repeat' first | exact plainIL _ _ | exact plainBL _ _ | exact plainSV _ _ | exact plainBR _ _ | exact wk_QR | exact wk_nil _ _ _ (.inr rfl) | exact trivial | exact rfl | exact wk_refl _ | exact wk_nil _ _ _ (.inl rfl) | (exact wk_Q (by omega)) | refine ⟨rfl, ?_⟩ | refine ⟨trivial, ?_⟩ | (refine ⟨vI64 (by omega), ?_⟩) | (refine And.intro (by omega) ?_) | apply And.intro | (exact iEq (by omega)) | (exact vI64 (by omega))
  rintro ⟨more, g⟩ hJ
  dsimp only
  have hJ : PlayJ f p l hour more g := hJ
  have k : ((h.length : Nat) : Int) < ((l.length : Nat) : Int) := k
  have hnow := hI.now (by omega)
  refine forkB (fun c => ?_) (fun c => ⟨vI64 (by show -9223372036854775808 <= (hour : Int) + 1 /\ (hour : Int) + 1 <= _; omega), (hour + 1, g), playI_next o ol hJ.1 (fun hl => hJ.2 c hl) (.inr (by omega)), (by show 10002 + 200 * l.length - (hour + 1) < 10002 + 200 * l.length - hour; omega), rfl, ?_⟩)
  rotate_left
  ·repeat' first | exact plainIL _ _ | exact plainBL _ _ | exact plainSV _ _ | exact plainBR _ _ | exact wk_QR | exact wk_nil _ _ _ (.inr rfl) | exact trivial | exact rfl | exact wk_refl _ | exact wk_nil _ _ _ (.inl rfl) | (exact wk_Q (by omega)) | refine ⟨rfl, ?_⟩ | refine ⟨trivial, ?_⟩ | (refine ⟨vI64 (by omega), ?_⟩) | (refine And.intro (by omega) ?_) | apply And.intro | (exact iEq (by omega)) | (exact vI64 (by omega))
  have J := hJ.1
  have jlen := J.len
  have jtop := J.top
  have mlen := metH_len l.length g g.length
  have olen := ovN_len l g g.length
  have blen := brH_len f l g g.length
  have hrt : 0 <= (hour : Int) /\ (hour : Int) <= 1000000000 := by omega
  refine ⟨rfl, Nat.zero_le _, ?_, fun _ => rfl, ?_⟩
  ·repeat' first | exact plainIL _ _ | exact plainBL _ _ | exact plainSV _ _ | exact plainBR _ _ | exact wk_QR | exact wk_nil _ _ _ (.inr rfl) | exact trivial | exact rfl | exact wk_refl _ | exact wk_nil _ _ _ (.inl rfl) | (exact wk_Q (by omega)) | refine ⟨rfl, ?_⟩ | refine ⟨trivial, ?_⟩ | (refine ⟨vI64 (by omega), ?_⟩) | (refine And.intro (by omega) ?_) | apply And.intro | (exact iEq (by omega)) | (exact vI64 (by omega))
  intro i hi
  have bs := best_spec p l g (hour : Int) i
  refine forkD (fun q => ?_) (fun q => ?_)
  ·have hli : i < l.length := by omega
   have qi := ol.ok i hli
   have qa := qi.at_
   have ql := qi.limit
   obtain ⟨c, ec⟩ : ∃ c, clsAt p l g (hour : Int) i = c := ⟨_, rfl⟩
   have ec' : classV p (l.getD i zeroQ) ((metH l.length g g.length).getD i false) ((ovN l g g.length).getD i 0) (hour : Int) = c := ec
   refine ⟨by omega, partQ hli (by omega), by omega, boolAt (by rw [mlen]; exact hli) (by omega), by omega, intAt (by rw [olen]; exact hli) (by omega), trivial, fun H' _ _ => kClass _ _ _ _ _ qa ql hrt H', ?_⟩
   rw [ec']
   refine forkD (fun c1 => ?_) (fun c1 => forkD (fun c2 => forkEq (fun c3 => ?_) (fun c3 => ?_)) (fun c2 => ?_))
   ·refine ⟨vI64 (by omega), i + 1, by omega, by omega, rfl, ?_⟩
    rw [best_1 (.inl (by rw [ec]; exact c1)), ec]
    repeat' first | exact plainIL _ _ | exact plainBL _ _ | exact plainSV _ _ | exact plainBR _ _ | exact wk_QR | exact wk_nil _ _ _ (.inr rfl) | exact trivial | exact rfl | exact wk_refl _ | exact wk_nil _ _ _ (.inl rfl) | (exact wk_Q (by omega)) | refine ⟨rfl, ?_⟩ | refine ⟨trivial, ?_⟩ | (refine ⟨vI64 (by omega), ?_⟩) | (refine And.intro (by omega) ?_) | apply And.intro | (exact iEq (by omega)) | (exact vI64 (by omega))
   ·obtain ⟨B, eB⟩ : ∃ B, bestTo p l g (hour : Int) i = B := ⟨_, rfl⟩
    rw [eB] at bs c1 c3 ⊢
    have bs2 : 0 <= B.1 /\ B.1 < (i : Int) := by
     rcases bs with ⟨b1, _⟩ | ⟨b1, b2, _⟩
     ·rw [b1] at c3; omega
     ·exact ⟨b1, b2⟩
    have hB : Int.toNat B.1 < l.length := by omega
    have qb := ol.ok _ hB
    refine ⟨by omega, partQ hli (by omega), by omega, partQ hB (by omega), trivial, fun H' _ _ => kAhead _ _ _ qa ql qb.at_ qb.limit H', rfl, fun e => ⟨(c, (i : Int)), .inl ⟨e, rfl, rfl, trivial⟩, ?_⟩, fun e => ⟨(B.2, B.1), .inr ⟨e, rfl, rfl, trivial⟩, ?_⟩, ?_⟩
    ·repeat' first | exact plainIL _ _ | exact plainBL _ _ | exact plainSV _ _ | exact plainBR _ _ | exact wk_QR | exact wk_nil _ _ _ (.inr rfl) | exact trivial | exact rfl | exact wk_refl _ | exact wk_nil _ _ _ (.inl rfl) | (exact wk_Q (by omega)) | refine ⟨rfl, ?_⟩ | refine ⟨trivial, ?_⟩ | (refine ⟨vI64 (by omega), ?_⟩) | (refine And.intro (by omega) ?_) | apply And.intro | (exact iEq (by omega)) | (exact vI64 (by omega))
    ·repeat' first | exact plainIL _ _ | exact plainBL _ _ | exact plainSV _ _ | exact plainBR _ _ | exact wk_QR | exact wk_nil _ _ _ (.inr rfl) | exact trivial | exact rfl | exact wk_refl _ | exact wk_nil _ _ _ (.inl rfl) | (exact wk_Q (by omega)) | refine ⟨rfl, ?_⟩ | refine ⟨trivial, ?_⟩ | (refine ⟨vI64 (by omega), ?_⟩) | (refine And.intro (by omega) ?_) | apply And.intro | (exact iEq (by omega)) | (exact vI64 (by omega))
    rintro ⟨X, Y⟩ hXY
    have hXY : bestTo p l g (hour : Int) (i + 1) = (Y, X) := by
     rcases hXY with ⟨e, x1, x2, _⟩ | ⟨e, x1, x2, _⟩
     ·rw [best_1 (.inr ⟨by rw [ec]; exact c2, by rw [ec, eB]; exact c3, by rw [ec, eB]; exact e⟩), ec]
      exact Prod.ext x2.symm x1.symm
     ·rw [best_0 (fun k => k.elim (fun k => c1 (by rw [ec, eB] at k; exact k)) (fun k => by have k3 := k.2.2; rw [ec, eB] at k3; have e : aheadB c (l.getD i zeroQ) (rqAt l B.1) = false := e; rw [e] at k3; cases k3)), eB]
      exact Prod.ext x2.symm x1.symm
    refine ⟨vI64 (by omega), i + 1, by omega, by omega, rfl, ?_⟩
    rw [hXY]
    repeat' first | exact plainIL _ _ | exact plainBL _ _ | exact plainSV _ _ | exact plainBR _ _ | exact wk_QR | exact wk_nil _ _ _ (.inr rfl) | exact trivial | exact rfl | exact wk_refl _ | exact wk_nil _ _ _ (.inl rfl) | (exact wk_Q (by omega)) | refine ⟨rfl, ?_⟩ | refine ⟨trivial, ?_⟩ | (refine ⟨vI64 (by omega), ?_⟩) | (refine And.intro (by omega) ?_) | apply And.intro | (exact iEq (by omega)) | (exact vI64 (by omega))
   ·refine ⟨vI64 (by omega), i + 1, by omega, by omega, rfl, ?_⟩
    rw [best_0 (fun e => e.elim (fun e => c1 (by rw [ec] at e; exact e)) (fun e => c3 (by rw [ec] at e; exact e.2.1)))]
    repeat' first | exact plainIL _ _ | exact plainBL _ _ | exact plainSV _ _ | exact plainBR _ _ | exact wk_QR | exact wk_nil _ _ _ (.inr rfl) | exact trivial | exact rfl | exact wk_refl _ | exact wk_nil _ _ _ (.inl rfl) | (exact wk_Q (by omega)) | refine ⟨rfl, ?_⟩ | refine ⟨trivial, ?_⟩ | (refine ⟨vI64 (by omega), ?_⟩) | (refine And.intro (by omega) ?_) | apply And.intro | (exact iEq (by omega)) | (exact vI64 (by omega))
   ·refine ⟨vI64 (by omega), i + 1, by omega, by omega, rfl, ?_⟩
    rw [best_0 (fun e => e.elim (fun e => c1 (by rw [ec] at e; exact e)) (fun e => c2 (by rw [ec] at e; exact e.1)))]
    repeat' first | exact plainIL _ _ | exact plainBL _ _ | exact plainSV _ _ | exact plainBR _ _ | exact wk_QR | exact wk_nil _ _ _ (.inr rfl) | exact trivial | exact rfl | exact wk_refl _ | exact wk_nil _ _ _ (.inl rfl) | (exact wk_Q (by omega)) | refine ⟨rfl, ?_⟩ | refine ⟨trivial, ?_⟩ | (refine ⟨vI64 (by omega), ?_⟩) | (refine And.intro (by omega) ?_) | apply And.intro | (exact iEq (by omega)) | (exact vI64 (by omega))
  obtain rfl : i = l.length := by omega
  refine forkD (fun c1 => ?_) (fun c1 => ?_)
  ·have hd : decAt f p l g (hour : Int) = none := if_pos (.inl c1)
   refine ⟨(false, g), ⟨J, fun _ _ => hd⟩, (by subst c; show 2 * (l.length - g.length) + 0 < 2 * (l.length - g.length) + 1; omega), rfl, ?_⟩
   repeat' first | exact plainIL _ _ | exact plainBL _ _ | exact plainSV _ _ | exact plainBR _ _ | exact wk_QR | exact wk_nil _ _ _ (.inr rfl) | exact trivial | exact rfl | exact wk_refl _ | exact wk_nil _ _ _ (.inl rfl) | (exact wk_Q (by omega)) | refine ⟨rfl, ?_⟩ | refine ⟨trivial, ?_⟩ | (refine ⟨vI64 (by omega), ?_⟩) | (refine And.intro (by omega) ?_) | apply And.intro | (exact iEq (by omega)) | (exact vI64 (by omega))
  obtain ⟨B, eB⟩ : ∃ B, bestTo p l g (hour : Int) l.length = B := ⟨_, rfl⟩
  rw [eB] at bs c1 ⊢
  have bs2 : 0 <= B.1 /\ B.1 < (l.length : Int) := by
   rcases bs with ⟨b1, _⟩ | ⟨b1, b2, _⟩
   ·rw [b1] at c1; exact absurd (by decide) c1
   ·exact ⟨b1, b2⟩
  have hB : Int.toNat B.1 < l.length := by omega
  have qb := ol.ok _ hB
  have qp := qb.place
  have erq : rqAt l B.1 = l.getD (Int.toNat B.1) zeroQ := rfl
  obtain ⟨r, er⟩ : ∃ r, l.getD (Int.toNat B.1) zeroQ = r := ⟨_, rfl⟩
  rw [er] at erq qb qp
  rw [er, erq]
  refine ⟨rfl, Nat.zero_le _, ?_, fun _ => rfl, ?_⟩
  ·repeat' first | exact plainIL _ _ | exact plainBL _ _ | exact plainSV _ _ | exact plainBR _ _ | exact wk_QR | exact wk_nil _ _ _ (.inr rfl) | exact trivial | exact rfl | exact wk_refl _ | exact wk_nil _ _ _ (.inl rfl) | (exact wk_Q (by omega)) | refine ⟨rfl, ?_⟩ | refine ⟨trivial, ?_⟩ | (refine ⟨vI64 (by omega), ?_⟩) | (refine And.intro (by omega) ?_) | apply And.intro | (exact iEq (by omega)) | (exact vI64 (by omega))
  intro b hb
  have ys := by_spec f l g (hour : Int) r.place b
  refine forkD (fun q => ?_) (fun q => ?_)
  ·have hlb : b < f.b.length := by omega
   have pin := plH_in o ol g g.length
   have brat : ∀ j, j < f.b.length -> 0 <= ((brH f l g g.length).getD j zeroB).at_ /\ ((brH f l g g.length).getD j zeroB).at_ <= (f.t.length : Int) - 1 := fun j hj => by rw [brH_at hj]; exact pin j hj
   have pb := brat b hlb
   have hbn : Int.toNat ((brH f l g g.length).getD b zeroB).at_ < f.t.length := by omega
   have rb := o.row _ hbn
   refine ⟨by omega, brfAt (l := brH f l g g.length) (by omega) (by omega), forkD (fun d1 => ?_) (fun d1 => forkD (fun d2 => ?_) (fun d2 => ?_))⟩
   ·refine ⟨vI64 (by omega), b + 1, by omega, by omega, rfl, ?_⟩
    rw [by_0 d1]
    repeat' first | exact plainIL _ _ | exact plainBL _ _ | exact plainSV _ _ | exact plainBR _ _ | exact wk_QR | exact wk_nil _ _ _ (.inr rfl) | exact trivial | exact rfl | exact wk_refl _ | exact wk_nil _ _ _ (.inl rfl) | (exact wk_Q (by omega)) | refine ⟨rfl, ?_⟩ | refine ⟨trivial, ?_⟩ | (refine ⟨vI64 (by omega), ?_⟩) | (refine And.intro (by omega) ?_) | apply And.intro | (exact iEq (by omega)) | (exact vI64 (by omega))
   ·refine ⟨vI64 (by omega), b + 1, by omega, by omega, rfl, ?_⟩
    rw [by_1 d1 (.inl d2)]
    repeat' first | exact plainIL _ _ | exact plainBL _ _ | exact plainSV _ _ | exact plainBR _ _ | exact wk_QR | exact wk_nil _ _ _ (.inr rfl) | exact trivial | exact rfl | exact wk_refl _ | exact wk_nil _ _ _ (.inl rfl) | (exact wk_Q (by omega)) | refine ⟨rfl, ?_⟩ | refine ⟨trivial, ?_⟩ | (refine ⟨vI64 (by omega), ?_⟩) | (refine And.intro (by omega) ?_) | apply And.intro | (exact iEq (by omega)) | (exact vI64 (by omega))
   ·obtain ⟨Y, eY⟩ : ∃ Y, byTo f l g (hour : Int) r.place b = Y := ⟨_, rfl⟩
    have z1 := by_1 (b := b) (place := r.place) d1
    have z2 := by_2 (b := b) (place := r.place) d1
    rw [eY] at ys d2 z1 z2 ⊢
    have hY : 0 <= Y /\ Y < (b : Int) := by
     rcases ys with ⟨y1, _⟩ | ⟨y1, y2, _⟩
     ·omega
     ·exact ⟨y1, y2⟩
    have py := brat (Int.toNat Y) (by omega)
    have hyn : Int.toNat ((brH f l g g.length).getD (Int.toNat Y) zeroB).at_ < f.t.length := by omega
    have ry := o.row _ hyn
    refine ⟨by omega, braAt (l := brH f l g g.length) (by omega) (by omega), by omega, inL_at hbn (by omega), by omega, by rw [<- er]; exact plcAt hB (by omega), by omega, intAt (by omega) (by omega), by omega, braAt (l := brH f l g g.length) (by omega) (by omega), by omega, inL_at hyn (by omega), by omega, by rw [<- er]; exact plcAt hB (by omega), by omega, intAt (by omega) (by omega), rfl, fun e => ⟨(b : Int), .inl ⟨e, rfl, trivial⟩, ?_⟩, fun e => ⟨Y, .inr ⟨e, rfl, trivial⟩, ?_⟩, ?_⟩
    ·repeat' first | exact plainIL _ _ | exact plainBL _ _ | exact plainSV _ _ | exact plainBR _ _ | exact wk_QR | exact wk_nil _ _ _ (.inr rfl) | exact trivial | exact rfl | exact wk_refl _ | exact wk_nil _ _ _ (.inl rfl) | (exact wk_Q (by omega)) | refine ⟨rfl, ?_⟩ | refine ⟨trivial, ?_⟩ | (refine ⟨vI64 (by omega), ?_⟩) | (refine And.intro (by omega) ?_) | apply And.intro | (exact iEq (by omega)) | (exact vI64 (by omega))
    ·repeat' first | exact plainIL _ _ | exact plainBL _ _ | exact plainSV _ _ | exact plainBR _ _ | exact wk_QR | exact wk_nil _ _ _ (.inr rfl) | exact trivial | exact rfl | exact wk_refl _ | exact wk_nil _ _ _ (.inl rfl) | (exact wk_Q (by omega)) | refine ⟨rfl, ?_⟩ | refine ⟨trivial, ?_⟩ | (refine ⟨vI64 (by omega), ?_⟩) | (refine And.intro (by omega) ?_) | apply And.intro | (exact iEq (by omega)) | (exact vI64 (by omega))
    intro X hX
    have hX : X = byTo f l g (hour : Int) r.place (b + 1) := by
     rcases hX with ⟨e, x, _⟩ | ⟨e, x, _⟩
     ·rw [x]; exact (z1 (.inr (of_decide_eq_true e))).symm
     ·rw [x]; exact (z2 (fun k => k.elim (fun k => d2 k) (fun k => of_decide_eq_false e k))).symm
    refine ⟨vI64 (by omega), b + 1, by omega, by omega, rfl, ?_⟩
    rw [hX]
    repeat' first | exact plainIL _ _ | exact plainBL _ _ | exact plainSV _ _ | exact plainBR _ _ | exact wk_QR | exact wk_nil _ _ _ (.inr rfl) | exact trivial | exact rfl | exact wk_refl _ | exact wk_nil _ _ _ (.inl rfl) | (exact wk_Q (by omega)) | refine ⟨rfl, ?_⟩ | refine ⟨trivial, ?_⟩ | (refine ⟨vI64 (by omega), ?_⟩) | (refine And.intro (by omega) ?_) | apply And.intro | (exact iEq (by omega)) | (exact vI64 (by omega))
  obtain rfl : b = f.b.length := by omega
  obtain ⟨Y, eY⟩ : ∃ Y, byTo f l g (hour : Int) r.place f.b.length = Y := ⟨_, rfl⟩
  rw [eY] at ys ⊢
  have hbe : bestAt p l g (hour : Int) = B.1 := by unfold bestAt; rw [eB]
  have hby : byAt f p l g (hour : Int) = Y := by unfold byAt; rw [hbe, erq, eY]
  refine forkD (fun c2 => ?_) (fun c2 => ?_)
  ·have hd : decAt f p l g (hour : Int) = none := if_pos (.inr (by rw [hby]; exact c2))
   refine ⟨(false, g), ⟨J, fun _ _ => hd⟩, (by subst c; show 2 * (l.length - g.length) + 0 < 2 * (l.length - g.length) + 1; omega), rfl, ?_⟩
   repeat' first | exact plainIL _ _ | exact plainBL _ _ | exact plainSV _ _ | exact plainBR _ _ | exact wk_QR | exact wk_nil _ _ _ (.inr rfl) | exact trivial | exact rfl | exact wk_refl _ | exact wk_nil _ _ _ (.inl rfl) | (exact wk_Q (by omega)) | refine ⟨rfl, ?_⟩ | refine ⟨trivial, ?_⟩ | (refine ⟨vI64 (by omega), ?_⟩) | (refine And.intro (by omega) ?_) | apply And.intro | (exact iEq (by omega)) | (exact vI64 (by omega))
  have hY : 0 <= Y /\ Y < (f.b.length : Int) := by
   rcases ys with ⟨y1, _⟩ | ⟨y1, y2, _⟩
   ·omega
   ·exact ⟨y1, y2⟩
  obtain ⟨S, eS⟩ : ∃ S, mkSv f l g B.1 Y (hour : Int) = S := ⟨_, rfl⟩
  have hd : decAt f p l g (hour : Int) = some S := (if_neg (fun k => k.elim (fun k => by rw [hbe] at k; omega) (fun k => by rw [hby] at k; exact c2 k))).trans (by rw [hbe, hby, eS])
  have hlt := dec_lt J.good hd
  have hpY := plH_in o ol g g.length (Int.toNat Y) (by omega)
  have eBY := brH_at (f := f) (l := l) (h := g) (k := g.length) (b := Int.toNat Y) (by omega)
  have pY : 0 <= ((brH f l g g.length).getD (Int.toNat Y) zeroB).at_ /\ ((brH f l g g.length).getD (Int.toNat Y) zeroB).at_ <= (f.t.length : Int) - 1 := by rw [eBY]; exact hpY
  have eS' : S = ⟨B.1, Y, (hour : Int), (hour : Int) + trav f ((brH f l g g.length).getD (Int.toNat Y) zeroB).at_ r.place, (hour : Int) + trav f ((brH f l g g.length).getD (Int.toNat Y) zeroB).at_ r.place + r.len⟩ := by rw [<- eS, <- erq]; rfl
  have f1 := brH_app f l g S
  have g0 := metH_app (n := l.length) (h := g) (s := S) (by rw [eS']; exact bs2.1) (by rw [eS']; exact bs2.2)
  have s1 : S.br = Y := by rw [eS']
  have s2 : S.nd = (hour : Int) + trav f ((brH f l g g.length).getD (Int.toNat Y) zeroB).at_ r.place + r.len := by rw [eS']
  have s3 : S.rq = B.1 := by rw [eS']
  have sc : svC S = [.int .i64 B.1, .int .i64 Y, .int .i64 (hour : Int), .int .i64 ((hour : Int) + trav f ((brH f l g g.length).getD (Int.toNat Y) zeroB).at_ r.place), .int .i64 ((hour : Int) + trav f ((brH f l g g.length).getD (Int.toNat Y) zeroB).at_ r.place + r.len)] := by rw [eS']
  rw [s1, s2, s3, erq] at f1
  rw [s3] at g0
  rw [eS]
  have glen : (g ++ [S]).length = g.length + 1 := by rw [List.length_append]; rfl
  refine ⟨by omega, braAt (l := brH f l g g.length) (by omega) (by omega), ⟨rfl, rfl, rfl, trivial⟩, fun H' _ hd => by rw [<- erq]; exact kServe f l B.1 Y _ _ o ol bs2 pY (by omega) hd.1 hd.2.1 hd.2.2.1, ⟨by omega, by decide, ⟨Nat.le_refl _, by rw [flat_len svC_len]; omega⟩, ⟨Nat.le_refl _, Nat.le_refl 5⟩, rfl⟩, rfl, by omega, by rw [<- er]; exact dstAt hB (by omega), by omega, by rw [flat_len brC_len]; omega, rfl, by omega, by rw [flat_len boolC_len]; omega, rfl, rfl, Nat.zero_le _, ?_, fun _ => rfl, ?_⟩
  ·have g1 := flat_set brC_len (brH f l g g.length) (Int.toNat Y) (by omega) ⟨(hour : Int) + trav f ((brH f l g g.length).getD (Int.toNat Y) zeroB).at_ r.place + r.len, r.dest⟩
   rw [<- f1] at g1
   have g2 := flat_set boolC_len (metH l.length g g.length) (Int.toNat B.1) (by omega) true
   rw [<- g0] at g2
   have g3 := sv_snoc g S
   rw [sc] at g3
   rw [Nat.zero_add, Nat.zero_add, g1, g2, g3, ovP_0]
   repeat' first | exact plainIL _ _ | exact plainBL _ _ | exact plainSV _ _ | exact plainBR _ _ | exact wk_QR | exact wk_nil _ _ _ (.inr rfl) | exact wk_QF glen (Nat.succ_pos _) | exact trivial | exact rfl | exact wk_refl _ | exact wk_nil _ _ _ (.inl rfl) | (exact wk_Q (by omega)) | refine ⟨rfl, ?_⟩ | refine ⟨trivial, ?_⟩ | (refine ⟨vI64 (by omega), ?_⟩) | (refine And.intro (by omega) ?_) | apply And.intro | (exact iEq (by omega)) | (exact vI64 (by omega))
  intro j hj
  refine forkD (fun q => ?_) (fun q => ?_)
  ·have hlj : j < l.length := by omega
   have hov := ovN_in (h := g) hlj g.length
   have hat := ovP_at (h := g) (s := S) hlj
   have hsu := ovP_succ (h := g) (s := S) hlj
   have hnw := ovN_new (h := g) (s := S) hlj
   rw [<- glen] at hsu hnw
   rw [s3, erq] at hnw
   have f3 : ∀ k : ¬ (!((metH l.length (g ++ [S]) (g ++ [S]).length).getD j false) && befB (l.getD j zeroQ) r) = true, ovP l g S (j + 1) = ovP l g S j := by
    intro k
    rw [hsu, hnw, if_neg k, Int.add_zero, <- hat, set_self (by rw [ovP_len]; exact hlj)]
   refine ⟨by omega, boolAt (by rw [metH_len]; exact hlj) (by omega), forkB (fun m1 => ?_) (fun m1 => ?_)⟩
   ·refine ⟨by omega, partQ hlj (by omega), by omega, by rw [<- er]; exact partQ hB (by omega), trivial, fun H' _ _ => kBefore _ _ H', forkB (fun b1 => ?_) (fun b1 => ?_)⟩
    ·refine ⟨by omega, intAt (by rw [ovP_len]; exact hlj) (by omega), vI64 (by rw [hat]; omega), by omega, by rw [flat_len intC_len, ovP_len]; omega, rfl, vI64 (by omega), j + 1, by omega, by omega, rfl, ?_⟩
     have g2 := flat_set intC_len (ovP l g S j) j (by rw [ovP_len]; exact hlj) ((ovP l g S j).getD j 0 + 1)
     have f2 : ovP l g S (j + 1) = (ovP l g S j).set j ((ovP l g S j).getD j 0 + 1) := by rw [hsu, hnw, if_pos (by rw [m1, b1]; rfl), hat]
     rw [<- f2] at g2
     rw [Nat.zero_add, Int.toNat_natCast, g2]
     repeat' first | exact plainIL _ _ | exact plainBL _ _ | exact plainSV _ _ | exact plainBR _ _ | exact wk_QR | exact wk_nil _ _ _ (.inr rfl) | exact trivial | exact rfl | exact wk_refl _ | exact wk_nil _ _ _ (.inl rfl) | (exact wk_Q (by omega)) | refine ⟨rfl, ?_⟩ | refine ⟨trivial, ?_⟩ | (refine ⟨vI64 (by omega), ?_⟩) | (refine And.intro (by omega) ?_) | apply And.intro | (exact iEq (by omega)) | (exact vI64 (by omega))
    ·refine ⟨vI64 (by omega), j + 1, by omega, by omega, rfl, ?_⟩
     rw [f3 (by rw [b1, Bool.and_false]; exact Bool.false_ne_true)]
     repeat' first | exact plainIL _ _ | exact plainBL _ _ | exact plainSV _ _ | exact plainBR _ _ | exact wk_QR | exact wk_nil _ _ _ (.inr rfl) | exact trivial | exact rfl | exact wk_refl _ | exact wk_nil _ _ _ (.inl rfl) | (exact wk_Q (by omega)) | refine ⟨rfl, ?_⟩ | refine ⟨trivial, ?_⟩ | (refine ⟨vI64 (by omega), ?_⟩) | (refine And.intro (by omega) ?_) | apply And.intro | (exact iEq (by omega)) | (exact vI64 (by omega))
   ·refine ⟨vI64 (by omega), j + 1, by omega, by omega, rfl, ?_⟩
    rw [f3 (by rw [m1, Bool.false_and]; exact Bool.false_ne_true)]
    repeat' first | exact plainIL _ _ | exact plainBL _ _ | exact plainSV _ _ | exact plainBR _ _ | exact wk_QR | exact wk_nil _ _ _ (.inr rfl) | exact trivial | exact rfl | exact wk_refl _ | exact wk_nil _ _ _ (.inl rfl) | (exact wk_Q (by omega)) | refine ⟨rfl, ?_⟩ | refine ⟨trivial, ?_⟩ | (refine ⟨vI64 (by omega), ?_⟩) | (refine And.intro (by omega) ?_) | apply And.intro | (exact iEq (by omega)) | (exact vI64 (by omega))
  obtain rfl : j = l.length := by omega
  refine ⟨(true, g ++ [S]), ⟨playI_dec o ol J hlt hd, fun c => by cases c⟩, (by subst c; show 2 * (l.length - (g ++ [S]).length) + 1 < 2 * (l.length - g.length) + 1; rw [glen]; omega), rfl, ?_⟩
  rw [ovP_all]
  repeat' first | exact plainIL _ _ | exact plainBL _ _ | exact plainSV _ _ | exact plainBR _ _ | exact wk_QR | exact wk_nil _ _ _ (.inr rfl) | exact trivial | exact rfl | exact wk_refl _ | exact wk_nil _ _ _ (.inl rfl) | (exact wk_Q (by omega)) | refine ⟨rfl, ?_⟩ | refine ⟨trivial, ?_⟩ | (refine ⟨vI64 (by omega), ?_⟩) | (refine And.intro (by omega) ?_) | apply And.intro | (exact iEq (by omega)) | (exact vI64 (by omega))
 ·have k : ¬ ((h.length : Nat) : Int) < ((l.length : Nat) : Int) := k
  have hF : playF f p l = h := by
   obtain ⟨m, _, e⟩ := hI.own
   rw [<- e]
   match m with
   | 0 => rfl
   | m + 1 => exact if_pos (by omega)
  rw [hF]
  repeat' first | exact plainIL _ _ | exact plainBL _ _ | exact plainSV _ _ | exact plainBR _ _ | exact wk_QR | exact wk_nil _ _ _ (.inr rfl) | exact trivial | exact rfl | exact wk_refl _ | exact wk_nil _ _ _ (.inl rfl) | (exact wk_Q (by omega)) | refine ⟨rfl, ?_⟩ | refine ⟨trivial, ?_⟩ | (refine ⟨vI64 (by omega), ?_⟩) | (refine And.intro (by omega) ?_) | apply And.intro | (exact iEq (by omega)) | (exact vI64 (by omega))
end
end Go.Proofs.YthdekmpkioikdaaGreat
/- What is to be shown of functions. Printed by a program. No condition. -/
namespace Go.Proofs.YthdekmpkioikdaaGreat
set_option linter.unusedSimpArgs false
open Go Go.K
set_option maxRecDepth 100000
set_option maxHeartbeats 4000000
set_option linter.unusedVariables false
noncomputable section
abbrev jhb (f : Fleet) : Prop:=(someR (.cells false 0 (inL f.t))) /\ (someR (.cells false 0 (f.b.flatMap intC))) /\ True
abbrev jha (H' : Heap) (f : Fleet) : Prop:=H'[0]? = some (.cells false 0 (inL f.t) : KObj) /\ H'[1]? = some (.cells false 0 (f.b.flatMap intC) : KObj) /\ True
abbrev jh3 (f : Fleet) (l : List Rq) : Prop:=(someR (.cells false 0 (inL f.t))) /\ (someR (.cells false 0 (f.b.flatMap intC))) /\ (someR (.cells false 0 (l.flatMap rqC))) /\ True
abbrev jh1 (H' : Heap) (f : Fleet) (l : List Rq) : Prop:=H'[0]? = some (.cells false 0 (inL f.t) : KObj) /\ H'[1]? = some (.cells false 0 (f.b.flatMap intC) : KObj) /\ H'[2]? = some (.cells false 0 (l.flatMap rqC) : KObj) /\ True
def RrCheck (sp : Value) (f : Fleet) (p : Pol) (l : List Rq) : Prop :=
 ((jhb f) /\ (∀ H' : Heap,H'.length = 5 -> (jha H' f) -> KCall prog 78 [.agg #[slQ 0 2 f.t.length,slQ 1 2 f.b.length]] H' [] (Is (nI (errFl f)) H')) /\ (((((errFl f) : Int) != 0) = true -> (nI (errFl f) : Value) = sp) /\ ((((errFl f) : Int) != 0) = false -> ((True) /\ (∀ H' : Heap,H'.length = 5 -> (True) -> KCall prog 79 [.agg #[nI p.ov,nI p.warn,nI p.w0,nI p.w1,nI p.w2]] H' [] (Is (nI (errPol p)) H')) /\ (((((errPol p) : Int) != 0) = true -> (nI (errPol p) : Value) = sp) /\ ((((errPol p) : Int) != 0) = false -> ((jh3 f l) /\ (∀ H' : Heap,H'.length = 5 -> (jh1 H' f l) -> KCall prog 80 [.agg #[slQ 0 2 f.t.length,slQ 1 2 f.b.length],slQ 2 2 l.length] H' [] (Is (nI (errRq f.t.length l)) H')) /\ (nI (errRq f.t.length l) : Value) = sp)))))))
abbrev jh2 (f : Fleet) (p : Pol) (l : List Rq) : List Value:=[.agg #[slQ 0 2 f.t.length,slQ 1 2 f.b.length],.agg #[nI p.ov,nI p.warn,nI p.w0,nI p.w1,nI p.w2],slQ 2 2 l.length]
abbrev jh7 (f : Fleet) (l : List Rq):=readsT 0 [inL f.t,f.b.flatMap intC,l.flatMap rqC]
abbrev jhf (f : Fleet) : List (Nat × KObj):=[(0,.cells false 0 (inL f.t)),(1,.cells false 0 (f.b.flatMap intC))]
abbrev jh4 (f : Fleet) (l : List Rq) : List (Nat × KObj):=[(0,.cells false 0 (inL f.t)),(1,.cells false 0 (f.b.flatMap intC)),(2,.cells false 0 (l.flatMap rqC))]
theorem ErCheck (sp : Value) (f : Fleet) (p : Pol) (l : List Rq) : vF prog msk (dm 0) 100000 true 40 true 31 (jh2 f p l) (jh7 f l) (some [])
 (.go 3 (.ans (jhf f) (nI (errFl f)) [] (.go 2 (.fork (.auto) (.go 0 (.ans [] (nI (errPol p)) [] (.go 2 (.fork (.auto) (.go 1 (.ans (jh4 f l) (nI (errRq f.t.length l)) [] (.auto)))))))))))
 (fun v _ _ => v = sp) = RrCheck sp f p l:=by kernel_rfl
def RCheck (sp : Value) (f : Fleet) (p : Pol) (l : List Rq) : Prop :=
 ((jhb f) /\ (∀ H' : Heap,H'.length = 5 -> (jha H' f) -> KCall prog 75 [.agg #[slQ 0 2 f.t.length,slQ 1 2 f.b.length]] H' [] (Is (nI (errFl f)) H')) /\ ((True) /\ (∀ H' : Heap,H'.length = 5 -> (True) -> KCall prog 76 [.agg #[nI p.ov,nI p.warn,nI p.w0,nI p.w1,nI p.w2]] H' [] (Is (nI (errPol p)) H')) /\ ((jh3 f l) /\ (∀ H' : Heap,H'.length = 5 -> (jh1 H' f l) -> KCall prog 77 [.agg #[slQ 0 2 f.t.length,slQ 1 2 f.b.length],slQ 2 2 l.length] H' [] (Is (nI (errRq f.t.length l)) H')) /\ (((((errFl f) : Int) != 0) = true -> (nI (errFl f) : Value) = sp) /\ ((((errFl f) : Int) != 0) = false -> (((((errPol p) : Int) != 0) = true -> (nI (errPol p) : Value) = sp) /\ ((((errPol p) : Int) != 0) = false -> (((((errRq f.t.length l) : Int) != 0) = true -> (nI (errRq f.t.length l) : Value) = sp) /\ ((((errRq f.t.length l) : Int) != 0) = false -> (nI 0 : Value) = sp)))))))))
theorem ECheck (sp : Value) (f : Fleet) (p : Pol) (l : List Rq) : vF prog msk (dm 0) 100000 true 40 true 30 (jh2 f p l) (jh7 f l) (some [])
 (.go 6 (.ans (jhf f) (nI (errFl f)) [] (.ans [] (nI (errPol p)) [] (.ans (jh4 f l) (nI (errRq f.t.length l)) [] (.go 12 (.fork (.auto) (.go 8 (.fork (.auto) (.go 8 (.fork (.auto) (.auto)))))))))))
 (fun v _ _ => v = sp) = RCheck sp f p l:=by kernel_rfl
def RrRun (f : Fleet) (p : Pol) (l : List Rq) : Prop :=
 ((jh3 f l) /\ (∀ H' : Heap,H'.length = 5 -> (jh1 H' f l) -> KCall prog 31 (jh2 f p l) H' [] (Is (nI (errAll f p l)) H')) /\ (((((errAll f p l) : Int) != 0) = true -> (true = true /\ wk (.tuple #[.slice none 0 0,nI (errAll f p l)] : Value) (rn (sg 3 []) 3 (.tuple #[slQ 3 2 (List.length (fRun f p l).1),nI (fRun f p l).2] : Value)) /\ (True /\ True))) /\ ((((errAll f p l) : Int) != 0) = false -> ((jh3 f l) /\ (∀ H' : Heap,H'.length = 5 -> (jh1 H' f l) -> KCall prog 81 (jh2 f p l) H' [] (Is (slQ 5 1 (playF f p l).length) (H' ++ [(.cells true 5 ((playF f p l).flatMap svC) : KObj)]))) /\ (true = true /\ wk (.tuple #[slQ 5 1 (playF f p l).length,nI 0] : Value) (rn (sg 3 [(3,5)]) 3 (.tuple #[slQ 3 2 (List.length (fRun f p l).1),nI (fRun f p l).2] : Value)) /\ ((some (.cells true 5 ((playF f p l).flatMap svC) : KObj) = some (.cells true 5 (List.flatMap svC (fRun f p l).1) : KObj) /\ belowO 3 (.cells true 5 (List.flatMap svC (fRun f p l).1) : KObj) = true) /\ True))))))
theorem ErRun (f : Fleet) (p : Pol) (l : List Rq) : vF prog msk (dm 0) 100000 true 40 true 32 (jh2 f p l) (jh7 f l) (some [])
 (.go 6 (.ans (jh4 f l) (nI (errAll f p l)) [] (.go 2 (.fork (.go 2 (.again [])) (.go 2 (.ans (jh4 f l) (slQ 5 1 (playF f p l).length) [.cells true 5 ((playF f p l).flatMap svC)] (.go 1 (.again [(3,5)]))))))))
 (newK ((jh7 f l) : HT).n 3 (.tuple #[slQ 3 2 (List.length (fRun f p l).1),nI (fRun f p l).2]) [(true,.cells true 5 (List.flatMap svC (fRun f p l).1))]) = RrRun f p l:=by kernel_rfl
abbrev jhd (h : List Sv) : Prop:=wkR (slQ 0 2 h.length) /\ (.slice none 0 0 : Value) = .slice none 0 0 /\ True
abbrev jh6 (h : List Sv) : Int:=(h.length : Nat)
abbrev jhe (x0 : Nat) (h : List Sv):=decide (((x0 : Int) : Int) < (jh6 h))
abbrev jhc (x0 : Nat) (h : List Sv) : Prop:=(0 : Int) <= (x0 : Int) /\ ((x0 : Int) : Int) < (jh6 h)
abbrev jh9 (h : List Sv) (x0 : Nat):=h.getD x0 zeroV
abbrev jh0 (h : List Sv) (x0 : Nat) : Value:=.agg #[nI (jh9 h x0).rq,nI (jh9 h x0).br,nI (jh9 h x0).tk,nI (jh9 h x0).bg,nI (jh9 h x0).nd]
abbrev jh8 (h : List Sv) (x0 : Nat) : Prop:=partA 5 (h.flatMap svC) (0 + Int.toNat (x0 : Int) * 5) = some (jh0 h x0)
abbrev jh5 (h : List Sv) (x0 : Nat) : List Value:=[nI (jh9 h x0).rq,nI (jh9 h x0).br,nI (jh9 h x0).tk,nI (jh9 h x0).bg,nI (jh9 h x0).nd]
def Rserved (h : List Sv) : Prop :=
 (true = true /\ (0 <= List.length h) /\ (true = true /\ ((nI 0 : Value) = nI ((0 : Nat) : Int) /\ wk (.slice none 0 0 : Value) (slQ 0 1 0 : Value) /\ jhd h) /\ (True) /\ (True /\ True) /\ (True)) /\ (∀ x0 : Nat,true = true) /\ ∀ x0 : Nat,(x0 <= List.length h) -> (((jhe x0 h) = true -> ((jhc x0 h) /\ ((jh8 h x0) /\ (((x0 + 1) * 40 <= 2 ^ 44 /\ 1 ≠ 0 /\ (x0 <= x0 /\ 0 + x0 * 5 <= List.length ((h.take x0).flatMap svC)) /\ (1 <= 1 /\ 0 + 1 * 5 <= List.length (jh5 h x0)) /\ ((((jh5 h x0).drop 0).take (1 * 5)) : List Value).all (fun v => one1 v) = true) /\ true = true /\ ((nI (IntKind.wrap .i64 ((x0 : Int) + 1)) : Value) = nI ((x0 : Int) + 1) /\ (∃ x0' : Nat,(x0' <= List.length h) /\ (List.length h - x0') < (List.length h - x0) /\ true = true /\ ((nI ((x0 : Int) + 1) : Value) = nI (x0' : Int) /\ wk (.slice (some ⟨3,0,none⟩) (x0 + 1) (x0 + 1) : Value) (slQ 3 1 x0' : Value) /\ jhd h) /\ (True) /\ ((some (.cells true 5 (((((h.take x0).flatMap svC).drop 0).take (x0 * 5)) ++ (((jh5 h x0).drop 0).take (1 * 5))) : KObj) = some (.cells true 5 ((h.take x0').flatMap svC) : KObj) /\ belowO 1 (.cells true 5 ((h.take x0').flatMap svC) : KObj) = true) /\ True) /\ (True))))))) /\ ((jhe x0 h) = false -> (true = true /\ wk (slQ 1 1 x0 : Value) (rn (sg 1 [(1,1)]) 3 (slQ 1 1 h.length : Value)) /\ ((some (.cells true 5 ((h.take x0).flatMap svC) : KObj) = some (.cells true 5 (h.flatMap svC) : KObj) /\ belowO 1 (.cells true 5 (h.flatMap svC) : KObj) = true) /\ True)))))
theorem Eserved (h : List Sv) : vF prog msk (dm 0) 100000 true 40 true 34 [slQ 0 2 h.length] (readsT 0 [h.flatMap svC]) (some [])
 (.go 2 (.inv 3 (Nat) (0) [] [] (fun x0 => [(4,nI (x0 : Int)),(3,slQ 1 1 x0),(0,slQ 0 2 h.length),(2,.slice none 0 0)]) (fun x0 => []) (fun x0 => [(true,.cells true 5 ((h.take x0).flatMap svC))]) (fun x0 => []) (fun x0 => (x0 <= List.length h)) (fun x0 => (List.length h - x0)) (fun x0 => .go 3 (.fork (.go 2 (.need (.val (jh0 h x0) (.go 0 (.need (.go 2 (.slot 10 (nI ((x0 : Int) + 1)) (.go 0 (.again [(1,3)]))))))))) (.go 1 (.again [(1,1)]))))))
 (newK ((readsT 0 [h.flatMap svC]) : HT).n 3 (slQ 1 1 h.length) [(true,.cells true 5 (h.flatMap svC))]) = Rserved h:=by kernel_rfl
def Rsame (sp : Value) (h : List Sv) : Prop :=
 (((((jh6 h) : Int) != (jh6 h)) = true -> (.bool false : Value) = sp) /\ ((((jh6 h) : Int) != (jh6 h)) = false -> (true = true /\ (0 <= List.length h) /\ (true = true /\ ((nI 0 : Value) = nI ((0 : Nat) : Int) /\ wkR (slQ 1 2 h.length) /\ wkR (slQ 0 2 h.length) /\ True) /\ (True) /\ (True) /\ (True)) /\ (∀ x0 : Nat,true = true) /\ ∀ x0 : Nat,(x0 <= List.length h) -> (((jhe x0 h) = true -> ((jhc x0 h) /\ ((jh8 h x0) /\ ((jhc x0 h) /\ ((jh8 h x0) /\ (((!((((jh9 h x0).rq : Int) == (jh9 h x0).rq) && ((((jh9 h x0).br : Int) == (jh9 h x0).br) && ((((jh9 h x0).tk : Int) == (jh9 h x0).tk) && ((((jh9 h x0).bg : Int) == (jh9 h x0).bg) && ((((jh9 h x0).nd : Int) == (jh9 h x0).nd) && true)))))) = true -> (.bool false : Value) = sp) /\ ((!((((jh9 h x0).rq : Int) == (jh9 h x0).rq) && ((((jh9 h x0).br : Int) == (jh9 h x0).br) && ((((jh9 h x0).tk : Int) == (jh9 h x0).tk) && ((((jh9 h x0).bg : Int) == (jh9 h x0).bg) && ((((jh9 h x0).nd : Int) == (jh9 h x0).nd) && true)))))) = false -> ((nI (IntKind.wrap .i64 ((x0 : Int) + 1)) : Value) = nI ((x0 : Int) + 1) /\ (∃ x0' : Nat,(x0' <= List.length h) /\ (List.length h - x0') < (List.length h - x0) /\ true = true /\ ((nI ((x0 : Int) + 1) : Value) = nI (x0' : Int) /\ wkR (slQ 1 2 h.length) /\ wkR (slQ 0 2 h.length) /\ True) /\ (True) /\ (True) /\ (True)))))))))) /\ ((jhe x0 h) = false -> (.bool true : Value) = sp)))))
theorem Esame (sp : Value) (h : List Sv) : vF prog msk (dm 0) 100000 true 40 true 33 [slQ 0 2 h.length,slQ 1 2 h.length] (readsT 0 [h.flatMap svC,h.flatMap svC]) (some [])
 (.go 5 (.fork (.auto) (.go 0 (.inv 3 (Nat) (0) [] [] (fun x0 => [(5,nI (x0 : Int)),(1,slQ 1 2 h.length),(0,slQ 0 2 h.length)]) (fun x0 => []) (fun x0 => []) (fun x0 => []) (fun x0 => (x0 <= List.length h)) (fun x0 => (List.length h - x0)) (fun x0 => .go 3 (.fork (.go 1 (.need (.val (jh0 h x0) (.go 1 (.need (.val (jh0 h x0) (.go 0 (.fork (.auto) (.go 1 (.slot 16 (nI ((x0 : Int) + 1)) (.go 0 (.again [])))))))))))) (.auto)))))))
 (fun v _ _ => v = sp) = Rsame sp h:=by kernel_rfl
end
end Go.Proofs.YthdekmpkioikdaaGreat
/- Request: histories copied and compared; right fleets, policies and requests; a policy's history or the error. No condition. -/
namespace Go.Proofs.YthdekmpkioikdaaGreat
open Go Go.K
set_option maxRecDepth 100000
set_option linter.unusedVariables false
set_option linter.unusedSimpArgs false
noncomputable section
attribute [local irreducible] vF
theorem kServed (h : List Sv) (hl : h.length <= 4294967296) {H : Heap} {N : Nat} (hN : H.length = N) {i : Nat} {o : Bool} {z : Nat} (e : H[i]? = some (.cells o z (h.flatMap svC))) :
  KCall prog 34 [.slice (some ⟨i, 0, some 2⟩) h.length h.length] H [] (Is (.slice (some ⟨N, 0, some 1⟩) h.length h.length) (H ++ [.cells true 5 (h.flatMap svC)])) := by
 subst hN
 refine valQ (fun i => .slice (some ⟨i, 0, some 1⟩) h.length h.length) (Eq.mpr (Eserved h) ?_) (plainSV 0 h) (fun n => plainSV n _) rfl rfl (fun _ => rfl) e rfl
 delta Rserved jhd jh6 jhe jhc jh9 jh0 jh8 jh5
 refine ⟨rfl, Nat.zero_le _, ?_, fun _ => rfl, ?_⟩
 ·repeat' first | exact inL_b _ _ | exact plainIL _ _ | exact plainBL _ _ | exact plainRQ _ _ | exact plainSV _ _ | exact plainBR _ _ | exact (inV_rn _ 0 _).symm | exact wk_QR | exact wk_nil _ _ _ (.inr rfl) | exact trivial | exact rfl | exact wk_refl _ | exact wk_nil _ _ _ (.inl rfl) | (exact wk_Q (by omega)) | refine wk_tupL ?_ | refine wk_aggL ?_ | refine ⟨rfl, ?_⟩ | refine ⟨trivial, ?_⟩ | (refine forkD (fun h => ?_) (fun h => ?_)) | (refine forkNe (fun h => ?_) (fun h => ?_)) | (refine forkEq (fun h => ?_) (fun h => ?_)) | refine forkNot ?_ | (refine ⟨vI64 (by omega), ?_⟩) | (refine And.intro (by omega) ?_) | apply And.intro | (exact iEq (by omega)) | (exact vI64 (by omega))
 intro x hx
 have htl : (List.take x h).length = x := take_len hx
 refine forkD (fun h1 => ?_) (fun h1 => ?_)
 ·have hlt : x < h.length := by omega
  have hsn := take_snoc (d := zeroV) hlt
  refine ⟨by omega, partV hlt (by omega), ⟨by omega, by decide, ⟨Nat.le_refl _, by rw [flat_len svC_len, htl]; omega⟩, ⟨by decide, Nat.le_refl _⟩, rfl⟩, rfl, vI64 (by omega), x + 1, by omega, by omega, rfl, ?_⟩
  repeat' first | exact plainIL _ _ | exact plainSV _ _ | exact wk_QR | (exact congrArg (fun l => some (KObj.cells true 5 l)) (by rw [hsn]; exact flat_snoc svC_len _ (h.getD x zeroV) htl.symm)) | exact trivial | exact rfl | exact wk_refl _ | (exact wk_Q (by omega)) | apply And.intro | (exact iEq (by omega))
 ·obtain rfl : x = h.length := by omega
  rw [List.take_length]
  repeat' first | exact plainIL _ _ | exact plainSV _ _ | exact wk_QR | exact trivial | exact rfl | exact wk_refl _ | (exact wk_Q (by omega)) | apply And.intro | (exact iEq (by omega))
theorem kSame (h : List Sv) (hl : h.length <= 4294967296) {H : Heap} {i0 i1 : Nat} {o0 o1 : Bool} {z0 z1 : Nat} (e0 : H[i0]? = some (.cells o0 z0 (h.flatMap svC))) (e1 : H[i1]? = some (.cells o1 z1 (h.flatMap svC))) :
  KCall prog 33 [.slice (some ⟨i0, 0, some 2⟩) h.length h.length, .slice (some ⟨i1, 0, some 2⟩) h.length h.length] H [] (Is (.bool true) H) := by
 refine valRx (Eq.mpr (Esame _ h) ?_) ⟨plainSV 0 h, plainSV 0 h, trivial⟩ rfl (ids := [i0, i1]) ⟨⟨_, _, e0⟩, ⟨_, _, e1⟩, trivial⟩ rfl
 delta Rsame jh6 jhe jhc jh9 jh0 jh8
 refine forkF (bne_self_eq_false _) ⟨rfl, Nat.zero_le _, ?_, fun _ => rfl, ?_⟩
 ·repeat' first | exact plainIL _ _ | exact plainSV _ _ | exact wk_QR | exact trivial | exact rfl | exact wk_refl _ | (exact wk_Q (by omega)) | apply And.intro | (exact iEq (by omega))
 intro k hk
 refine forkD (fun h1 => ?_) (fun h1 => rfl)
 have hlt : k < h.length := by omega
 refine ⟨by omega, partV hlt (by omega), by omega, partV hlt (by omega), forkF (by simp only [beq_self_eq_true, Bool.and_self, Bool.not_true]) ⟨vI64 (by omega), k + 1, by omega, by omega, rfl, ?_⟩⟩
 repeat' first | exact plainIL _ _ | exact plainSV _ _ | exact wk_QR | exact trivial | exact rfl | exact wk_refl _ | (exact wk_Q (by omega)) | apply And.intro | (exact iEq (by omega))
theorem krCheck (f : Fleet) (p : Pol) (l : List Rq) (ht : f.t.length <= 4294967296) (hb : f.b.length <= 4294967296) (hs : shortI f.t) {H : Heap} {i0 i1 i2 : Nat} {o0 o1 o2 : Bool} {z0 z1 z2 : Nat} (e0 : H[i0]? = some (.cells o0 z0 (inL f.t))) (e1 : H[i1]? = some (.cells o1 z1 (f.b.flatMap intC))) (e2 : H[i2]? = some (.cells o2 z2 (l.flatMap rqC))) :
  KCall prog 31 [fleetV f i0 i1, .agg ⟨polC p⟩, .slice (some ⟨i2, 0, some 2⟩) l.length l.length] H [] (Is (.int .i64 (errAll f p l)) H) := by
 refine valRx (Eq.mpr (ErCheck _ f p l) ?_) ⟨inL_b 0 _, plainIL 0 _, plainRQ 0 _, trivial⟩ rfl (ids := [i0, i1, i2]) ⟨⟨_, _, e0⟩, ⟨_, _, e1⟩, ⟨_, _, e2⟩, trivial⟩ rfl
 delta RrCheck jhb jha jh3 jh1; unfold errAll
 refine ⟨⟨rfl, rfl, trivial⟩, fun H' _ hd => krFl f ht hb hs hd.1 hd.2.1, forkNe (fun c => iEq ?_) (fun c => ⟨trivial, fun H' _ _ => krPol p H', forkNe (fun d => iEq ?_) (fun d => ⟨⟨rfl, rfl, rfl, trivial⟩, fun H' _ hd => krRq f l ht hd.1 hd.2.1 hd.2.2.1, iEq ?_⟩)⟩)⟩
 ·rw [first2_1 c, first2_1 c]
 ·rw [first2_2 c, first2_1 d]
 ·rw [first2_2 c, first2_2 d]
theorem kCheck (f : Fleet) (p : Pol) (l : List Rq) (ht : f.t.length <= 4294967296) (hb : f.b.length <= 4294967296) (hs : shortI f.t) {H : Heap} {i0 i1 i2 : Nat} {o0 o1 o2 : Bool} {z0 z1 z2 : Nat} (e0 : H[i0]? = some (.cells o0 z0 (inL f.t))) (e1 : H[i1]? = some (.cells o1 z1 (f.b.flatMap intC))) (e2 : H[i2]? = some (.cells o2 z2 (l.flatMap rqC))) :
  KCall prog 30 [fleetV f i0 i1, .agg ⟨polC p⟩, .slice (some ⟨i2, 0, some 2⟩) l.length l.length] H [] (Is (.int .i64 (errAll f p l)) H) := by
 refine valRx (Eq.mpr (ECheck _ f p l) ?_) ⟨inL_b 0 _, plainIL 0 _, plainRQ 0 _, trivial⟩ rfl (ids := [i0, i1, i2]) ⟨⟨_, _, e0⟩, ⟨_, _, e1⟩, ⟨_, _, e2⟩, trivial⟩ rfl
 delta RCheck jhb jha jh3 jh1; unfold errAll
 refine ⟨⟨rfl, rfl, trivial⟩, fun H' _ hd => kFl f ht hb hs hd.1 hd.2.1, trivial, fun H' _ _ => kPol p H', ⟨rfl, rfl, rfl, trivial⟩, fun H' _ hd => kRq f l ht hd.1 hd.2.1 hd.2.2.1, forkNe (fun c => iEq ?_) (fun c => forkNe (fun d => iEq ?_) (fun d => forkNe (fun e => iEq ?_) (fun e => iEq ?_)))⟩
 ·rw [first2_1 c, first2_1 c]
 ·rw [first2_2 c, first2_1 d]
 ·rw [first2_2 c, first2_2 d]
 ·rw [first2_2 c, first2_2 d, e]
abbrev runV (i : Nat) (r : List Sv × Int) : Value := .tuple #[.slice (some ⟨i, 0, some 2⟩) r.1.length r.1.length, .int .i64 r.2]
theorem errAll_0 {f : Fleet} {p : Pol} {l : List Rq} (h : errAll f p l = 0) : errFl f = 0 /\ errPol p = 0 /\ errRq f.t.length l = 0 := by
 obtain ⟨h1, h2⟩ := first2_0 h
 obtain ⟨h3, h4⟩ := first2_0 h1
 exact ⟨h3, h4, h2⟩
theorem krRun (f : Fleet) (p : Pol) (l : List Rq) (ht : f.t.length <= 4294967296) (hb : f.b.length <= 4294967296) (hs : shortI f.t) {H : Heap} {L : Nat} (hL : H.length = L) {i0 i1 i2 : Nat} {o0 o1 o2 : Bool} {z0 z1 z2 : Nat} (e0 : H[i0]? = some (.cells o0 z0 (inL f.t))) (e1 : H[i1]? = some (.cells o1 z1 (f.b.flatMap intC))) (e2 : H[i2]? = some (.cells o2 z2 (l.flatMap rqC))) :
  KCall prog 32 [fleetV f i0 i1, .agg ⟨polC p⟩, .slice (some ⟨i2, 0, some 2⟩) l.length l.length] H [] (Is (runV L (fRun f p l)) (H ++ [.cells true 5 ((fRun f p l).1.flatMap svC)])) := by
 subst hL
 refine valNs (fun i => runV i (fRun f p l)) (css := [inL f.t, f.b.flatMap intC, l.flatMap rqC]) (new := [.cells true 5 ((fRun f p l).1.flatMap svC)]) (Eq.mpr (ErRun f p l) ?_) ⟨inL_b 0 _, plainIL 0 _, plainRQ 0 _, trivial⟩ ⟨⟨_, _, rfl, plainSV 0 _⟩, trivial⟩ rfl rfl (fun _ => rfl) (ids := [i0, i1, i2]) ⟨⟨_, _, e0⟩, ⟨_, _, e1⟩, ⟨_, _, e2⟩, trivial⟩ rfl
 delta RrRun jh3 jh1 jh2
 refine ⟨⟨rfl, rfl, rfl, trivial⟩, fun H' _ hd => krCheck f p l ht hb hs hd.1 hd.2.1 hd.2.2.1, forkNe (fun e => ?_) (fun e => ?_)⟩
 ·rw [show fRun f p l = ([], errAll f p l) from if_neg e]
  repeat' first | exact inL_b _ _ | exact plainIL _ _ | exact plainBL _ _ | exact plainRQ _ _ | exact plainSV _ _ | exact plainBR _ _ | exact (inV_rn _ 0 _).symm | exact wk_QR | exact wk_nil _ _ _ (.inr rfl) | exact trivial | exact rfl | exact wk_refl _ | exact wk_nil _ _ _ (.inl rfl) | (exact wk_Q (by omega)) | refine wk_tupL ?_ | refine wk_aggL ?_ | refine ⟨rfl, ?_⟩ | refine ⟨trivial, ?_⟩ | (refine forkD (fun h => ?_) (fun h => ?_)) | (refine forkNe (fun h => ?_) (fun h => ?_)) | (refine forkEq (fun h => ?_) (fun h => ?_)) | refine forkNot ?_ | (refine ⟨vI64 (by omega), ?_⟩) | (refine And.intro (by omega) ?_) | apply And.intro | (exact iEq (by omega)) | (exact vI64 (by omega))
 ·obtain ⟨c1, c2, c3⟩ := errAll_0 e
  refine ⟨⟨rfl, rfl, rfl, trivial⟩, fun H' hL hd => kPlay f p l (flOk c1) (lsOk c3) hL hd.1 hd.2.1 hd.2.2.1, ?_⟩
  rw [show fRun f p l = (playF f p l, 0) from if_pos e]
  repeat' first | exact inL_b _ _ | exact plainIL _ _ | exact plainBL _ _ | exact plainRQ _ _ | exact plainSV _ _ | exact plainBR _ _ | exact (inV_rn _ 0 _).symm | exact wk_QR | exact wk_nil _ _ _ (.inr rfl) | exact trivial | exact rfl | exact wk_refl _ | exact wk_nil _ _ _ (.inl rfl) | (exact wk_Q (by omega)) | refine wk_tupL ?_ | refine wk_aggL ?_ | refine ⟨rfl, ?_⟩ | refine ⟨trivial, ?_⟩ | (refine forkD (fun h => ?_) (fun h => ?_)) | (refine forkNe (fun h => ?_) (fun h => ?_)) | (refine forkEq (fun h => ?_) (fun h => ?_)) | refine forkNot ?_ | (refine ⟨vI64 (by omega), ?_⟩) | (refine And.intro (by omega) ?_) | apply And.intro | (exact iEq (by omega)) | (exact vI64 (by omega))
end
end Go.Proofs.YthdekmpkioikdaaGreat
/- Closed calls: blocks that are read,by their addresses. No condition. -/
namespace Go.Proofs.YthdekmpkioikdaaGreat
set_option linter.unusedSimpArgs false
set_option linter.unusedVariables false
open Go Go.K
noncomputable section
abbrev sL (i n c : Nat) : Value:=.slice (some ⟨i,0,none⟩) n c
def InsA (H : Heap) (σ : Nat -> Option Nat) : List Nat -> List (List Value) -> Prop
 | [],[] => True
 | i :: is,c :: cs => (∃ own z,H[i]? = some (KObj.cells own z (c.map (rn σ 3)))) /\ InsA H σ is cs
 | _,_ => False
theorem InsA.len {H : Heap} {σ : Nat -> Option Nat} : ∀ {ids : List Nat} {css : List (List Value)},InsA H σ ids css -> ids.length = css.length
 | [],[],_ => rfl
 | i :: is,c :: cs,h => by rw [List.length_cons,List.length_cons,h.2.len]
theorem InsA.get {H : Heap} {σ : Nat -> Option Nat} : ∀ {ids : List Nat} {css : List (List Value)},InsA H σ ids css -> ∀ (k : Nat) (cs : List Value),css[k]? = some cs -> ∃ id own z,ids[k]? = some id /\ H[id]? = some (KObj.cells own z (cs.map (rn σ 3)))
 | [],[],_,k,d,e => by cases e
 | i :: is,c :: cs,h,0,d,e => by cases e; obtain ⟨own,z,h1⟩:=h.1; exact ⟨i,own,z,rfl,h1⟩
 | i :: is,c :: cs,h,k + 1,d,e => h.2.get k d e
abbrev jz0 : List Value:=[nI 1,nI 0,nI 1,nI 1,nI 10,nI 1,nI 0,nI 2,nI 1,nI 0,nI 0,nI 5,nI 1,nI 0,nI 3,nI 2,nI 0,nI 0,nI 5,nI 3,nI 0]
abbrev jz1 : List Value:=[.agg #[nI 1,nI 0,nI 1,nI 1,nI 1],.agg #[sL 0 2 2,sL 1 1 1],sL 2 3 3,sL 3 1 1]
abbrev jz2 : KObj:=.cells false 0 [nI 0,nI 4]
abbrev jz3 : KObj:=.cells false 0 [nI 4,nI 0]
abbrev jz4 : KObj:=.cells false 0 [nI 0]
abbrev jz5 : KObj:=.cells false 0 [sL 3 2 2,sL 4 2 2]
abbrev jz6 : KObj:=.cells false 0 jz0
abbrev jz7 : List Value:=[.agg #[nI 1,nI 0,nI 1,nI 1,nI 1],.agg #[sL 0 2 2,sL 1 1 1],sL 2 3 3,sL 3 1 1,nI 32]
abbrev jz8 : Hint:=.go 6 (.into (some [7,8]) (.go 64 (.into (some (List.range' 7 8)) (.go 89 (.into (some (List.range' 7 10)) (.go 89 (.into (some (List.range' 7 12)) (.go 74 (.into (some (List.range' 7 14)) (.go 3 (.into (some (List.range' 7 14)) (.go 11 (.into (some (List.range' 7 14)) (.go 437 (.into (some (List.range' 7 20)) (.go 79 (.into (some (List.range' 7 26)) (.go 28 (.into (some (List.range' 7 26)) (.go 11 (.into (some (List.range' 7 26)) (.auto))))))))))))))))))))))
abbrev jz9 : Hint:=.go 6 (.into (some [7,8]) (.go 64 (.into (some (List.range' 7 8)) (.go 89 (.into (some (List.range' 7 10)) (.go 74 (.into (some (List.range' 7 12)) (.go 3 (.into (some (List.range' 7 12)) (.go 11 (.into (some (List.range' 7 12)) (.go 366 (.into (some (List.range' 7 18)) (.go 55 (.into (some (List.range' 7 22)) (.go 28 (.into (some (List.range' 7 22)) (.go 11 (.into (some (List.range' 7 22)) (.auto))))))))))))))))))))
abbrev jza : List Value:=[.bool false,.bool false,.bool true,.bool true,.bool false,.bool false,.bool true,.bool false,.bool true,.bool false,.bool false,.bool true,.bool false,.bool true]
abbrev jzb : KObj:=.cells false 0 [sL 4 2 2,sL 5 2 2]
abbrev jzc : Nat × KObj:=(0,.cells false 0 [sL 3 2 2,sL 4 2 2])
abbrev jzd : Nat × KObj:=(1,.cells false 0 [nI 0])
abbrev jze : Nat × KObj:=(2,.cells false 0 jz0)
abbrev jzf : Nat × KObj:=(3,.cells false 0 [nI 0,nI 4])
abbrev jzg : Nat × KObj:=(4,.cells false 0 [nI 4,nI 0])
abbrev jzh : Hint:=.go 6 (.into (some [7,8]) (.go 64 (.into (some (List.range' 7 8)) (.go 74 (.into (some (List.range' 7 10)) (.go 3 (.into (some (List.range' 7 10)) (.go 11 (.into (some (List.range' 7 10)) (.go 275 (.into (some (List.range' 7 16)) (.go 31 (.into (some (List.range' 7 18)) (.go 28 (.into (some (List.range' 7 18)) (.go 11 (.into (some (List.range' 7 18)) (.auto))))))))))))))))))
abbrev jzi : Nat × KObj:=(0,.cells false 0 [sL 4 2 2,sL 5 2 2])
abbrev jzj : List Value:=[.agg #[sL 0 2 2,sL 1 1 1],.agg #[nI 1,nI 0,nI 1,nI 1,nI 1],sL 2 3 3]
abbrev jzk:=readsT 0 [[sL 3 2 2,sL 4 2 2],[nI 0],jz0,[nI 0,nI 4],[nI 4,nI 0]]
abbrev jzl : Nat × KObj:=(4,.cells false 0 [nI 0,nI 4])
abbrev jzm : Nat × KObj:=(5,.cells false 0 [nI 4,nI 0])
abbrev jzn : List Value:=[nI 0,nI 0,nI 0,nI 4,nI 14,nI 2,nI 0,nI 14,nI 18,nI 23,nI 1,nI 0,nI 23,nI 23,nI 28]
abbrev jzo : Hint:=.go 41 (.into (some [7,8]) (.go 64 (.into (some (List.range' 7 8)) (.go 89 (.into (some (List.range' 7 10)) (.go 89 (.into (some (List.range' 7 12)) (.go 74 (.into (some (List.range' 7 14)) (.go 3 (.into (some (List.range' 7 14)) (.go 11 (.into (some (List.range' 7 14)) (.go 94 (.into (some (List.range' 7 14)) (.go 3 (.into (some (List.range' 7 15)) (.go 79 (.into (some (List.range' 7 21)) (.go 28 (.into (some (List.range' 7 21)) (.go 11 (.into (some (List.range' 7 21)) (.auto))))))))))))))))))))))))
abbrev jzp : Value:=.tuple #[nI 42,.bool false]
abbrev jzq : List Value:=[nI 1,nI 0,nI 2]
abbrev jzr (H' : Heap) : Prop:=H'[0]? = some jz5 /\ H'[1]? = some jz4 /\ H'[2]? = some jz6 /\ H'[3]? = some jz2 /\ H'[4]? = some jz3 /\ True
abbrev jz1q : KObj:=.cells true 1 [nI 0,nI 4]
abbrev jz1r : KObj:=.cells true 1 [nI 4,nI 0]
abbrev jzs : Prop:=(someR jz1q) /\ (someR jz1r) /\ True
abbrev jzt : KObj:=.cells false 0 [sL 6 2 2]
abbrev jzu : Prop:=(someR jz5) /\ (someR jz4) /\ (someR jz6) /\ (someR jz2) /\ (someR jz3) /\ True
abbrev jzv : KObj:=.cells true 1 [nI 0]
abbrev jzw : KObj:=.cells true 1 jzq
abbrev jzx : List Value:=[nI 1,nI 2,nI 0]
abbrev jzy : List Value:=[nI 2,nI 0,nI 1]
abbrev jzz : List Value:=[nI 2,nI 1,nI 0]
abbrev jz10 : List Value:=[.agg #[nI 1,nI 0,nI 1,nI 1,nI 1],.agg #[sL 0 2 2,sL 1 1 1],sL 2 3 3]
abbrev jz11 : List Value:=jz1
abbrev jz12 : KObj:=.cells false 0 [sL 6 3 3]
abbrev jz13 : List Value:=[.slice none 0 0]
abbrev jz14 : List Value:=jz7
abbrev jz15 : List (Bool × KObj):=[(false,.cells true 1 [sL 6 3 3]),(false,.cells true 1 jzq)]
abbrev jz2y : KObj:=.cells true 1 [nI 0,nI 1]
abbrev jz16 : Prop:=(someR jz2) /\ (someR jz3) /\ (someR jz2y) /\ True
abbrev jz2z : KObj:=.cells true 1 [nI 0,nI 2]
abbrev jz17 : Prop:=(someR jz2) /\ (someR jz3) /\ (someR jz2z) /\ True
abbrev jz18 : KObj:=.cells true 7 jz0
abbrev jz19 : KObj:=.cells false 0 [sL 6 1 1]
abbrev jz1a : Prop:=(someR jz2) /\ (someR jz3) /\ (someR (.cells true 1 jzx : KObj)) /\ True
abbrev jz1b : Prop:=(someR jz2) /\ (someR jz3) /\ (someR (.cells true 1 jzy : KObj)) /\ True
abbrev jz1c : Prop:=(someR jz2) /\ (someR jz3) /\ (someR (.cells true 1 jzz : KObj)) /\ True
abbrev jz1d : Value:=.tuple #[nI 29,.bool false]
abbrev jz1e : Value:=.tuple #[nI 10,.bool false]
abbrev jz1f : Value:=.tuple #[nI 28,.bool false]
abbrev jz1g : Value:=.tuple #[nI 32,.bool false]
abbrev jz1h : Value:=.tuple #[nI 15,.bool false]
abbrev jz1i : Value:=.tuple #[nI 19,.bool false]
abbrev jz1j : Value:=.tuple #[nI 13,.bool false]
abbrev jz1k : Value:=.tuple #[nI 31,.bool false]
abbrev jz1l : Value:=.tuple #[nI 35,.bool false]
abbrev jz1m : Value:=.tuple #[nI 18,.bool false]
abbrev jz1n : Value:=.tuple #[nI 22,.bool false]
abbrev jz1o : Nat × KObj:=(3,.cells false 0 [sL 6 2 2])
abbrev jz1p : Value:=.tuple #[nI 0,.bool false]
abbrev jz1s : Prop:=(someR jz5) /\ (someR jz4) /\ (someR jz6) /\ (someR (.cells true 1 jz13 : KObj)) /\ (someR jz2) /\ (someR jz3) /\ True
abbrev jz1t : Value:=.bool false
abbrev jz1u:=some (List.range' 6 14)
abbrev jz1v (H' : Heap):=Is (.bool true) H'
abbrev jz1w : Value:=.tuple #[nI 42,.bool false]
abbrev jz1x:=readsT 0 [[sL 4 2 2,sL 5 2 2],[nI 0],jz0,[sL 6 2 2],[nI 0,nI 4],[nI 4,nI 0],[nI 0,nI 1]]
abbrev jz1y:=readsT 0 [[sL 4 2 2,sL 5 2 2],[nI 0],jz0,[sL 6 2 2],[nI 0,nI 4],[nI 4,nI 0],[nI 0,nI 2]]
abbrev jz1z:=readsT 0 [[sL 4 2 2,sL 5 2 2],[nI 0],jz0,[sL 6 2 2],[nI 0,nI 4],[nI 4,nI 0],[nI 1,nI 0]]
abbrev jz20:=readsT 0 [[sL 4 2 2,sL 5 2 2],[nI 0],jz0,[sL 6 2 2],[nI 0,nI 4],[nI 4,nI 0],[nI 1,nI 2]]
abbrev jz21:=readsT 0 [[sL 4 2 2,sL 5 2 2],[nI 0],jz0,[sL 6 2 2],[nI 0,nI 4],[nI 4,nI 0],[nI 2,nI 0]]
abbrev jz22:=readsT 0 [[sL 4 2 2,sL 5 2 2],[nI 0],jz0,[sL 6 2 2],[nI 0,nI 4],[nI 4,nI 0],[nI 2,nI 1]]
abbrev jz23 : Value:=.bool true
abbrev jz24 : Prop:=(someR jz2) /\ (someR jz3) /\ (someR jzw) /\ True
abbrev jz25 : KObj:=.cells true 1 [nI 1,nI 0]
abbrev jz26 : KObj:=.cells true 1 [nI 1,nI 2]
abbrev jz27 : KObj:=.cells true 1 [nI 2,nI 0]
abbrev jz28 : KObj:=.cells true 1 [nI 2,nI 1]
abbrev jz29 : List Value:=[.agg #[sL 0 2 2,sL 1 1 1],.agg #[nI 1,nI 0,nI 1,nI 1,nI 1],sL 2 3 3,nI 32,sL 3 14 14]
abbrev jz2a:=readsT 0 [[sL 4 2 2,sL 5 2 2],[nI 0],jz0,[sL 6 1 1],[nI 0,nI 4],[nI 4,nI 0],[nI 0]]
abbrev jz2b:=readsT 0 [[sL 4 2 2,sL 5 2 2],[nI 0],jz0,[sL 6 1 1],[nI 0,nI 4],[nI 4,nI 0],[nI 1]]
abbrev jz2c:=readsT 0 [[sL 4 2 2,sL 5 2 2],[nI 0],jz0,[sL 6 1 1],[nI 0,nI 4],[nI 4,nI 0],[nI 2]]
abbrev jz2d:=some (List.range' 5 100)
abbrev jz2e : KObj:=.cells true 1 jza
abbrev jz2f:=readsT 0 [[sL 4 2 2,sL 5 2 2],[nI 0],jz0,[sL 6 3 3],[nI 0,nI 4],[nI 4,nI 0],jzq]
abbrev jz2g:=readsT 0 [[sL 4 2 2,sL 5 2 2],[nI 0],jz0,[sL 6 3 3],[nI 0,nI 4],[nI 4,nI 0],jzx]
abbrev jz2h:=readsT 0 [[sL 4 2 2,sL 5 2 2],[nI 0],jz0,[sL 6 3 3],[nI 0,nI 4],[nI 4,nI 0],jzy]
abbrev jz2i:=readsT 0 [[sL 4 2 2,sL 5 2 2],[nI 0],jz0,[sL 6 3 3],[nI 0,nI 4],[nI 4,nI 0],jzz]
abbrev jz2j : List Value:=[.agg #[sL 0 2 2,sL 1 1 1],.agg #[nI 1,nI 0,nI 1,nI 1,nI 1],sL 2 3 3,nI 32]
abbrev jz2k : Nat × KObj:=(3,.cells false 0 [sL 6 3 3])
abbrev jz2l:=readsT 0 [[sL 4 2 2,sL 5 2 2],[nI 0],jz0,jz13,[nI 0,nI 4],[nI 4,nI 0]]
abbrev jz2m : KObj:=.cells true 1 [nI 1]
abbrev jz2n : KObj:=.cells true 1 [nI 2]
abbrev jz2o : Value:=.tuple #[.bool true,nI 0]
abbrev jz2p : List Value:=[nI 0,nI 1,nI 2]
abbrev jz2q : List Value:=[nI 0,nI 2,nI 1]
abbrev jz2r (H' : Heap):=Is (.bool false) H'
abbrev jz2s:=some (List.range' 5 163)
abbrev jz2t:=some (List.range' 5 213)
abbrev jz2u:=some (List.range' 5 285)
abbrev jz2v : Prop:=(someR jzv) /\ (someR jz18) /\ jzs
abbrev jz2w:=some (List.range' 5 50)
abbrev jz2x:=some (List.range' 5 57)
abbrev jz30 : KObj:=.cells true 1 [sL 146 3 3]
abbrev jz31 : Value:=.tuple #[nI 60,nI 0]
abbrev jz32 : List Value:=[.agg #[sL 0 2 2,sL 1 1 1],.agg #[nI 2,nI 12,nI 10]]
abbrev jz33 : Nat × KObj:=(3,.cells false 0 [sL 6 1 1])
abbrev jz34:=some [5,6,7,8,9,10,11]
abbrev jz35 : Prop:=(someR jz2) /\ (someR jz3) /\ (someR jz2m) /\ True
abbrev jz36 : Prop:=(someR jz2) /\ (someR jz3) /\ (someR jz25) /\ True
abbrev jz37 : Prop:=(someR jz2) /\ (someR jz3) /\ (someR jz26) /\ True
abbrev jz38 : Prop:=(someR jz2) /\ (someR jz3) /\ (someR jz2n) /\ True
abbrev jz39 : Prop:=(someR jz2) /\ (someR jz3) /\ (someR jz27) /\ True
abbrev jz3a : Prop:=(someR jz2) /\ (someR jz3) /\ (someR jz28) /\ True
abbrev jz3b : Prop:=(someR jz2) /\ (someR jz3) /\ (someR jzv) /\ True
end
end Go.Proofs.YthdekmpkioikdaaGreat
/- Closed calls of the chapter's examples. Printed by a program. No condition. -/
namespace Go.Proofs.YthdekmpkioikdaaGreat
set_option linter.unusedSimpArgs false
open Go Go.K
set_option maxRecDepth 1000000
set_option maxHeartbeats 4000000
set_option linter.unusedVariables false
noncomputable section
attribute [local irreducible] vF
def R30_k (sp : Value) : Prop :=
 (nI 0 : Value) = sp
theorem E30_k (sp : Value) : vF prog msk (dm 0) 100000 true 40 true 30 jzj jzk (some [])
 (.auto)
 (fun v _ _ => v = sp) = R30_k sp:=by kernel_rfl
theorem P30_k : R30_k (nI 0):=rfl
theorem C30_k {H : Heap} (ids : List Nat) (h : InsA H (sgR 0 ids) ids [[sL 3 2 2,sL 4 2 2],[nI 0],jz0,[nI 0,nI 4],[nI 4,nI 0]]) : KCall prog 30 ((jzj : List Value).map (rn (sgR 0 ids) 3)) H [] (Is (nI 0) H) :=
 valRA (css:=[[sL 3 2 2,sL 4 2 2],[nI 0],jz0,[nI 0,nI 4],[nI 4,nI 0]]) (Eq.mpr (E30_k _) P30_k) rfl ids h.len h.get
def R39_l (sp : Value) : Prop :=
 (.tuple #[nI 60,nI 0] : Value) = sp
theorem E39_l (sp : Value) : vF prog msk (dm 0) 100000 true 40 true 39 jz32 (readsT 0 [[sL 2 2 2,sL 3 2 2],[nI 0],[nI 0,nI 4],[nI 4,nI 0]]) (some [])
 (.auto)
 (fun v _ _ => v = sp) = R39_l sp:=by kernel_rfl
theorem P39_l : R39_l jz31:=rfl
theorem C39_l {H : Heap} (ids : List Nat) (h : InsA H (sgR 0 ids) ids [[sL 2 2 2,sL 3 2 2],[nI 0],[nI 0,nI 4],[nI 4,nI 0]]) : KCall prog 39 ((jz32 : List Value).map (rn (sgR 0 ids) 3)) H [] (Is jz31 H) :=
 valRA (css:=[[sL 2 2 2,sL 3 2 2],[nI 0],[nI 0,nI 4],[nI 4,nI 0]]) (Eq.mpr (E39_l _) P39_l) rfl ids h.len h.get
end
end Go.Proofs.YthdekmpkioikdaaGreat
/- Closed calls of the chapter's examples. Printed by a program. No condition. -/
namespace Go.Proofs.YthdekmpkioikdaaGreat
set_option linter.unusedSimpArgs false
open Go Go.K
set_option maxRecDepth 1000000
set_option maxHeartbeats 4000000
set_option linter.unusedVariables false
noncomputable section
attribute [local irreducible] vF
def R29_j : Prop :=
 (jzu /\ (∀ H' : Heap,H'.length = 7 -> (jzr H') -> KCall prog 30 jzj H' [] (Is (nI 0) H')) /\ (true = true /\ wk (.tuple #[sL 98 3 3,nI 0] : Value) (rn (sg 5 [(5,98)]) 3 (.tuple #[sL 5 3 3,nI 0] : Value)) /\ (wkO (.cells true 5 jzn : KObj) (rno (sg 5 [(5,98)]) 3 (.cells true 5 jzn : KObj)) /\ True)))
theorem E29_j : vF prog msk (dm 0) 100000 true 40 true 29 jzj jzk (some [])
 (.go 6 (.ans [jzc,jzd,jze,jzf,jzg] (nI 0) [] (.go 29 (.into jz34 (.go 360 (.into (some (List.range' 5 19)) (.go 150 (.into (some (List.range' 5 29)) (.go 80 (.into (some (List.range' 5 32)) (.go 84 (.into (some (List.range' 5 35)) (.go 70 (.into (some (List.range' 5 38)) (.go 18 (.into (some ([43] ++ List.range' 5 38)) (.go 19 (.into (some (List.range' 5 39)) (.go 67 (.into (some (List.range' 5 44)) (.go 542 (.into (some (List.range' 5 47)) (.go 109 (.into jz2x (.go 114 (.into (some (List.range' 5 60)) (.go 122 (.into (some (List.range' 5 63)) (.go 267 (.into (some (List.range' 5 66)) (.go 18 (.into (some ([71] ++ List.range' 5 66)) (.go 19 (.into (some (List.range' 5 67)) (.go 67 (.into (some (List.range' 5 72)) (.go 255 (.into (some (List.range' 5 75)) (.go 84 (.into (some (List.range' 5 85)) (.go 77 (.into (some (List.range' 5 88)) (.go 18 (.into (some ([93] ++ List.range' 5 88)) (.go 19 (.into (some (List.range' 5 89)) (.go 67 (.into (some (List.range' 5 94)) (.go 59 (.again [(5,98)]))))))))))))))))))))))))))))))))))))))))))))))))))
 (newK jzk.n 3 (.tuple #[sL 5 3 3,nI 0]) [(false,.cells true 5 jzn)]) = R29_j:=by kernel_rfl
theorem P29_j : R29_j:=⟨⟨rfl,rfl,rfl,rfl,rfl,trivial⟩,fun H' _ h => C30_k [0,1,2,3,4] ⟨⟨_,_,h.1⟩,⟨_,_,h.2.1⟩,⟨_,_,h.2.2.1⟩,⟨_,_,h.2.2.2.1⟩,⟨_,_,h.2.2.2.2.1⟩,trivial⟩,⟨rfl,wk_of_eq rfl,wkO_of_eq rfl,trivial⟩⟩
theorem C29_j {H : Heap} (ids : List Nat) (h : InsA H (sgR 0 ids) ids [[sL 3 2 2,sL 4 2 2],[nI 0],jz0,[nI 0,nI 4],[nI 4,nI 0]]) : KCall prog 29 ((jzj : List Value).map (rn (sgR 0 ids) 3)) H [] (Is (rn (sgUp 5 H.length) 3 (.tuple #[sL 5 3 3,nI 0])) (H ++ [rno (sgUp 5 H.length) 3 (.cells true 5 jzn)])) :=
 valNA (css:=[[sL 3 2 2,sL 4 2 2],[nI 0],jz0,[nI 0,nI 4],[nI 4,nI 0]]) (v:=.tuple #[sL 5 3 3,nI 0]) (new:=[(false,.cells true 5 jzn)]) (Eq.mpr E29_j P29_j) rfl rfl rfl rfl ids h.len h.get
end
end Go.Proofs.YthdekmpkioikdaaGreat
/- Closed calls of the chapter's examples. Printed by a program. No condition. -/
namespace Go.Proofs.YthdekmpkioikdaaGreat
set_option linter.unusedSimpArgs false
open Go Go.K
set_option maxRecDepth 1000000
set_option maxHeartbeats 4000000
set_option linter.unusedVariables false
noncomputable section
attribute [local irreducible] vF
def R109_0 (sp : Value) : Prop :=
 (.tuple #[nI 0,.bool false] : Value) = sp
theorem E109_0 (sp : Value) : vF prog msk (dm 0) 100000 true 40 true 109 jz1 jz2l (some [])
 (.go 6 (.into (some [6,7]) (.go 49 (.into (some (List.range' 6 8)) (.go 3 (.into (some (List.range' 6 8)) (.go 11 (.into (some (List.range' 6 8)) (.go 200 (.into jz1u (.go 7 (.into jz1u (.go 28 (.into jz1u (.go 11 (.into jz1u (.auto)))))))))))))))))
 (fun v _ _ => v = sp) = R109_0 sp:=by kernel_rfl
theorem P109_0 : R109_0 jz1p:=rfl
theorem C109_0 {H : Heap} (ids : List Nat) (h : InsA H (sgR 0 ids) ids [[sL 4 2 2,sL 5 2 2],[nI 0],jz0,jz13,[nI 0,nI 4],[nI 4,nI 0]]) : KCall prog 109 (jz11.map (rn (sgR 0 ids) 3)) H [] (Is jz1p H) :=
 valRA (css:=[[sL 4 2 2,sL 5 2 2],[nI 0],jz0,jz13,[nI 0,nI 4],[nI 4,nI 0]]) (Eq.mpr (E109_0 _) P109_0) rfl ids h.len h.get
def R109_6 (sp : Value) : Prop :=
 (.tuple #[nI 29,.bool false] : Value) = sp
theorem E109_6 (sp : Value) : vF prog msk (dm 0) 100000 true 40 true 109 jz1 jz2a (some [])
 jzh
 (fun v _ _ => v = sp) = R109_6 sp:=by kernel_rfl
theorem P109_6 : R109_6 jz1d:=rfl
theorem C109_6 {H : Heap} (ids : List Nat) (h : InsA H (sgR 0 ids) ids [[sL 4 2 2,sL 5 2 2],[nI 0],jz0,[sL 6 1 1],[nI 0,nI 4],[nI 4,nI 0],[nI 0]]) : KCall prog 109 (jz11.map (rn (sgR 0 ids) 3)) H [] (Is jz1d H) :=
 valRA (css:=[[sL 4 2 2,sL 5 2 2],[nI 0],jz0,[sL 6 1 1],[nI 0,nI 4],[nI 4,nI 0],[nI 0]]) (Eq.mpr (E109_6 _) P109_6) rfl ids h.len h.get
def R109_3 (sp : Value) : Prop :=
 jz1w = sp
theorem E109_3 (sp : Value) : vF prog msk (dm 0) 100000 true 40 true 109 jz1 jz1x (some [])
 jz9
 (fun v _ _ => v = sp) = R109_3 sp:=by kernel_rfl
theorem P109_3 : R109_3 jzp:=rfl
theorem C109_3 {H : Heap} (ids : List Nat) (h : InsA H (sgR 0 ids) ids [[sL 4 2 2,sL 5 2 2],[nI 0],jz0,[sL 6 2 2],[nI 0,nI 4],[nI 4,nI 0],[nI 0,nI 1]]) : KCall prog 109 (jz11.map (rn (sgR 0 ids) 3)) H [] (Is jzp H) :=
 valRA (css:=[[sL 4 2 2,sL 5 2 2],[nI 0],jz0,[sL 6 2 2],[nI 0,nI 4],[nI 4,nI 0],[nI 0,nI 1]]) (Eq.mpr (E109_3 _) P109_3) rfl ids h.len h.get
def R109_9 (sp : Value) : Prop :=
 jz1w = sp
theorem E109_9 (sp : Value) : vF prog msk (dm 0) 100000 true 40 true 109 jz1 (readsT 0 [[sL 4 2 2,sL 5 2 2],[nI 0],jz0,[sL 6 3 3],[nI 0,nI 4],[nI 4,nI 0],jz2p]) (some [])
 jz8
 (fun v _ _ => v = sp) = R109_9 sp:=by kernel_rfl
theorem P109_9 : R109_9 jzp:=rfl
theorem C109_9 {H : Heap} (ids : List Nat) (h : InsA H (sgR 0 ids) ids [[sL 4 2 2,sL 5 2 2],[nI 0],jz0,[sL 6 3 3],[nI 0,nI 4],[nI 4,nI 0],jz2p]) : KCall prog 109 (jz11.map (rn (sgR 0 ids) 3)) H [] (Is jzp H) :=
 valRA (css:=[[sL 4 2 2,sL 5 2 2],[nI 0],jz0,[sL 6 3 3],[nI 0,nI 4],[nI 4,nI 0],jz2p]) (Eq.mpr (E109_9 _) P109_9) rfl ids h.len h.get
def R109_a (sp : Value) : Prop :=
 jz1w = sp
theorem E109_a (sp : Value) : vF prog msk (dm 0) 100000 true 40 true 109 jz1 jz1y (some [])
 jz9
 (fun v _ _ => v = sp) = R109_a sp:=by kernel_rfl
theorem P109_a : R109_a jzp:=rfl
theorem C109_a {H : Heap} (ids : List Nat) (h : InsA H (sgR 0 ids) ids [[sL 4 2 2,sL 5 2 2],[nI 0],jz0,[sL 6 2 2],[nI 0,nI 4],[nI 4,nI 0],[nI 0,nI 2]]) : KCall prog 109 (jz11.map (rn (sgR 0 ids) 3)) H [] (Is jzp H) :=
 valRA (css:=[[sL 4 2 2,sL 5 2 2],[nI 0],jz0,[sL 6 2 2],[nI 0,nI 4],[nI 4,nI 0],[nI 0,nI 2]]) (Eq.mpr (E109_a _) P109_a) rfl ids h.len h.get
def R109_5 (sp : Value) : Prop :=
 jz1w = sp
theorem E109_5 (sp : Value) : vF prog msk (dm 0) 100000 true 40 true 109 jz1 (readsT 0 [[sL 4 2 2,sL 5 2 2],[nI 0],jz0,[sL 6 3 3],[nI 0,nI 4],[nI 4,nI 0],jz2q]) (some [])
 jz8
 (fun v _ _ => v = sp) = R109_5 sp:=by kernel_rfl
theorem P109_5 : R109_5 jzp:=rfl
theorem C109_5 {H : Heap} (ids : List Nat) (h : InsA H (sgR 0 ids) ids [[sL 4 2 2,sL 5 2 2],[nI 0],jz0,[sL 6 3 3],[nI 0,nI 4],[nI 4,nI 0],jz2q]) : KCall prog 109 (jz11.map (rn (sgR 0 ids) 3)) H [] (Is jzp H) :=
 valRA (css:=[[sL 4 2 2,sL 5 2 2],[nI 0],jz0,[sL 6 3 3],[nI 0,nI 4],[nI 4,nI 0],jz2q]) (Eq.mpr (E109_5 _) P109_5) rfl ids h.len h.get
def R109_1 (sp : Value) : Prop :=
 (.tuple #[nI 10,.bool false] : Value) = sp
theorem E109_1 (sp : Value) : vF prog msk (dm 0) 100000 true 40 true 109 jz1 jz2b (some [])
 jzh
 (fun v _ _ => v = sp) = R109_1 sp:=by kernel_rfl
theorem P109_1 : R109_1 jz1e:=rfl
theorem C109_1 {H : Heap} (ids : List Nat) (h : InsA H (sgR 0 ids) ids [[sL 4 2 2,sL 5 2 2],[nI 0],jz0,[sL 6 1 1],[nI 0,nI 4],[nI 4,nI 0],[nI 1]]) : KCall prog 109 (jz11.map (rn (sgR 0 ids) 3)) H [] (Is jz1e H) :=
 valRA (css:=[[sL 4 2 2,sL 5 2 2],[nI 0],jz0,[sL 6 1 1],[nI 0,nI 4],[nI 4,nI 0],[nI 1]]) (Eq.mpr (E109_1 _) P109_1) rfl ids h.len h.get
def R109_d (sp : Value) : Prop :=
 (.tuple #[nI 28,.bool false] : Value) = sp
theorem E109_d (sp : Value) : vF prog msk (dm 0) 100000 true 40 true 109 jz1 jz1z (some [])
 jz9
 (fun v _ _ => v = sp) = R109_d sp:=by kernel_rfl
theorem P109_d : R109_d jz1f:=rfl
theorem C109_d {H : Heap} (ids : List Nat) (h : InsA H (sgR 0 ids) ids [[sL 4 2 2,sL 5 2 2],[nI 0],jz0,[sL 6 2 2],[nI 0,nI 4],[nI 4,nI 0],[nI 1,nI 0]]) : KCall prog 109 (jz11.map (rn (sgR 0 ids) 3)) H [] (Is jz1f H) :=
 valRA (css:=[[sL 4 2 2,sL 5 2 2],[nI 0],jz0,[sL 6 2 2],[nI 0,nI 4],[nI 4,nI 0],[nI 1,nI 0]]) (Eq.mpr (E109_d _) P109_d) rfl ids h.len h.get
def R109_c (sp : Value) : Prop :=
 (.tuple #[nI 32,.bool false] : Value) = sp
theorem E109_c (sp : Value) : vF prog msk (dm 0) 100000 true 40 true 109 jz1 jz2f (some [])
 jz8
 (fun v _ _ => v = sp) = R109_c sp:=by kernel_rfl
theorem P109_c : R109_c jz1g:=rfl
theorem C109_c {H : Heap} (ids : List Nat) (h : InsA H (sgR 0 ids) ids [[sL 4 2 2,sL 5 2 2],[nI 0],jz0,[sL 6 3 3],[nI 0,nI 4],[nI 4,nI 0],jzq]) : KCall prog 109 (jz11.map (rn (sgR 0 ids) 3)) H [] (Is jz1g H) :=
 valRA (css:=[[sL 4 2 2,sL 5 2 2],[nI 0],jz0,[sL 6 3 3],[nI 0,nI 4],[nI 4,nI 0],jzq]) (Eq.mpr (E109_c _) P109_c) rfl ids h.len h.get
def R109_2 (sp : Value) : Prop :=
 (.tuple #[nI 15,.bool false] : Value) = sp
theorem E109_2 (sp : Value) : vF prog msk (dm 0) 100000 true 40 true 109 jz1 jz20 (some [])
 jz9
 (fun v _ _ => v = sp) = R109_2 sp:=by kernel_rfl
theorem P109_2 : R109_2 jz1h:=rfl
theorem C109_2 {H : Heap} (ids : List Nat) (h : InsA H (sgR 0 ids) ids [[sL 4 2 2,sL 5 2 2],[nI 0],jz0,[sL 6 2 2],[nI 0,nI 4],[nI 4,nI 0],[nI 1,nI 2]]) : KCall prog 109 (jz11.map (rn (sgR 0 ids) 3)) H [] (Is jz1h H) :=
 valRA (css:=[[sL 4 2 2,sL 5 2 2],[nI 0],jz0,[sL 6 2 2],[nI 0,nI 4],[nI 4,nI 0],[nI 1,nI 2]]) (Eq.mpr (E109_2 _) P109_2) rfl ids h.len h.get
def R109_4 (sp : Value) : Prop :=
 (.tuple #[nI 19,.bool false] : Value) = sp
theorem E109_4 (sp : Value) : vF prog msk (dm 0) 100000 true 40 true 109 jz1 jz2g (some [])
 jz8
 (fun v _ _ => v = sp) = R109_4 sp:=by kernel_rfl
theorem P109_4 : R109_4 jz1i:=rfl
theorem C109_4 {H : Heap} (ids : List Nat) (h : InsA H (sgR 0 ids) ids [[sL 4 2 2,sL 5 2 2],[nI 0],jz0,[sL 6 3 3],[nI 0,nI 4],[nI 4,nI 0],jzx]) : KCall prog 109 (jz11.map (rn (sgR 0 ids) 3)) H [] (Is jz1i H) :=
 valRA (css:=[[sL 4 2 2,sL 5 2 2],[nI 0],jz0,[sL 6 3 3],[nI 0,nI 4],[nI 4,nI 0],jzx]) (Eq.mpr (E109_4 _) P109_4) rfl ids h.len h.get
def R109_7 (sp : Value) : Prop :=
 (.tuple #[nI 13,.bool false] : Value) = sp
theorem E109_7 (sp : Value) : vF prog msk (dm 0) 100000 true 40 true 109 jz1 jz2c (some [])
 jzh
 (fun v _ _ => v = sp) = R109_7 sp:=by kernel_rfl
theorem P109_7 : R109_7 jz1j:=rfl
theorem C109_7 {H : Heap} (ids : List Nat) (h : InsA H (sgR 0 ids) ids [[sL 4 2 2,sL 5 2 2],[nI 0],jz0,[sL 6 1 1],[nI 0,nI 4],[nI 4,nI 0],[nI 2]]) : KCall prog 109 (jz11.map (rn (sgR 0 ids) 3)) H [] (Is jz1j H) :=
 valRA (css:=[[sL 4 2 2,sL 5 2 2],[nI 0],jz0,[sL 6 1 1],[nI 0,nI 4],[nI 4,nI 0],[nI 2]]) (Eq.mpr (E109_7 _) P109_7) rfl ids h.len h.get
def R109_e (sp : Value) : Prop :=
 (.tuple #[nI 31,.bool false] : Value) = sp
theorem E109_e (sp : Value) : vF prog msk (dm 0) 100000 true 40 true 109 jz1 jz21 (some [])
 jz9
 (fun v _ _ => v = sp) = R109_e sp:=by kernel_rfl
theorem P109_e : R109_e jz1k:=rfl
theorem C109_e {H : Heap} (ids : List Nat) (h : InsA H (sgR 0 ids) ids [[sL 4 2 2,sL 5 2 2],[nI 0],jz0,[sL 6 2 2],[nI 0,nI 4],[nI 4,nI 0],[nI 2,nI 0]]) : KCall prog 109 (jz11.map (rn (sgR 0 ids) 3)) H [] (Is jz1k H) :=
 valRA (css:=[[sL 4 2 2,sL 5 2 2],[nI 0],jz0,[sL 6 2 2],[nI 0,nI 4],[nI 4,nI 0],[nI 2,nI 0]]) (Eq.mpr (E109_e _) P109_e) rfl ids h.len h.get
def R109_b (sp : Value) : Prop :=
 (.tuple #[nI 35,.bool false] : Value) = sp
theorem E109_b (sp : Value) : vF prog msk (dm 0) 100000 true 40 true 109 jz1 jz2h (some [])
 jz8
 (fun v _ _ => v = sp) = R109_b sp:=by kernel_rfl
theorem P109_b : R109_b jz1l:=rfl
theorem C109_b {H : Heap} (ids : List Nat) (h : InsA H (sgR 0 ids) ids [[sL 4 2 2,sL 5 2 2],[nI 0],jz0,[sL 6 3 3],[nI 0,nI 4],[nI 4,nI 0],jzy]) : KCall prog 109 (jz11.map (rn (sgR 0 ids) 3)) H [] (Is jz1l H) :=
 valRA (css:=[[sL 4 2 2,sL 5 2 2],[nI 0],jz0,[sL 6 3 3],[nI 0,nI 4],[nI 4,nI 0],jzy]) (Eq.mpr (E109_b _) P109_b) rfl ids h.len h.get
def R109_8 (sp : Value) : Prop :=
 (.tuple #[nI 18,.bool false] : Value) = sp
theorem E109_8 (sp : Value) : vF prog msk (dm 0) 100000 true 40 true 109 jz1 jz22 (some [])
 jz9
 (fun v _ _ => v = sp) = R109_8 sp:=by kernel_rfl
theorem P109_8 : R109_8 jz1m:=rfl
theorem C109_8 {H : Heap} (ids : List Nat) (h : InsA H (sgR 0 ids) ids [[sL 4 2 2,sL 5 2 2],[nI 0],jz0,[sL 6 2 2],[nI 0,nI 4],[nI 4,nI 0],[nI 2,nI 1]]) : KCall prog 109 (jz11.map (rn (sgR 0 ids) 3)) H [] (Is jz1m H) :=
 valRA (css:=[[sL 4 2 2,sL 5 2 2],[nI 0],jz0,[sL 6 2 2],[nI 0,nI 4],[nI 4,nI 0],[nI 2,nI 1]]) (Eq.mpr (E109_8 _) P109_8) rfl ids h.len h.get
def R109_f (sp : Value) : Prop :=
 (.tuple #[nI 22,.bool false] : Value) = sp
theorem E109_f (sp : Value) : vF prog msk (dm 0) 100000 true 40 true 109 jz1 jz2i (some [])
 jz8
 (fun v _ _ => v = sp) = R109_f sp:=by kernel_rfl
theorem P109_f : R109_f jz1n:=rfl
theorem C109_f {H : Heap} (ids : List Nat) (h : InsA H (sgR 0 ids) ids [[sL 4 2 2,sL 5 2 2],[nI 0],jz0,[sL 6 3 3],[nI 0,nI 4],[nI 4,nI 0],jzz]) : KCall prog 109 (jz11.map (rn (sgR 0 ids) 3)) H [] (Is jz1n H) :=
 valRA (css:=[[sL 4 2 2,sL 5 2 2],[nI 0],jz0,[sL 6 3 3],[nI 0,nI 4],[nI 4,nI 0],jzz]) (Eq.mpr (E109_f _) P109_f) rfl ids h.len h.get
end
end Go.Proofs.YthdekmpkioikdaaGreat
