/- Request: what is taken out of lists, the least of lists. No condition. -/
import Derived.Test.YthdekmpkioikdaaGreatGZ6xR19f
import Derived.Test.YthdekmpkioikdaaGreatGR19gxK42
import Derived.Test.YthdekmpkioikdaaGreatGR4xZ1
namespace Go.Proofs.YthdekmpkioikdaaGreat
open Go Go.K
set_option maxRecDepth 100000
set_option linter.unusedVariables false
set_option linter.unusedSimpArgs false
noncomputable section
attribute [local irreducible] vF
theorem valG {f : FuncId} {args : List Value} {css : List (List Value)} {h : Hint} {n : Nat} {c0 c1 : List Value}
  (hc : vF prog msk (dm 0) 100000 true 40 true f args (readsW 0 1 c0 css) (some [0]) h (newKW (readsW 0 1 c0 css).n 3 0 (.cells true 1 c1) (slQ 0 2 n) []))
  (hp0 : c0.all (belowC 0) = true) (hp1 : c1.all (belowC 0) = true) {H : Heap} {D : Nat} (hD : H[D]? = some (.cells true 1 c0)) {ids : List Nat} (hi : InsA H (sgRW 0 D ids) ids css) (hne : D ∉ ids) {args' : List Value} (ha : args.map (rn (sgRW 0 D ids) 3) = args') :
  KCall prog f args' H [D] (Is (slQ D 2 n) (H.set D (.cells true 1 c1))) := by
 subst ha
 have key := vcWG (H := H) (D := D) (z := 1) (c0 := c0) (c1 := c1) mskOk mixed 40 (v := slQ 0 2 n) (V := slQ D 2 n) (by rw [glob0]; exact hc) hp0 hp1 (fun ρ1 ρ2 x hr hv => by
  rw [glob0] at hr
  cases hv with
  | sliceRe => exact .sliceRe
  | sliceR h hp hl hc ho => exact .sliceR (hr _ h) hp hl hc ho) hD ids hi.len (by rw [glob0]; exact hi.get) hne
 rw [glob0] at key
 exact key
theorem valB {f : FuncId} {args : List Value} {css : List (List Value)} {h : Hint} {v : Value} (hc : vF prog msk (dm 0) 100000 true 40 true f args (readsT 0 css) (some []) h (fun v' _ _ => v' = v)) (hv : belowV 0 v = true) (h3 : rnOk 3 v = true := by rfl) (h4 : ∀ σ, rn σ 3 v = v := by intro; rfl)
  {H : Heap} {ids : List Nat} (hi : InsA H (sgR 0 ids) ids css) {args' : List Value} (ha : args.map (rn (sgR 0 ids) 3) = args') : KCall prog f args' H [] (Is v H) := by
 subst ha
 exact valRA hc hv (h3 := h3) (h4 := h4) ids hi.len hi.get
theorem atQ {l : List Rq} {k : Nat} (h : k < l.length) {off : Nat} (ho : off = k * 7 + 1) : (l.flatMap rqC)[off]? = some (.int .i64 (l.getD k zeroQ).at_) := cell_at (n := 7) (d := zeroQ) (c := 1) rqC_len h ho rfl
theorem lmQ {l : List Rq} {k : Nat} (h : k < l.length) {off : Nat} (ho : off = k * 7 + 6) : (l.flatMap rqC)[off]? = some (.int .i64 (l.getD k zeroQ).limit) := cell_at (n := 7) (d := zeroQ) (c := 6) rqC_len h ho rfl
theorem prQ {l : List Rq} {k : Nat} (h : k < l.length) {off : Nat} (ho : off = k * 7 + 5) : (l.flatMap rqC)[off]? = some (.int .i64 (l.getD k zeroQ).prio) := cell_at (n := 7) (d := zeroQ) (c := 5) rqC_len h ho rfl
theorem all_1 {q : Int -> Bool} {M : List Int} {x : Nat} (hx : x < M.length) (h : (M.take x).all q = true) (h2 : q (M.getD x 0) = true) : (M.take (x + 1)).all q = true := by
 rw [take_snoc (d := 0) hx, List.all_append, h, List.all_cons, h2]; rfl
theorem all_0 (q : Int -> Bool) (M : List Int) : (M.take 0).all q = true := by rw [List.take_zero]; rfl
theorem ne1 (x : Nat) : ¬ ((x : Int) == -1) = true := fun h => by have := eq_of_beq h; omega
theorem hvDel0 (M : List Int) (k : Nat) (f : Fleet) (l : List Rq) (X Y : List Int) (hr : Int) (hk : k <= M.length) (hM : M.length <= 4294967296) (hin : ∀ i, i < k -> 0 <= M.getD i 0 /\ M.getD i 0 < (l.length : Int)) : RDel0 M k f l X Y hr := by
 delta RDel0 jk2d jk2p jkf jk1h jk1v jk1i jk20 jk1l jk2i jk1m jk2j jkd jkk jkr jk2e jk1c jkj jk1k jk23 jk1t jk1d jk1p jk1u jk2f jk25 jk2o jk19 jk1n jk28 jkx jk1o
 refine ⟨rfl, ⟨Nat.zero_le _, all_0 _ _⟩, ?_, fun _ => rfl, ?_⟩
 ·repeat' first | exact plainIL _ _ | exact wk_refl _ | exact trivial | exact rfl | exact wk_refl _ | apply And.intro
 rintro x ⟨hx, ha⟩
 try dsimp only
 refine forkD (fun b => ?_) (fun b => ?_)
 ·have hlt : x < k := by omega
  have hi := hin x hlt
  refine ⟨by omega, intAt (by omega) (by omega), by omega, atQ (by omega) (by omega), forkD (fun d => ?_) (fun d => ?_)⟩
  ·have hq : (qAt l hr) (M.getD x 0) = false := decide_eq_false (by unfold rqAt; omega)
   have mf := midP_first (q := (qAt l hr)) (show x < M.length by omega) ha hq
   refine ⟨fun e => absurd e (ne1 x), fun _ => ⟨vI64 (by omega), rfl, ⟨by omega, by rw [mf.2]; omega⟩, ?_, fun _ => rfl, ?_⟩⟩
   ·rw [mf.1, mf.2]
    repeat' first | exact plainIL _ _ | exact wk_refl _ | exact trivial | exact rfl | exact wk_refl _ | apply And.intro
   rintro y ⟨hy, hc⟩
   try dsimp only
   have hml := midP_len (q := (qAt l hr)) (show y <= M.length by omega)
   refine forkD (fun b => ?_) (fun b => ?_)
   ·have hma := midP_at (q := (qAt l hr)) (show y < M.length by omega)
    have hi := hin y (by omega)
    rw [<- hma] at hi
    generalize hE : (midP (qAt l hr) M y).getD y 0 = E at *
    refine ⟨by omega, by rw [<- hE]; exact intAt (by omega) (by omega), by omega, atQ (by omega) (by omega), forkNot (forkD (fun d => ?_) (fun d => ?_))⟩
    ·have hq2 : (qAt l hr) (M.getD y 0) = false := by rw [<- hma]; exact decide_eq_false (by unfold rqAt; omega)
     have h1 := midP_0 (q := (qAt l hr)) (show y < M.length by omega) hq2
     have h2 := keepP_0 (q := (qAt l hr)) (show y < M.length by omega) hq2
     refine ⟨vI64 (by omega), y + 1, ⟨by omega, by rw [h2]; omega⟩, by omega, rfl, ?_⟩
     rw [h1, h2]
     repeat' first | exact plainIL _ _ | exact wk_refl _ | exact trivial | exact rfl | exact wk_refl _ | apply And.intro
    ·have hq2 : (qAt l hr) (M.getD y 0) = true := by rw [<- hma]; exact decide_eq_true (by unfold rqAt; omega)
     have h1 := midP_1 (q := (qAt l hr)) (show y < M.length by omega) hq2
     have h2 := keepP_1 (q := (qAt l hr)) (show y < M.length by omega) hq2
     have h3 : (keepP (qAt l hr) M (y + 1)).length = (keepP (qAt l hr) M y).length + 1 := by rw [h2, List.length_append]; rfl
     have h4 := flat_set (f := intC) intC_len (midP (qAt l hr) M y) (keepP (qAt l hr) M y).length (by omega) E
     rw [show (midP (qAt l hr) M y).set (keepP (qAt l hr) M y).length E = midP (qAt l hr) M (y + 1) by rw [<- h1, <- hma]] at h4
     refine ⟨⟨by omega, by omega⟩, by rw [flat_len intC_len, hml]; omega, rfl, vI64 (by omega), vI64 (by omega), y + 1, ⟨by omega, by omega⟩, by omega, rfl, ?_⟩
     rw [h3, show 0 + Int.toNat (((keepP (qAt l hr) M y).length : Nat) : Int) * 1 = (keepP (qAt l hr) M y).length * 1 by omega]
     repeat' first | exact plainIL _ _ | exact wk_refl _ | (exact congrArg (fun l => some (KObj.cells true 1 l)) h4) | exact trivial | exact rfl | exact wk_refl _ | apply And.intro
   ·obtain rfl : y = k := by omega
    refine ⟨⟨⟨.inr (.inr rfl), Nat.le_refl _⟩, Nat.le_refl _, by omega, by omega⟩, by rw [Int.toNat_natCast], by rw [flat_len intC_len, hml]; omega, rfl, ⟨⟨.inr (.inr rfl), by omega⟩, ⟨by omega, by omega⟩, by omega⟩, by rw [Int.toNat_natCast]; rfl, rfl, wk_refl _, ⟨⟨?_, plainIL _ _⟩, trivial⟩, trivial⟩
    rw [Int.toNat_natCast, clr_del (by omega)]
  ·have hq : (qAt l hr) (M.getD x 0) = true := decide_eq_true (by unfold rqAt; omega)
   have ha2 := all_1 (by omega) ha hq
   refine ⟨vI64 (by omega), x + 1, ⟨by omega, ha2⟩, by omega, rfl, ?_⟩
   repeat' first | exact plainIL _ _ | exact wk_refl _ | exact trivial | exact rfl | exact wk_refl _ | apply And.intro
 ·obtain rfl : x = k := by omega
  have da := delP_all (q := (qAt l hr)) (by omega) ha
  rw [da.1, da.2]
  repeat' first | exact plainIL _ _ | exact wk_refl _ | exact trivial | exact rfl | exact wk_refl _ | apply And.intro
theorem hvDel1 (M : List Int) (k : Nat) (f : Fleet) (l : List Rq) (X Y : List Int) (hr : Int) (p : Pol) (ov : List Int) (hk : k <= M.length) (hM : M.length <= 4294967296) (hin : ∀ i, i < k -> 0 <= M.getD i 0 /\ M.getD i 0 < (l.length : Int)) (hov : ov.length = l.length) : RDel1 M k f l X Y hr p ov := by
 delta RDel1 jk2d jk2p jka jk1l jk2i jk1h jk1m jk2j jkd jkk jk8 jk1k jk23 jk1t jkh jk1d jk1y jk1u jk1i jk2f jk25 jk18 jk1n jk28 jk12 jk1o jk29 jk20 jk9
 refine ⟨rfl, ⟨Nat.zero_le _, all_0 _ _⟩, ?_, fun _ => rfl, ?_⟩
 ·repeat' first | exact plainIL _ _ | exact wk_refl _ | exact trivial | exact rfl | exact wk_refl _ | apply And.intro
 rintro x ⟨hx, ha⟩
 try dsimp only
 refine forkD (fun b => ?_) (fun b => ?_)
 ·have hlt : x < k := by omega
  have hi := hin x hlt
  refine ⟨by omega, intAt (by omega) (by omega), by omega, intAt (by omega) (by omega), forkNot (forkD (fun d => ?_) (fun d => ?_))⟩
  ·have hq : (ofV p l ov hr 0) (M.getD x 0) = true := decide_eq_true d
   have ha2 := all_1 (by omega) ha hq
   refine ⟨vI64 (by omega), x + 1, ⟨by omega, ha2⟩, by omega, rfl, ?_⟩
   repeat' first | exact plainIL _ _ | exact wk_refl _ | exact trivial | exact rfl | exact wk_refl _ | apply And.intro
  ·have hq : (ofV p l ov hr 0) (M.getD x 0) = false := decide_eq_false d
   have mf := midP_first (q := (ofV p l ov hr 0)) (show x < M.length by omega) ha hq
   refine ⟨fun e => absurd e (ne1 x), fun _ => ⟨vI64 (by omega), rfl, ⟨by omega, by rw [mf.2]; omega⟩, ?_, fun _ => rfl, ?_⟩⟩
   ·rw [mf.1, mf.2]
    repeat' first | exact plainIL _ _ | exact wk_refl _ | exact trivial | exact rfl | exact wk_refl _ | apply And.intro
   rintro y ⟨hy, hc⟩
   try dsimp only
   have hml := midP_len (q := (ofV p l ov hr 0)) (show y <= M.length by omega)
   refine forkD (fun b => ?_) (fun b => ?_)
   ·have hma := midP_at (q := (ofV p l ov hr 0)) (show y < M.length by omega)
    have hi := hin y (by omega)
    rw [<- hma] at hi
    generalize hE : (midP (ofV p l ov hr 0) M y).getD y 0 = E at *
    refine ⟨by omega, by rw [<- hE]; exact intAt (by omega) (by omega), by omega, intAt (by omega) (by omega), forkNot (forkNot (forkD (fun d => ?_) (fun d => ?_)))⟩
    ·have hq2 : (ofV p l ov hr 0) (M.getD y 0) = true := by rw [<- hma]; exact decide_eq_true d
     have h1 := midP_1 (q := (ofV p l ov hr 0)) (show y < M.length by omega) hq2
     have h2 := keepP_1 (q := (ofV p l ov hr 0)) (show y < M.length by omega) hq2
     have h3 : (keepP (ofV p l ov hr 0) M (y + 1)).length = (keepP (ofV p l ov hr 0) M y).length + 1 := by rw [h2, List.length_append]; rfl
     have h4 := flat_set (f := intC) intC_len (midP (ofV p l ov hr 0) M y) (keepP (ofV p l ov hr 0) M y).length (by omega) E
     rw [show (midP (ofV p l ov hr 0) M y).set (keepP (ofV p l ov hr 0) M y).length E = midP (ofV p l ov hr 0) M (y + 1) by rw [<- h1, <- hma]] at h4
     refine ⟨⟨by omega, by omega⟩, by rw [flat_len intC_len, hml]; omega, rfl, vI64 (by omega), vI64 (by omega), y + 1, ⟨by omega, by omega⟩, by omega, rfl, ?_⟩
     rw [h3, show 0 + Int.toNat (((keepP (ofV p l ov hr 0) M y).length : Nat) : Int) * 1 = (keepP (ofV p l ov hr 0) M y).length * 1 by omega]
     repeat' first | exact plainIL _ _ | exact wk_refl _ | (exact congrArg (fun l => some (KObj.cells true 1 l)) h4) | exact trivial | exact rfl | exact wk_refl _ | apply And.intro
    ·have hq2 : (ofV p l ov hr 0) (M.getD y 0) = false := by rw [<- hma]; exact decide_eq_false d
     have h1 := midP_0 (q := (ofV p l ov hr 0)) (show y < M.length by omega) hq2
     have h2 := keepP_0 (q := (ofV p l ov hr 0)) (show y < M.length by omega) hq2
     refine ⟨vI64 (by omega), y + 1, ⟨by omega, by rw [h2]; omega⟩, by omega, rfl, ?_⟩
     rw [h1, h2]
     repeat' first | exact plainIL _ _ | exact wk_refl _ | exact trivial | exact rfl | exact wk_refl _ | apply And.intro
   ·obtain rfl : y = k := by omega
    refine ⟨⟨⟨.inr (.inr rfl), Nat.le_refl _⟩, Nat.le_refl _, by omega, by omega⟩, by rw [Int.toNat_natCast], by rw [flat_len intC_len, hml]; omega, rfl, ⟨⟨.inr (.inr rfl), by omega⟩, ⟨by omega, by omega⟩, by omega⟩, by rw [Int.toNat_natCast]; rfl, rfl, wk_refl _, ⟨⟨?_, plainIL _ _⟩, trivial⟩, trivial⟩
    rw [Int.toNat_natCast, clr_del (by omega)]
 ·obtain rfl : x = k := by omega
  have da := delP_all (q := (ofV p l ov hr 0)) (by omega) ha
  rw [da.1, da.2]
  repeat' first | exact plainIL _ _ | exact wk_refl _ | exact trivial | exact rfl | exact wk_refl _ | apply And.intro
theorem hvDel2 (M : List Int) (k : Nat) (f : Fleet) (l : List Rq) (X Y : List Int) (hr : Int) (p : Pol) (ov : List Int) (hk : k <= M.length) (hM : M.length <= 4294967296) (hin : ∀ i, i < k -> 0 <= M.getD i 0 /\ M.getD i 0 < (l.length : Int)) (hb : ∀ i, i < l.length -> 0 <= (l.getD i zeroQ).at_ /\ (l.getD i zeroQ).at_ <= 10000 /\ 0 <= (l.getD i zeroQ).limit /\ (l.getD i zeroQ).limit <= 10000) (hhr : -1000000000 <= hr /\ hr <= 1000000000) : RDel2 M k f l X Y hr p ov := by
 delta RDel2 jk2d jk2p jka jk1l jk2i jk1h jk1m jk2j jkd jkk jkr jk2e jk1c jk29 jkh jk21 jk1i jk2f jk1w jk15 jk1a jk1n jk28 jk16 jk1o jk0 jk20 jk9 jk8
 refine ⟨rfl, ⟨Nat.zero_le _, all_0 _ _⟩, ?_, fun _ => rfl, ?_⟩
 ·repeat' first | exact plainIL _ _ | exact wk_refl _ | exact trivial | exact rfl | exact wk_refl _ | apply And.intro
 rintro x ⟨hx, ha⟩
 try dsimp only
 refine forkD (fun b => ?_) (fun b => ?_)
 ·have hlt : x < k := by omega
  have hi := hin x hlt
  have hbb := hb (Int.toNat (M.getD x 0)) (by omega)
  refine ⟨by omega, intAt (by omega) (by omega), by omega, lmQ (by omega) (by omega), forkD (fun d0 => ⟨by omega, atQ (by omega) (by omega), by omega, lmQ (by omega) (by omega), vI64 (by omega), vI64 (by omega), forkNot (forkD (fun d => ?_) (fun d => ?_))⟩) (fun d0 => ?_)⟩
  ·have hq : (ofV p l ov hr 1) (M.getD x 0) = true := Bool.and_eq_true _ _ ▸ ⟨decide_eq_true d0, decide_eq_true d⟩
   have ha2 := all_1 (by omega) ha hq
   refine ⟨vI64 (by omega), x + 1, ⟨by omega, ha2⟩, by omega, rfl, ?_⟩
   repeat' first | exact plainIL _ _ | exact wk_refl _ | exact trivial | exact rfl | exact wk_refl _ | apply And.intro
  ·have hq : (ofV p l ov hr 1) (M.getD x 0) = false := Bool.and_eq_false_iff.2 (.inr (decide_eq_false d))
   have mf := midP_first (q := (ofV p l ov hr 1)) (show x < M.length by omega) ha hq
   refine ⟨fun e => absurd e (ne1 x), fun _ => ⟨vI64 (by omega), rfl, ⟨by omega, by rw [mf.2]; omega⟩, ?_, fun _ => rfl, ?_⟩⟩
   ·rw [mf.1, mf.2]
    repeat' first | exact plainIL _ _ | exact wk_refl _ | exact trivial | exact rfl | exact wk_refl _ | apply And.intro
   rintro y ⟨hy, hc⟩
   try dsimp only
   have hml := midP_len (q := (ofV p l ov hr 1)) (show y <= M.length by omega)
   refine forkD (fun b => ?_) (fun b => ?_)
   ·have hma := midP_at (q := (ofV p l ov hr 1)) (show y < M.length by omega)
    have hi := hin y (by omega)
    rw [<- hma] at hi
    generalize hE : (midP (ofV p l ov hr 1) M y).getD y 0 = E at *
    have hbb := hb (Int.toNat E) (by omega)
    refine ⟨by omega, by rw [<- hE]; exact intAt (by omega) (by omega), by omega, lmQ (by omega) (by omega), forkD (fun d0 => ⟨by omega, atQ (by omega) (by omega), by omega, lmQ (by omega) (by omega), vI64 (by omega), vI64 (by omega), forkNot (forkNot (forkD (fun d => ?_) (fun d => ?_)))⟩) (fun d0 => ?_)⟩
    ·have hq2 : (ofV p l ov hr 1) (M.getD y 0) = true := by rw [<- hma]; exact Bool.and_eq_true _ _ ▸ ⟨decide_eq_true d0, decide_eq_true d⟩
     have h1 := midP_1 (q := (ofV p l ov hr 1)) (show y < M.length by omega) hq2
     have h2 := keepP_1 (q := (ofV p l ov hr 1)) (show y < M.length by omega) hq2
     have h3 : (keepP (ofV p l ov hr 1) M (y + 1)).length = (keepP (ofV p l ov hr 1) M y).length + 1 := by rw [h2, List.length_append]; rfl
     have h4 := flat_set (f := intC) intC_len (midP (ofV p l ov hr 1) M y) (keepP (ofV p l ov hr 1) M y).length (by omega) E
     rw [show (midP (ofV p l ov hr 1) M y).set (keepP (ofV p l ov hr 1) M y).length E = midP (ofV p l ov hr 1) M (y + 1) by rw [<- h1, <- hma]] at h4
     refine ⟨⟨by omega, by omega⟩, by rw [flat_len intC_len, hml]; omega, rfl, vI64 (by omega), vI64 (by omega), y + 1, ⟨by omega, by omega⟩, by omega, rfl, ?_⟩
     rw [h3, show 0 + Int.toNat (((keepP (ofV p l ov hr 1) M y).length : Nat) : Int) * 1 = (keepP (ofV p l ov hr 1) M y).length * 1 by omega]
     repeat' first | exact plainIL _ _ | exact wk_refl _ | (exact congrArg (fun l => some (KObj.cells true 1 l)) h4) | exact trivial | exact rfl | exact wk_refl _ | apply And.intro
    ·have hq2 : (ofV p l ov hr 1) (M.getD y 0) = false := by rw [<- hma]; exact Bool.and_eq_false_iff.2 (.inr (decide_eq_false d))
     have h1 := midP_0 (q := (ofV p l ov hr 1)) (show y < M.length by omega) hq2
     have h2 := keepP_0 (q := (ofV p l ov hr 1)) (show y < M.length by omega) hq2
     refine ⟨vI64 (by omega), y + 1, ⟨by omega, by rw [h2]; omega⟩, by omega, rfl, ?_⟩
     rw [h1, h2]
     repeat' first | exact plainIL _ _ | exact wk_refl _ | exact trivial | exact rfl | exact wk_refl _ | apply And.intro
    ·have hq2 : (ofV p l ov hr 1) (M.getD y 0) = false := by rw [<- hma]; exact Bool.and_eq_false_iff.2 (.inl (decide_eq_false d0))
     have h1 := midP_0 (q := (ofV p l ov hr 1)) (show y < M.length by omega) hq2
     have h2 := keepP_0 (q := (ofV p l ov hr 1)) (show y < M.length by omega) hq2
     refine ⟨vI64 (by omega), y + 1, ⟨by omega, by rw [h2]; omega⟩, by omega, rfl, ?_⟩
     rw [h1, h2]
     repeat' first | exact plainIL _ _ | exact wk_refl _ | exact trivial | exact rfl | exact wk_refl _ | apply And.intro
   ·obtain rfl : y = k := by omega
    refine ⟨⟨⟨.inr (.inr rfl), Nat.le_refl _⟩, Nat.le_refl _, by omega, by omega⟩, by rw [Int.toNat_natCast], by rw [flat_len intC_len, hml]; omega, rfl, ⟨⟨.inr (.inr rfl), by omega⟩, ⟨by omega, by omega⟩, by omega⟩, by rw [Int.toNat_natCast]; rfl, rfl, wk_refl _, ⟨⟨?_, plainIL _ _⟩, trivial⟩, trivial⟩
    rw [Int.toNat_natCast, clr_del (by omega)]
  ·have hq : (ofV p l ov hr 1) (M.getD x 0) = false := Bool.and_eq_false_iff.2 (.inl (decide_eq_false d0))
   have mf := midP_first (q := (ofV p l ov hr 1)) (show x < M.length by omega) ha hq
   refine ⟨fun e => absurd e (ne1 x), fun _ => ⟨vI64 (by omega), rfl, ⟨by omega, by rw [mf.2]; omega⟩, ?_, fun _ => rfl, ?_⟩⟩
   ·rw [mf.1, mf.2]
    repeat' first | exact plainIL _ _ | exact wk_refl _ | exact trivial | exact rfl | exact wk_refl _ | apply And.intro
   rintro y ⟨hy, hc⟩
   try dsimp only
   have hml := midP_len (q := (ofV p l ov hr 1)) (show y <= M.length by omega)
   refine forkD (fun b => ?_) (fun b => ?_)
   ·have hma := midP_at (q := (ofV p l ov hr 1)) (show y < M.length by omega)
    have hi := hin y (by omega)
    rw [<- hma] at hi
    generalize hE : (midP (ofV p l ov hr 1) M y).getD y 0 = E at *
    have hbb := hb (Int.toNat E) (by omega)
    refine ⟨by omega, by rw [<- hE]; exact intAt (by omega) (by omega), by omega, lmQ (by omega) (by omega), forkD (fun d0 => ⟨by omega, atQ (by omega) (by omega), by omega, lmQ (by omega) (by omega), vI64 (by omega), vI64 (by omega), forkNot (forkNot (forkD (fun d => ?_) (fun d => ?_)))⟩) (fun d0 => ?_)⟩
    ·have hq2 : (ofV p l ov hr 1) (M.getD y 0) = true := by rw [<- hma]; exact Bool.and_eq_true _ _ ▸ ⟨decide_eq_true d0, decide_eq_true d⟩
     have h1 := midP_1 (q := (ofV p l ov hr 1)) (show y < M.length by omega) hq2
     have h2 := keepP_1 (q := (ofV p l ov hr 1)) (show y < M.length by omega) hq2
     have h3 : (keepP (ofV p l ov hr 1) M (y + 1)).length = (keepP (ofV p l ov hr 1) M y).length + 1 := by rw [h2, List.length_append]; rfl
     have h4 := flat_set (f := intC) intC_len (midP (ofV p l ov hr 1) M y) (keepP (ofV p l ov hr 1) M y).length (by omega) E
     rw [show (midP (ofV p l ov hr 1) M y).set (keepP (ofV p l ov hr 1) M y).length E = midP (ofV p l ov hr 1) M (y + 1) by rw [<- h1, <- hma]] at h4
     refine ⟨⟨by omega, by omega⟩, by rw [flat_len intC_len, hml]; omega, rfl, vI64 (by omega), vI64 (by omega), y + 1, ⟨by omega, by omega⟩, by omega, rfl, ?_⟩
     rw [h3, show 0 + Int.toNat (((keepP (ofV p l ov hr 1) M y).length : Nat) : Int) * 1 = (keepP (ofV p l ov hr 1) M y).length * 1 by omega]
     repeat' first | exact plainIL _ _ | exact wk_refl _ | (exact congrArg (fun l => some (KObj.cells true 1 l)) h4) | exact trivial | exact rfl | exact wk_refl _ | apply And.intro
    ·have hq2 : (ofV p l ov hr 1) (M.getD y 0) = false := by rw [<- hma]; exact Bool.and_eq_false_iff.2 (.inr (decide_eq_false d))
     have h1 := midP_0 (q := (ofV p l ov hr 1)) (show y < M.length by omega) hq2
     have h2 := keepP_0 (q := (ofV p l ov hr 1)) (show y < M.length by omega) hq2
     refine ⟨vI64 (by omega), y + 1, ⟨by omega, by rw [h2]; omega⟩, by omega, rfl, ?_⟩
     rw [h1, h2]
     repeat' first | exact plainIL _ _ | exact wk_refl _ | exact trivial | exact rfl | exact wk_refl _ | apply And.intro
    ·have hq2 : (ofV p l ov hr 1) (M.getD y 0) = false := by rw [<- hma]; exact Bool.and_eq_false_iff.2 (.inl (decide_eq_false d0))
     have h1 := midP_0 (q := (ofV p l ov hr 1)) (show y < M.length by omega) hq2
     have h2 := keepP_0 (q := (ofV p l ov hr 1)) (show y < M.length by omega) hq2
     refine ⟨vI64 (by omega), y + 1, ⟨by omega, by rw [h2]; omega⟩, by omega, rfl, ?_⟩
     rw [h1, h2]
     repeat' first | exact plainIL _ _ | exact wk_refl _ | exact trivial | exact rfl | exact wk_refl _ | apply And.intro
   ·obtain rfl : y = k := by omega
    refine ⟨⟨⟨.inr (.inr rfl), Nat.le_refl _⟩, Nat.le_refl _, by omega, by omega⟩, by rw [Int.toNat_natCast], by rw [flat_len intC_len, hml]; omega, rfl, ⟨⟨.inr (.inr rfl), by omega⟩, ⟨by omega, by omega⟩, by omega⟩, by rw [Int.toNat_natCast]; rfl, rfl, wk_refl _, ⟨⟨?_, plainIL _ _⟩, trivial⟩, trivial⟩
    rw [Int.toNat_natCast, clr_del (by omega)]
 ·obtain rfl : x = k := by omega
  have da := delP_all (q := (ofV p l ov hr 1)) (by omega) ha
  rw [da.1, da.2]
  repeat' first | exact plainIL _ _ | exact wk_refl _ | exact trivial | exact rfl | exact wk_refl _ | apply And.intro
theorem hvDel3 (M : List Int) (k : Nat) (f : Fleet) (l : List Rq) (X Y : List Int) (hr : Int) (p : Pol) (ov : List Int) (hk : k <= M.length) (hM : M.length <= 4294967296) (hin : ∀ i, i < k -> 0 <= M.getD i 0 /\ M.getD i 0 < (l.length : Int)) : RDel3 M k f l X Y hr p ov := by
 delta RDel3 jk2d jk2p jka jk1l jk2i jk1h jk1m jk2j jkd jkk jk29 jkh jk1i jk20 jk9 jk8
 refine ⟨rfl, ⟨Nat.zero_le _, all_0 _ _⟩, ?_, fun _ => rfl, ?_⟩
 ·repeat' first | exact plainIL _ _ | exact wk_refl _ | exact trivial | exact rfl | exact wk_refl _ | apply And.intro
 rintro x ⟨hx, ha⟩
 try dsimp only
 refine forkD (fun b => ?_) (fun b => ?_)
 ·have hlt : x < k := by omega
  have hi := hin x hlt
  have hq : (ofV p l ov hr 2) (M.getD x 0) = true := rfl
  have ha2 := all_1 (by omega) ha hq
  refine ⟨by omega, intAt (by omega) (by omega), vI64 (by omega), x + 1, ⟨by omega, ha2⟩, by omega, rfl, ?_⟩
  repeat' first | exact plainIL _ _ | exact wk_refl _ | exact trivial | exact rfl | exact wk_refl _ | apply And.intro
 ·obtain rfl : x = k := by omega
  have da := delP_all (q := (ofV p l ov hr 2)) (by omega) ha
  rw [da.1, da.2]
  repeat' first | exact plainIL _ _ | exact wk_refl _ | exact trivial | exact rfl | exact wk_refl _ | apply And.intro
theorem qNe_0 {i x : Int} (h : x = i) : qNe i x = false := by subst h; unfold qNe; rw [beq_self_eq_true]; rfl
theorem qNe_1 {i x : Int} (h : x ≠ i) : qNe i x = true := by
 unfold qNe
 cases e : x == i with
 | false => rfl
 | true => exact absurd (eq_of_beq e) h
theorem hvDel4 (M : List Int) (k : Nat) (i : Int) (hk : k <= M.length) (hM : M.length <= 4294967296) (hin : ∀ i, i < k -> -1 <= M.getD i 0) : RDel4 M k i := by
 delta RDel4 jk2d jk2p jka jk1l jk2i jk1h jk1m jk2j jkd jkk jki jk1k jk23 jk1t jkh jk1d jk1z jk1u jk1i jk2f jk25 jk1b jk1n jk28 jk2c jk1o jk13 jk20
 refine ⟨rfl, ⟨Nat.zero_le _, all_0 _ _⟩, ?_, fun _ => rfl, ?_⟩
 ·repeat' first | exact plainIL _ _ | exact wk_refl _ | exact trivial | exact rfl | exact wk_refl _ | apply And.intro
 rintro x ⟨hx, ha⟩
 try dsimp only
 refine forkD (fun b => ?_) (fun b => ?_)
 ·have hlt : x < k := by omega
  have hi := hin x hlt
  refine ⟨by omega, intAt (by omega) (by omega), forkEq (fun d => ?_) (fun d => ?_)⟩
  ·have hq : (qNe i) (M.getD x 0) = false := qNe_0 d
   have mf := midP_first (q := (qNe i)) (show x < M.length by omega) ha hq
   refine ⟨fun e => absurd e (ne1 x), fun _ => ⟨vI64 (by omega), rfl, ⟨by omega, by rw [mf.2]; omega⟩, ?_, fun _ => rfl, ?_⟩⟩
   ·rw [mf.1, mf.2]
    repeat' first | exact plainIL _ _ | exact wk_refl _ | exact trivial | exact rfl | exact wk_refl _ | apply And.intro
   rintro y ⟨hy, hc⟩
   try dsimp only
   have hml := midP_len (q := (qNe i)) (show y <= M.length by omega)
   refine forkD (fun b => ?_) (fun b => ?_)
   ·have hma := midP_at (q := (qNe i)) (show y < M.length by omega)
    have hi := hin y (by omega)
    rw [<- hma] at hi
    generalize hE : (midP (qNe i) M y).getD y 0 = E at *
    refine ⟨by omega, by rw [<- hE]; exact intAt (by omega) (by omega), forkNot (forkEq (fun d => ?_) (fun d => ?_))⟩
    ·have hq2 : (qNe i) (M.getD y 0) = false := by rw [<- hma]; exact qNe_0 d
     have h1 := midP_0 (q := (qNe i)) (show y < M.length by omega) hq2
     have h2 := keepP_0 (q := (qNe i)) (show y < M.length by omega) hq2
     refine ⟨vI64 (by omega), y + 1, ⟨by omega, by rw [h2]; omega⟩, by omega, rfl, ?_⟩
     rw [h1, h2]
     repeat' first | exact plainIL _ _ | exact wk_refl _ | exact trivial | exact rfl | exact wk_refl _ | apply And.intro
    ·have hq2 : (qNe i) (M.getD y 0) = true := by rw [<- hma]; exact qNe_1 d
     have h1 := midP_1 (q := (qNe i)) (show y < M.length by omega) hq2
     have h2 := keepP_1 (q := (qNe i)) (show y < M.length by omega) hq2
     have h3 : (keepP (qNe i) M (y + 1)).length = (keepP (qNe i) M y).length + 1 := by rw [h2, List.length_append]; rfl
     have h4 := flat_set (f := intC) intC_len (midP (qNe i) M y) (keepP (qNe i) M y).length (by omega) E
     rw [show (midP (qNe i) M y).set (keepP (qNe i) M y).length E = midP (qNe i) M (y + 1) by rw [<- h1, <- hma]] at h4
     refine ⟨⟨by omega, by omega⟩, by rw [flat_len intC_len, hml]; omega, rfl, vI64 (by omega), vI64 (by omega), y + 1, ⟨by omega, by omega⟩, by omega, rfl, ?_⟩
     rw [h3, show 0 + Int.toNat (((keepP (qNe i) M y).length : Nat) : Int) * 1 = (keepP (qNe i) M y).length * 1 by omega]
     repeat' first | exact plainIL _ _ | exact wk_refl _ | (exact congrArg (fun l => some (KObj.cells true 1 l)) h4) | exact trivial | exact rfl | exact wk_refl _ | apply And.intro
   ·obtain rfl : y = k := by omega
    refine ⟨⟨⟨.inr (.inr rfl), Nat.le_refl _⟩, Nat.le_refl _, by omega, by omega⟩, by rw [Int.toNat_natCast], by rw [flat_len intC_len, hml]; omega, rfl, ⟨⟨.inr (.inr rfl), by omega⟩, ⟨by omega, by omega⟩, by omega⟩, by rw [Int.toNat_natCast]; rfl, rfl, wk_refl _, ⟨⟨?_, plainIL _ _⟩, trivial⟩, trivial⟩
    rw [Int.toNat_natCast, clr_del (by omega)]
  ·have hq : (qNe i) (M.getD x 0) = true := qNe_1 d
   have ha2 := all_1 (by omega) ha hq
   refine ⟨vI64 (by omega), x + 1, ⟨by omega, ha2⟩, by omega, rfl, ?_⟩
   repeat' first | exact plainIL _ _ | exact wk_refl _ | exact trivial | exact rfl | exact wk_refl _ | apply And.intro
 ·obtain rfl : x = k := by omega
  have da := delP_all (q := (qNe i)) (by omega) ha
  rw [da.1, da.2]
  repeat' first | exact plainIL _ _ | exact wk_refl _ | exact trivial | exact rfl | exact wk_refl _ | apply And.intro
theorem hvMin (M : List Int) (h0 : 0 < M.length) (hM : M.length <= 4294967296) : RMin (nI (minL M)) M := by
 delta RMin jk2k jk1u jk27 jk2d jk24 jk1i jk20 jk1l jk1t jk2l
 refine forkD (fun h => absurd h (by omega)) (fun _ => ⟨⟨by omega, by omega⟩, intAt (by omega) (by omega), rfl, by omega, ?_, fun _ => rfl, ?_⟩)
 ·repeat' first | exact plainIL _ _ | exact wk_refl _ | exact trivial | exact rfl | exact wk_refl _ | apply And.intro
 intro x hx
 refine forkD (fun b => ⟨⟨by omega, by omega⟩, intAt (by omega) (by omega), _, rfl, vI64 (by omega), x + 1, by omega, by omega, rfl, ?_⟩) (fun b => ?_)
 ·repeat' first | exact plainIL _ _ | exact wk_refl _ | exact congrArg nI min_step | exact trivial | exact rfl | exact wk_refl _ | apply And.intro
 ·obtain rfl : x = M.length - 1 := by omega
  rfl
theorem kMin (M : List Int) (h0 : 0 < M.length) (hM : M.length <= 4294967296) {H : Heap} {i : Nat} {o : Bool} {z : Nat} (e : H[i]? = some (.cells o z (M.flatMap intC))) : KCall prog 121 [.slice (some ⟨i, 0, none⟩) M.length M.length] H [] (Is (nI (minL M)) H) :=
 valRx (Eq.mpr (EMin _ M) (hvMin M h0 hM)) ⟨plainIL 0 _, trivial⟩ rfl (ids := [i]) ⟨⟨_, _, e⟩, trivial⟩ rfl
theorem takeI (M : List Int) (k : Nat) : (M.flatMap intC).take k = (M.take k).flatMap intC := by
 induction M generalizing k with
 | nil => simp
 | cons a M ih =>
  cases k with
  | zero => rfl
  | succ k => rw [List.flatMap_cons, List.take_succ_cons, List.flatMap_cons, <- ih]; rfl
theorem kCloneP (M : List Int) (k : Nat) (h0 : 0 < k) (hk : k <= M.length) (hM : M.length <= 4294967296) {H : Heap} {L : Nat} (hL : H.length = L) {i : Nat} {o : Bool} {z : Nat} (e : H[i]? = some (.cells o z (M.flatMap intC))) :
  KCall prog 116 [slQ i 2 k] H [] (Is (slQ L 1 k) (H ++ [.cells true 1 ((M.take k).flatMap intC)])) := by
 subst hL
 refine KCall.wkA (args2 := [.slice (some ⟨i, 0, none⟩) k k]) (valQ (fun i => slQ i 1 k) (Eq.mpr (ECloneP M k) ?_) (plainIL 0 M) (fun n => plainIL n _) rfl rfl (fun _ => rfl) e rfl) (wks_cons (wk_ofR h0) wks_nil)
 delta RCloneP jk2b jk1u
 refine ⟨fun h => absurd h (by omega), fun h => ⟨⟨by omega, h, ⟨Nat.le_refl _, Nat.zero_le _⟩, ⟨Nat.le_refl _, by rw [flat_len intC_len]; omega⟩, one1_take one1_I⟩, rfl, rfl, ?_, ⟨?_, plainIL _ _⟩, trivial⟩⟩
 ·rw [Nat.zero_add]; exact wk_Q h0
 ·rw [show List.take (k * 1) (List.drop 0 (M.flatMap intC)) = (M.take k).flatMap intC by rw [List.drop_zero, Nat.mul_one, takeI]]; rfl
theorem hvBst0 (M : List Int) (k : Nat) (f : Fleet) (l : List Rq) (X Y : List Int) (h0 : 0 < k) (hk : k <= M.length) (hM : M.length <= 4294967296) (hin : ∀ i, i < k -> 0 <= M.getD i 0 /\ M.getD i 0 < (l.length : Int)) : RBst0 (nI (bstP (cmpL l) M (k - 1))) M k f l X Y := by
 delta RBst0 jk1h jk2a jk1u jk27 jkg jk2d jk2p jkt jk1f jk1i jk20 jk1l jk2i jk1x jkp jkn jk1j jk6 jk4 jk2l jkv jk1k jk23
 refine ⟨⟨by omega, by omega⟩, intAt (by omega) (by omega), ⟨⟨.inl rfl, Nat.le_refl _⟩, Nat.le_refl _, by omega, by omega⟩, rfl, Nat.zero_le _, ?_, fun _ => rfl, ?_⟩
 ·repeat' first | exact plainIL _ _ | exact wk_refl _ | exact trivial | exact rfl | exact wk_refl _ | apply And.intro
 intro x hx
 refine forkD (fun b => ?_) (fun b => ?_)
 ·have hi := hin (x + 1) (by omega)
  obtain ⟨j, hj, ej⟩ := bst_mem (cmpL l) M x
  have hj2 := hin j (by omega)
  rw [<- ej] at hj2
  refine ⟨by omega, intAt (by omega) (by omega), ⟨rfl, rfl, rfl, rfl, rfl, rfl, trivial⟩, fun H' _ hd => kLater f l X Y _ _ hi hj2 hd.1 hd.2.1 hd.2.2.1 hd.2.2.2.1 hd.2.2.2.2.1 hd.2.2.2.2.2.1, forkD (fun d => ⟨vI64 (by omega), x + 1, by omega, by omega, rfl, ?_⟩) (fun d => ⟨vI64 (by omega), x + 1, by omega, by omega, rfl, ?_⟩)⟩
  ·rw [bst_1 (show cmpL l _ _ < 0 from d)]
   repeat' first | exact plainIL _ _ | exact wk_refl _ | exact trivial | exact rfl | exact wk_refl _ | apply And.intro
  ·rw [bst_0 (show ¬ cmpL l _ _ < 0 from d)]
   repeat' first | exact plainIL _ _ | exact wk_refl _ | exact trivial | exact rfl | exact wk_refl _ | apply And.intro
 ·obtain rfl : x = k - 1 := by omega
  rfl
theorem hvBst1 (M : List Int) (k : Nat) (f : Fleet) (l : List Rq) (X Y : List Int) (hr : Int) (p : Pol) (ov : List Int) (h0 : 0 < k) (hk : k <= M.length) (hM : M.length <= 4294967296) (hin : ∀ i, i < k -> 0 <= M.getD i 0 /\ M.getD i 0 < (l.length : Int)) : RBst1 (nI (bstP (cmpV l 0) M (k - 1))) M k f l X Y hr p ov := by
 delta RBst1 jk1h jk2a jk1u jk27 jkg jk2d jk2p jk17 jk7 jk1l jk2i jk1x jkp jkn jk1j jk6 jk4 jkb jkl jk29 jk1i jk20 jk2 jk1 jko jk10
 refine ⟨⟨by omega, by omega⟩, intAt (by omega) (by omega), ⟨⟨.inl rfl, Nat.le_refl _⟩, Nat.le_refl _, by omega, by omega⟩, rfl, Nat.zero_le _, ?_, fun _ => rfl, ?_⟩
 ·repeat' first | exact plainIL _ _ | exact wk_refl _ | exact trivial | exact rfl | exact wk_refl _ | apply And.intro
 intro x hx
 refine forkD (fun b => ?_) (fun b => ?_)
 ·have hi := hin (x + 1) (by omega)
  obtain ⟨j, hj, ej⟩ := bst_mem (cmpV l 0) M x
  have hj2 := hin j (by omega)
  rw [<- ej] at hj2
  refine ⟨by omega, intAt (by omega) (by omega), ⟨rfl, rfl, rfl, rfl, rfl, rfl, trivial⟩, fun H' _ hd => kLater f l X Y _ _ hi hj2 hd.1 hd.2.1 hd.2.2.1 hd.2.2.2.1 hd.2.2.2.2.1 hd.2.2.2.2.2.1, forkD (fun d => ⟨vI64 (by omega), x + 1, by omega, by omega, rfl, ?_⟩) (fun d => ⟨vI64 (by omega), x + 1, by omega, by omega, rfl, ?_⟩)⟩
  ·rw [bst_1 (show cmpV l 0 _ _ < 0 from d)]
   repeat' first | exact plainIL _ _ | exact wk_refl _ | exact trivial | exact rfl | exact wk_refl _ | apply And.intro
  ·rw [bst_0 (show ¬ cmpV l 0 _ _ < 0 from d)]
   repeat' first | exact plainIL _ _ | exact wk_refl _ | exact trivial | exact rfl | exact wk_refl _ | apply And.intro
 ·obtain rfl : x = k - 1 := by omega
  rfl
theorem hvBst2 (M : List Int) (k : Nat) (f : Fleet) (l : List Rq) (X Y : List Int) (hr : Int) (p : Pol) (ov : List Int) (h0 : 0 < k) (hk : k <= M.length) (hM : M.length <= 4294967296) (hin : ∀ i, i < k -> 0 <= M.getD i 0 /\ M.getD i 0 < (l.length : Int)) (hb : ∀ i, i < l.length -> 0 <= (l.getD i zeroQ).at_ /\ (l.getD i zeroQ).at_ <= 10000 /\ 0 <= (l.getD i zeroQ).limit /\ (l.getD i zeroQ).limit <= 10000 /\ 1 <= (l.getD i zeroQ).prio /\ (l.getD i zeroQ).prio <= 3) : RBst2 (nI (bstP (cmpV l 1) M (k - 1))) M k f l X Y hr p ov := by
 delta RBst2 jk1h jk2a jk1u jk27 jkg jk2d jk2p jk17 jk7 jk1l jk2i jk1x jkp jkn jkw jk2e jk2l jk1e jky jk1g jk1j jk6 jk4 jkb jkl jkc jk29 jk1i jk20 jk2 jk1 jko jk10
 refine ⟨⟨by omega, by omega⟩, intAt (by omega) (by omega), ⟨⟨.inl rfl, Nat.le_refl _⟩, Nat.le_refl _, by omega, by omega⟩, rfl, Nat.zero_le _, ?_, fun _ => rfl, ?_⟩
 ·repeat' first | exact plainIL _ _ | exact wk_refl _ | exact trivial | exact rfl | exact wk_refl _ | apply And.intro
 intro x hx
 refine forkD (fun b => ?_) (fun b => ?_)
 ·have hi := hin (x + 1) (by omega)
  obtain ⟨j, hj, ej⟩ := bst_mem (cmpV l 1) M x
  have hj2 := hin j (by omega)
  rw [<- ej] at hj2
  have hbi := hb (Int.toNat (M.getD (x + 1) 0)) (by omega)
  have hbj := hb (Int.toNat (bstP (cmpV l 1) M x)) (by omega)
  have ec : cmpV l 1 (M.getD (x + 1) 0) (bstP (cmpV l 1) M x) = first2 (endV (rqAt l (M.getD (x + 1) 0)) - endV (rqAt l (bstP (cmpV l 1) M x))) (laterV (rqAt l (M.getD (x + 1) 0)) (rqAt l (bstP (cmpV l 1) M x))) := rfl
  refine ⟨by omega, intAt (by omega) (by omega), by omega, atQ (by omega) (by omega), by omega, lmQ (by omega) (by omega), vI64 (by omega), by omega, atQ (by omega) (by omega), by omega, lmQ (by omega) (by omega), vI64 (by omega), vI64 (by omega), ⟨rfl, rfl, rfl, rfl, rfl, rfl, trivial⟩, fun H' _ hd => kLater f l X Y _ _ hi hj2 hd.1 hd.2.1 hd.2.2.1 hd.2.2.2.1 hd.2.2.2.2.1 hd.2.2.2.2.2.1, forkNe (fun g => forkD (fun d => ⟨vI64 (by omega), x + 1, by omega, by omega, rfl, ?_⟩) (fun d => ⟨vI64 (by omega), x + 1, by omega, by omega, rfl, ?_⟩)) (fun g => forkNe (fun g2 => forkD (fun d => ⟨vI64 (by omega), x + 1, by omega, by omega, rfl, ?_⟩) (fun d => ⟨vI64 (by omega), x + 1, by omega, by omega, rfl, ?_⟩)) (fun g2 => ⟨vI64 (by omega), x + 1, by omega, by omega, rfl, ?_⟩))⟩
  ·rw [bst_1 (show cmpV l 1 _ _ < 0 from (ec.trans (first2_1 g)).symm ▸ d)]
   repeat' first | exact plainIL _ _ | exact wk_refl _ | exact trivial | exact rfl | exact wk_refl _ | apply And.intro
  ·rw [bst_0 (show ¬ cmpV l 1 _ _ < 0 from (ec.trans (first2_1 g)).symm ▸ d)]
   repeat' first | exact plainIL _ _ | exact wk_refl _ | exact trivial | exact rfl | exact wk_refl _ | apply And.intro
  ·rw [bst_1 (show cmpV l 1 _ _ < 0 from (ec.trans (first2_2 g)).symm ▸ d)]
   repeat' first | exact plainIL _ _ | exact wk_refl _ | exact trivial | exact rfl | exact wk_refl _ | apply And.intro
  ·rw [bst_0 (show ¬ cmpV l 1 _ _ < 0 from (ec.trans (first2_2 g)).symm ▸ d)]
   repeat' first | exact plainIL _ _ | exact wk_refl _ | exact trivial | exact rfl | exact wk_refl _ | apply And.intro
  ·rw [bst_0 (show ¬ cmpV l 1 _ _ < 0 from (ec.trans (first2_2 g)).symm ▸ (show ¬ laterV _ _ < 0 by omega))]
   repeat' first | exact plainIL _ _ | exact wk_refl _ | exact trivial | exact rfl | exact wk_refl _ | apply And.intro
 ·obtain rfl : x = k - 1 := by omega
  rfl
theorem hvBst3 (M : List Int) (k : Nat) (f : Fleet) (l : List Rq) (X Y : List Int) (hr : Int) (p : Pol) (ov : List Int) (h0 : 0 < k) (hk : k <= M.length) (hM : M.length <= 4294967296) (hin : ∀ i, i < k -> 0 <= M.getD i 0 /\ M.getD i 0 < (l.length : Int)) (hb : ∀ i, i < l.length -> 0 <= (l.getD i zeroQ).at_ /\ (l.getD i zeroQ).at_ <= 10000 /\ 0 <= (l.getD i zeroQ).limit /\ (l.getD i zeroQ).limit <= 10000 /\ 1 <= (l.getD i zeroQ).prio /\ (l.getD i zeroQ).prio <= 3) : RBst3 (nI (bstP (cmpV l 2) M (k - 1))) M k f l X Y hr p ov := by
 delta RBst3 jk1h jk2a jk1u jk27 jkg jk2d jk2p jk17 jk7 jk1l jk2i jk1x jkp jkn jky jk2e jk2g jkw jk2l jk1e jk1j jk6 jk4 jkb jkl jkm jk29 jk1i jk20 jk2 jk1 jko jk10
 refine ⟨⟨by omega, by omega⟩, intAt (by omega) (by omega), ⟨⟨.inl rfl, Nat.le_refl _⟩, Nat.le_refl _, by omega, by omega⟩, rfl, Nat.zero_le _, ?_, fun _ => rfl, ?_⟩
 ·repeat' first | exact plainIL _ _ | exact wk_refl _ | exact trivial | exact rfl | exact wk_refl _ | apply And.intro
 intro x hx
 refine forkD (fun b => ?_) (fun b => ?_)
 ·have hi := hin (x + 1) (by omega)
  obtain ⟨j, hj, ej⟩ := bst_mem (cmpV l 2) M x
  have hj2 := hin j (by omega)
  rw [<- ej] at hj2
  have hbi := hb (Int.toNat (M.getD (x + 1) 0)) (by omega)
  have hbj := hb (Int.toNat (bstP (cmpV l 2) M x)) (by omega)
  have ec : cmpV l 2 (M.getD (x + 1) 0) (bstP (cmpV l 2) M x) = first2 ((rqAt l (bstP (cmpV l 2) M x)).prio - (rqAt l (M.getD (x + 1) 0)).prio) (laterV (rqAt l (M.getD (x + 1) 0)) (rqAt l (bstP (cmpV l 2) M x))) := rfl
  refine ⟨by omega, intAt (by omega) (by omega), by omega, prQ (by omega) (by omega), by omega, prQ (by omega) (by omega), vI64 (by omega), ⟨rfl, rfl, rfl, rfl, rfl, rfl, trivial⟩, fun H' _ hd => kLater f l X Y _ _ hi hj2 hd.1 hd.2.1 hd.2.2.1 hd.2.2.2.1 hd.2.2.2.2.1 hd.2.2.2.2.2.1, forkNe (fun g => forkD (fun d => ⟨vI64 (by omega), x + 1, by omega, by omega, rfl, ?_⟩) (fun d => ⟨vI64 (by omega), x + 1, by omega, by omega, rfl, ?_⟩)) (fun g => forkNe (fun g2 => forkD (fun d => ⟨vI64 (by omega), x + 1, by omega, by omega, rfl, ?_⟩) (fun d => ⟨vI64 (by omega), x + 1, by omega, by omega, rfl, ?_⟩)) (fun g2 => ⟨vI64 (by omega), x + 1, by omega, by omega, rfl, ?_⟩))⟩
  ·rw [bst_1 (show cmpV l 2 _ _ < 0 from (ec.trans (first2_1 g)).symm ▸ d)]
   repeat' first | exact plainIL _ _ | exact wk_refl _ | exact trivial | exact rfl | exact wk_refl _ | apply And.intro
  ·rw [bst_0 (show ¬ cmpV l 2 _ _ < 0 from (ec.trans (first2_1 g)).symm ▸ d)]
   repeat' first | exact plainIL _ _ | exact wk_refl _ | exact trivial | exact rfl | exact wk_refl _ | apply And.intro
  ·rw [bst_1 (show cmpV l 2 _ _ < 0 from (ec.trans (first2_2 g)).symm ▸ d)]
   repeat' first | exact plainIL _ _ | exact wk_refl _ | exact trivial | exact rfl | exact wk_refl _ | apply And.intro
  ·rw [bst_0 (show ¬ cmpV l 2 _ _ < 0 from (ec.trans (first2_2 g)).symm ▸ d)]
   repeat' first | exact plainIL _ _ | exact wk_refl _ | exact trivial | exact rfl | exact wk_refl _ | apply And.intro
  ·rw [bst_0 (show ¬ cmpV l 2 _ _ < 0 from (ec.trans (first2_2 g)).symm ▸ (show ¬ laterV _ _ < 0 by omega))]
   repeat' first | exact plainIL _ _ | exact wk_refl _ | exact trivial | exact rfl | exact wk_refl _ | apply And.intro
 ·obtain rfl : x = k - 1 := by omega
  rfl
theorem playS_all {f : Fleet} {p : Pol} {l : List Rq} (o : FlOk f) (ol : LsOk f.t.length l) : ∀ (m hour : Nat) (h : List Sv), PlayI f p l hour h -> (l.length - h.length) + (10001 + 200 * l.length - hour) <= m -> (playS f p l m (hour : Int) h).length = l.length
 | 0, hour, h, i, hm => by
  have := i.len
  show h.length = l.length
  omega
 | m + 1, hour, h, i, hm => by
  have hl := i.len
  by_cases c : l.length <= h.length
  ·rw [show playS f p l (m + 1) (hour : Int) h = h from if_pos c]; omega
  ·have hn := i.now (by omega)
   cases e : decAt f p l h (hour : Int) with
   | some s =>
    have e2 : playS f p l (m + 1) (hour : Int) h = playS f p l m (hour : Int) (h ++ [s]) := by
     show (if l.length <= h.length then h else _) = _
     rw [if_neg c, e]
    rw [e2]
    refine playS_all o ol m hour _ (playI_dec o ol i (by omega) e) ?_
    rw [List.length_append, show [s].length = 1 from rfl]; omega
   | none =>
    have e2 : playS f p l (m + 1) (hour : Int) h = playS f p l m ((hour + 1 : Nat) : Int) h := by
     show (if l.length <= h.length then h else _) = _
     rw [if_neg c, e]; rfl
    rw [e2]
    exact playS_all o ol m (hour + 1) h (playI_next o ol i (fun _ => e) (.inl (by omega))) (by omega)
theorem playF_len {f : Fleet} {p : Pol} {l : List Rq} (o : FlOk f) (ol : LsOk f.t.length l) : (playF f p l).length = l.length :=
 playS_all o ol 40000 0 [] (playI_0 ol.len) (by have := ol.len; have e : ([] : List Sv).length = 0 := rfl; omega)
end
end Go.Proofs.YthdekmpkioikdaaGreat
