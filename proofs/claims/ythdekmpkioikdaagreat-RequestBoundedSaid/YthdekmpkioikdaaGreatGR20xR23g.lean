/- Request: one decision of the program's run of a policy. No condition. -/
import Derived.Test.YthdekmpkioikdaaGreatR19
import Derived.Test.YthdekmpkioikdaaGreatGR18gxR18h
import Derived.Test.YthdekmpkioikdaaGreatGZ6xR19f
namespace Go.Proofs.YthdekmpkioikdaaGreat
open Go Go.K
set_option maxRecDepth 100000
set_option linter.unusedVariables false
set_option linter.unusedSimpArgs false
noncomputable section
attribute [local irreducible] vF
theorem insC {H : Heap} {σ : Nat -> Option Nat} {i : Nat} {is : List Nat} {c : List Value} {cs : List (List Value)} {o : Bool} {z : Nat} (h : c.all (belowC 0) = true) (e : H[i]? = some (.cells o z c)) (r : InsA H σ is cs) : InsA H σ (i :: is) (c :: cs) :=
 ⟨⟨o, z, by rw [(rnCl (d := 0) h).1]; exact e⟩, r⟩
theorem insP {H : Heap} {σ : Nat -> Option Nat} {i : Nat} {is : List Nat} {c c2 : List Value} {cs : List (List Value)} {o : Bool} {z : Nat} (h : c.map (rn σ 3) = c2) (e : H[i]? = some (.cells o z c2)) (r : InsA H σ is cs) : InsA H σ (i :: is) (c :: cs) :=
 ⟨⟨o, z, by rw [h]; exact e⟩, r⟩
theorem kDel0 (M : List Int) (k : Nat) (f : Fleet) (l : List Rq) (X Y : List Int) (hr : Int) (hk : k <= M.length) (hM : M.length <= 4294967296) (hin : ∀ i, i < k -> 0 <= M.getD i 0 /\ M.getD i 0 < (l.length : Int)) {H : Heap} {D : Nat} (hD : H[D]? = some (.cells true 1 (M.flatMap intC))) {ids : List Nat} (hi : InsA H (sgRW 0 D ids) ids (ctB f l X Y hr)) (hne : D ∉ ids) {args' : List Value} (ha : [slQ 0 2 k, .func (.func 123) #[] #[pT 7, pT 8]].map (rn (sgRW 0 D ids) 3) = args') :
  KCall prog 122 args' H [D] (Is (slQ D 2 (keepP (qAt l hr) M k).length) (H.set D (.cells true 1 ((delP (qAt l hr) M k).flatMap intC)))) :=
 valG (Eq.mpr (EDel0 M k f l X Y hr) (hvDel0 M k f l X Y hr hk hM hin)) (plainIL 0 _) (plainIL 0 _) hD hi hne ha
theorem kDel1 (M : List Int) (k : Nat) (f : Fleet) (l : List Rq) (X Y : List Int) (hr : Int) (p : Pol) (ov : List Int) (hk : k <= M.length) (hM : M.length <= 4294967296) (hin : ∀ i, i < k -> 0 <= M.getD i 0 /\ M.getD i 0 < (l.length : Int)) (hov : ov.length = l.length) {H : Heap} {D : Nat} (hD : H[D]? = some (.cells true 1 (M.flatMap intC))) {ids : List Nat} (hi : InsA H (sgRW 0 D ids) ids (ctC f l X Y hr p ov 0)) (hne : D ∉ ids) {args' : List Value} (ha : [slQ 0 2 k, .func (.func 125) #[] #[pT 15]].map (rn (sgRW 0 D ids) 3) = args') :
  KCall prog 122 args' H [D] (Is (slQ D 2 (keepP (ofV p l ov hr 0) M k).length) (H.set D (.cells true 1 ((delP (ofV p l ov hr 0) M k).flatMap intC)))) :=
 valG (Eq.mpr (EDel1 M k f l X Y hr p ov) (hvDel1 M k f l X Y hr p ov hk hM hin hov)) (plainIL 0 _) (plainIL 0 _) hD hi hne ha
theorem kDel2 (M : List Int) (k : Nat) (f : Fleet) (l : List Rq) (X Y : List Int) (hr : Int) (p : Pol) (ov : List Int) (hk : k <= M.length) (hM : M.length <= 4294967296) (hin : ∀ i, i < k -> 0 <= M.getD i 0 /\ M.getD i 0 < (l.length : Int)) (hb : ∀ i, i < l.length -> 0 <= (l.getD i zeroQ).at_ /\ (l.getD i zeroQ).at_ <= 10000 /\ 0 <= (l.getD i zeroQ).limit /\ (l.getD i zeroQ).limit <= 10000 /\ 1 <= (l.getD i zeroQ).prio /\ (l.getD i zeroQ).prio <= 3) (hhr : -1000000000 <= hr /\ hr <= 1000000000) {H : Heap} {D : Nat} (hD : H[D]? = some (.cells true 1 (M.flatMap intC))) {ids : List Nat} (hi : InsA H (sgRW 0 D ids) ids (ctC f l X Y hr p ov 1)) (hne : D ∉ ids) {args' : List Value} (ha : [slQ 0 2 k, .func (.func 125) #[] #[pT 15]].map (rn (sgRW 0 D ids) 3) = args') :
  KCall prog 122 args' H [D] (Is (slQ D 2 (keepP (ofV p l ov hr 1) M k).length) (H.set D (.cells true 1 ((delP (ofV p l ov hr 1) M k).flatMap intC)))) :=
 valG (Eq.mpr (EDel2 M k f l X Y hr p ov) (hvDel2 M k f l X Y hr p ov hk hM hin (fun i hi => ⟨(hb i hi).1, (hb i hi).2.1, (hb i hi).2.2.1, (hb i hi).2.2.2.1⟩) hhr)) (plainIL 0 _) (plainIL 0 _) hD hi hne ha
theorem kDel3 (M : List Int) (k : Nat) (f : Fleet) (l : List Rq) (X Y : List Int) (hr : Int) (p : Pol) (ov : List Int) (hk : k <= M.length) (hM : M.length <= 4294967296) (hin : ∀ i, i < k -> 0 <= M.getD i 0 /\ M.getD i 0 < (l.length : Int)) {H : Heap} {D : Nat} (hD : H[D]? = some (.cells true 1 (M.flatMap intC))) {ids : List Nat} (hi : InsA H (sgRW 0 D ids) ids (ctC f l X Y hr p ov 2)) (hne : D ∉ ids) {args' : List Value} (ha : [slQ 0 2 k, .func (.func 125) #[] #[pT 15]].map (rn (sgRW 0 D ids) 3) = args') :
  KCall prog 122 args' H [D] (Is (slQ D 2 (keepP (ofV p l ov hr 2) M k).length) (H.set D (.cells true 1 ((delP (ofV p l ov hr 2) M k).flatMap intC)))) :=
 valG (Eq.mpr (EDel3 M k f l X Y hr p ov) (hvDel3 M k f l X Y hr p ov hk hM hin)) (plainIL 0 _) (plainIL 0 _) hD hi hne ha
theorem kDel4 (M : List Int) (k : Nat) (i : Int) (hk : k <= M.length) (hM : M.length <= 4294967296) (hin : ∀ i, i < k -> -1 <= M.getD i 0) {H : Heap} {D : Nat} (hD : H[D]? = some (.cells true 1 (M.flatMap intC))) {ids : List Nat} (hi : InsA H (sgRW 0 D ids) ids [[nI i]]) (hne : D ∉ ids) {args' : List Value} (ha : [slQ 0 2 k, .func (.func 130) #[] #[pT 1]].map (rn (sgRW 0 D ids) 3) = args') :
  KCall prog 122 args' H [D] (Is (slQ D 2 (keepP (qNe i) M k).length) (H.set D (.cells true 1 ((delP (qNe i) M k).flatMap intC)))) :=
 valG (Eq.mpr (EDel4 M k i) (hvDel4 M k i hk hM hin)) (plainIL 0 _) (plainIL 0 _) hD hi hne ha
theorem kBst0 (M : List Int) (k : Nat) (f : Fleet) (l : List Rq) (X Y : List Int) (h0 : 0 < k) (hk : k <= M.length) (hM : M.length <= 4294967296) (hin : ∀ i, i < k -> 0 <= M.getD i 0 /\ M.getD i 0 < (l.length : Int)) {H : Heap} {ids : List Nat} (hi : InsA H (sgR 0 ids) ids ((M.flatMap intC) :: ctA f l X Y)) {args' : List Value} (ha : [slQ 0 2 k, .func (.func 120) #[pT 6] #[]].map (rn (sgR 0 ids) 3) = args') :
  KCall prog 119 args' H [] (Is (nI (bstP (cmpL l) M (k - 1))) H) :=
 valB (Eq.mpr (EBst0 _ M k f l X Y) (hvBst0 M k f l X Y h0 hk hM hin)) rfl (hi := hi) (ha := ha)
theorem kBst1 (M : List Int) (k : Nat) (f : Fleet) (l : List Rq) (X Y : List Int) (hr : Int) (p : Pol) (ov : List Int) (h0 : 0 < k) (hk : k <= M.length) (hM : M.length <= 4294967296) (hin : ∀ i, i < k -> 0 <= M.getD i 0 /\ M.getD i 0 < (l.length : Int)) {H : Heap} {ids : List Nat} (hi : InsA H (sgR 0 ids) ids ((M.flatMap intC) :: ctC f l X Y hr p ov 0)) {args' : List Value} (ha : [slQ 0 2 k, .func (.func 126) #[] #[pT 15, pT 7]].map (rn (sgR 0 ids) 3) = args') :
  KCall prog 119 args' H [] (Is (nI (bstP (cmpV l 0) M (k - 1))) H) :=
 valB (Eq.mpr (EBst1 _ M k f l X Y hr p ov) (hvBst1 M k f l X Y hr p ov h0 hk hM hin)) rfl (hi := hi) (ha := ha)
theorem kBst2 (M : List Int) (k : Nat) (f : Fleet) (l : List Rq) (X Y : List Int) (hr : Int) (p : Pol) (ov : List Int) (h0 : 0 < k) (hk : k <= M.length) (hM : M.length <= 4294967296) (hin : ∀ i, i < k -> 0 <= M.getD i 0 /\ M.getD i 0 < (l.length : Int)) (hb : ∀ i, i < l.length -> 0 <= (l.getD i zeroQ).at_ /\ (l.getD i zeroQ).at_ <= 10000 /\ 0 <= (l.getD i zeroQ).limit /\ (l.getD i zeroQ).limit <= 10000 /\ 1 <= (l.getD i zeroQ).prio /\ (l.getD i zeroQ).prio <= 3) {H : Heap} {ids : List Nat} (hi : InsA H (sgR 0 ids) ids ((M.flatMap intC) :: ctC f l X Y hr p ov 1)) {args' : List Value} (ha : [slQ 0 2 k, .func (.func 126) #[] #[pT 15, pT 7]].map (rn (sgR 0 ids) 3) = args') :
  KCall prog 119 args' H [] (Is (nI (bstP (cmpV l 1) M (k - 1))) H) :=
 valB (Eq.mpr (EBst2 _ M k f l X Y hr p ov) (hvBst2 M k f l X Y hr p ov h0 hk hM hin hb)) rfl (hi := hi) (ha := ha)
theorem kBst3 (M : List Int) (k : Nat) (f : Fleet) (l : List Rq) (X Y : List Int) (hr : Int) (p : Pol) (ov : List Int) (h0 : 0 < k) (hk : k <= M.length) (hM : M.length <= 4294967296) (hin : ∀ i, i < k -> 0 <= M.getD i 0 /\ M.getD i 0 < (l.length : Int)) (hb : ∀ i, i < l.length -> 0 <= (l.getD i zeroQ).at_ /\ (l.getD i zeroQ).at_ <= 10000 /\ 0 <= (l.getD i zeroQ).limit /\ (l.getD i zeroQ).limit <= 10000 /\ 1 <= (l.getD i zeroQ).prio /\ (l.getD i zeroQ).prio <= 3) {H : Heap} {ids : List Nat} (hi : InsA H (sgR 0 ids) ids ((M.flatMap intC) :: ctC f l X Y hr p ov 2)) {args' : List Value} (ha : [slQ 0 2 k, .func (.func 126) #[] #[pT 15, pT 7]].map (rn (sgR 0 ids) 3) = args') :
  KCall prog 119 args' H [] (Is (nI (bstP (cmpV l 2) M (k - 1))) H) :=
 valB (Eq.mpr (EBst3 _ M k f l X Y hr p ov) (hvBst3 M k f l X Y hr p ov h0 hk hM hin hb)) rfl (hi := hi) (ha := ha)
theorem bnds {f : Fleet} {l : List Rq} (ol : LsOk f.t.length l) : ∀ i, i < l.length -> 0 <= (l.getD i zeroQ).at_ /\ (l.getD i zeroQ).at_ <= 10000 /\ 0 <= (l.getD i zeroQ).limit /\ (l.getD i zeroQ).limit <= 10000 /\ 1 <= (l.getD i zeroQ).prio /\ (l.getD i zeroQ).prio <= 3 := fun i hi =>
 ⟨(ol.ok i hi).at_.1, (ol.ok i hi).at_.2, (ol.ok i hi).limit.1, (ol.ok i hi).limit.2, (ol.ok i hi).prio.1, (ol.ok i hi).prio.2⟩
theorem plQ {l : List Rq} {k : Nat} (h : k < l.length) {off : Nat} (ho : off = k * 7 + 2) : (l.flatMap rqC)[off]? = some (.int .i64 (l.getD k zeroQ).place) := cell_at (n := 7) (d := zeroQ) (c := 2) rqC_len h ho rfl
theorem plH_snoc (f : Fleet) (l : List Rq) (h : List Sv) (s : Sv) : plH f l (h ++ [s]) (h.length + 1) = (plH f l h h.length).set (Int.toNat s.br) (rqAt l s.rq).dest := by
 show (plH f l (h ++ [s]) h.length).set _ _ = _
 rw [plH_app f l h s _ (Nat.le_refl _), svAt_r]
theorem wt_le (f : Fleet) (l : List Rq) (h : List Sv) : (wtN f l h).length <= (opL l h).length := keepP_le ..
theorem wtB_len (f : Fleet) (l : List Rq) (h : List Sv) : (wtB f l h).length = (opL l h).length := delP_len (Nat.le_refl _)
theorem wtB_take (f : Fleet) (l : List Rq) (h : List Sv) : (wtB f l h).take (wtN f l h).length = wtN f l h := delP_take
theorem sm_le (f : Fleet) (p : Pol) (l : List Rq) (h : List Sv) (X : Nat) : (smN f p l h X).length <= (wtN f l h).length := keepP_le ..
theorem smB_len (f : Fleet) (p : Pol) (l : List Rq) (h : List Sv) (X : Nat) : (smB f p l h X).length = (wtN f l h).length := delP_len (Nat.le_refl _)
theorem op_in (l : List Rq) (h : List Sv) : ∀ i, i < (opL l h).length -> 0 <= (opL l h).getD i 0 /\ (opL l h).getD i 0 < (l.length : Int) := fun i hi => (op_at hi).1
theorem wt_in (f : Fleet) (l : List Rq) (h : List Sv) : ∀ i, i < (wtN f l h).length -> 0 <= (wtN f l h).getD i 0 /\ (wtN f l h).getD i 0 < (l.length : Int) := fun i hi => (mem_op.1 (mem_wt.1 (getD_mem (d := 0) hi)).1).1
theorem smB_in (f : Fleet) (p : Pol) (l : List Rq) (h : List Sv) (X : Nat) : ∀ i, i < (smN f p l h X).length -> 0 <= (smB f p l h X).getD i 0 /\ (smB f p l h X).getD i 0 < (l.length : Int) := fun i hi => by
 rw [show (smB f p l h X).getD i 0 = (smN f p l h X).getD i 0 from delP_at hi]
 exact (mem_op.1 (mem_wt.1 (mem_sm.1 (getD_mem (d := 0) hi)).1).1).1
set_option maxHeartbeats 8000000 in
theorem runBody (f : Fleet) (p : Pol) (l : List Rq) (h : List Sv) (o : FlOk f) (ol : LsOk f.t.length l) (i : RunI f p l h) : RBody f p l h := by
 have l30 := ol.len
 have b3 := o.b2
 have b1 := o.b1
 have opl := op_le l h
 have wtl := wt_le f l h
 have sm0 := sm_le f p l h 0
 have sm1 := sm_le f p l h 1
 have sm2 := sm_le f p l h 2
 delta RBody jj3f jj4e jj48 jj2e jjv jj21 jjb jj4c jjw jja jj3v jj1z jj39 jj4j jji jj22 jj3h jjs jjx jjn jj1l jj29 jjt jjq jjl jj1k jj24 jj1q jj1m jj2m jjc jjk jj3x jj3t jj3j jj1t jj3 jj3d jj49 jjr jj1i jj16 jj6 jj2q jj5 jjf jj18 jj1j jj1h jj3u jjm jj36 jju jj20 jjh jjy jj2l jjj jj1r jj1e jj13 jjd jj10 jj15 jjz jj9 jje jj19 jj27 jj1x jj23 jj2t jj28 jj2d jj1v jj4i jj3e jj4l jj4a jj4f jj2f jj1 jj12 jj2a jj11 jj25 jj2 jj1a jj1b jj1p jj2b jj1n jj26 jj4 jj1c jj1d
 intro hd0
 have d : 0 < (opL l h).length := by have := of_decide_eq_true hd0; omega
 have wp := wt_pos (f := f) d
 have am := ask_op d
 have aI := (mem_op.1 am.1).1
 have hl : h.length < l.length := by obtain ⟨_, pi, _⟩ := i; have := op_len pi.good; omega
 have hrB : -1000000000 <= hrN f l h /\ hrN f l h <= 1000000000 := by
  obtain ⟨_, pi, _⟩ := i
  have fr := pi.free
  obtain ⟨j, j1, j2⟩ := minL_mem (M := frH f h h.length) (by rw [frH_len]; omega)
  rw [frH_len] at j1
  have fj := fr j j1
  have ql := (ol.ok _ (show Int.toNat (askN l h) < l.length by omega)).at_
  have ql : 0 <= (rqAt l (askN l h)).at_ /\ (rqAt l (askN l h)).at_ <= 10000 := ql
  unfold hrN
  omega
 refine ⟨⟨rfl, rfl, rfl, rfl, rfl, rfl, rfl, trivial⟩, fun H' _ hd => ?_, by omega, atQ (by omega) (by omega), ⟨rfl, trivial⟩, fun H' _ hd => ?_, ?_, ⟨rfl, trivial⟩, fun H' hL hd => ?_, ⟨rfl, rfl, rfl, rfl, rfl, rfl, rfl, rfl, rfl, trivial⟩, fun H' _ hd => ?_, ⟨rfl, trivial⟩, fun H' hL hd => by
   have := kCloneP (wtB f l h) (wtN f l h).length wp (by rw [wtB_len]; exact wt_le f l h) (by rw [wtB_len]; omega) hL hd.1
   rw [wtB_take] at this
   exact this, ⟨rfl, rfl, rfl, rfl, rfl, rfl, rfl, rfl, rfl, rfl, rfl, rfl, rfl, rfl, rfl, rfl, trivial⟩, fun H' _ hd => ?_, forkD (fun c0 => ?_) (fun c0 => ?_)⟩
 ·exact kBst0 (opB l h) (opL l h).length f l (frH f h h.length) (plH f l h h.length) d (by rw [opB_len]; omega) (by rw [opB_len]; omega) (fun j hj => by rw [opB_at hj]; exact op_in l h j hj) (ids := [12, 0, 1, 2, 7, 8, 9]) (insC (plainIL 0 _) hd.1 (insC (inL_b 0 _) hd.2.1 (insC (plainIL 0 _) hd.2.2.1 (insC (plainRQ 0 _) hd.2.2.2.1 (insC (plainIL 0 _) hd.2.2.2.2.1 (insC (plainIL 0 _) hd.2.2.2.2.2.1 (insP (by rw [frH_len, plH_len]; rfl) hd.2.2.2.2.2.2.1 trivial))))))) rfl
 ·have := kMin (frH f h h.length) (by rw [frH_len]; omega) (by rw [frH_len]; omega) hd.1
  rw [frH_len] at this
  exact this
 ·show some (KObj.cells true 0 [nI _]) = some (KObj.cells true 0 [nI _])
  have : (if (l.getD (Int.toNat (askN l h)) zeroQ).at_ > minL (frH f h h.length) then (l.getD (Int.toNat (askN l h)) zeroQ).at_ else minL (frH f h h.length)) = hrN f l h := by
   show _ = max (minL (frH f h h.length)) (l.getD (Int.toNat (askN l h)) zeroQ).at_
   split <;> omega
  rw [this]
 ·have := kCloneP (opB l h) (opL l h).length d (by rw [opB_len]; exact opl) (by rw [opB_len]; omega) hL hd.1
  rw [opB_take] at this
  exact this
 ·exact KCall.wkA (args2 := [slQ 16 2 (opL l h).length, .func (.func 123) #[] #[pT 10, pT 15]]) (kDel0 (opL l h) (opL l h).length f l (frH f h h.length) (plH f l h h.length) (hrN f l h) (Nat.le_refl _) (by omega) (op_in l h) (D := 16) hd.1 (ids := [0, 1, 2, 7, 8, 9, 10, 15]) (insC (inL_b 0 _) hd.2.1 (insC (plainIL 0 _) hd.2.2.1 (insC (plainRQ 0 _) hd.2.2.2.1 (insC (plainIL 0 _) hd.2.2.2.2.1 (insC (plainIL 0 _) hd.2.2.2.2.2.1 (insP (by rw [frH_len, plH_len]; rfl) hd.2.2.2.2.2.2.1 (insP rfl hd.2.2.2.2.2.2.2.1 (insC rfl hd.2.2.2.2.2.2.2.2.1 trivial)))))))) (by decide) rfl) (wks_cons wk_QR (wks_cons (wk_refl _) wks_nil))
 ·exact KCall.wkA (args2 := [slQ 25 2 (wtN f l h).length, .func (.func 125) #[] #[pT 24]]) (kDel1 (wtN f l h) (wtN f l h).length f l (frH f h h.length) (plH f l h h.length) (hrN f l h) p (ovN l h h.length) (Nat.le_refl _) (by omega) (wt_in f l h) (by rw [ovN_len]) (D := 25) hd.1 (ids := [0, 1, 2, 7, 8, 9, 10, 15, 19, 13, 20, 21, 22, 18, 24]) (insC (inL_b 0 _) hd.2.1 (insC (plainIL 0 _) hd.2.2.1 (insC (plainRQ 0 _) hd.2.2.2.1 (insC (plainIL 0 _) hd.2.2.2.2.1 (insC (plainIL 0 _) hd.2.2.2.2.2.1 (insP (by rw [frH_len, plH_len]; rfl) hd.2.2.2.2.2.2.1 (insP rfl hd.2.2.2.2.2.2.2.1 (insC rfl hd.2.2.2.2.2.2.2.2.1 (insC rfl hd.2.2.2.2.2.2.2.2.2.1 (insC (plainIL 0 _) hd.2.2.2.2.2.2.2.2.2.2.1 (insP (by rw [ovN_len]; rfl) hd.2.2.2.2.2.2.2.2.2.2.2.1 (insC rfl hd.2.2.2.2.2.2.2.2.2.2.2.2.1 (insP rfl hd.2.2.2.2.2.2.2.2.2.2.2.2.2.1 (insP rfl hd.2.2.2.2.2.2.2.2.2.2.2.2.2.2.1 (insP rfl hd.2.2.2.2.2.2.2.2.2.2.2.2.2.2.2.1 trivial))))))))))))))) (by decide) rfl) (wks_cons wk_QR (wks_cons (wk_refl _) wks_nil))
 ·have c0 : 0 < (smN f p l h 0).length := by omega
  obtain ⟨be, bo, ba⟩ := bst_rule (p := p) ol (X := 0) (by omega) (by omega) (fun Y hY => absurd hY (Nat.not_lt_zero _))
  obtain ⟨⟨bo1, bo2⟩, bo3⟩ := mem_op.1 bo
  obtain ⟨hour, he, _, pI, hdec, pI2⟩ := run_dec o ol i d bo
  have hrI := hr_in ol pI hl he
  refine ⟨⟨rfl, rfl, rfl, rfl, rfl, rfl, rfl, rfl, rfl, rfl, rfl, rfl, rfl, rfl, rfl, rfl, trivial⟩, fun H' _ hd => ?_, rfl, Nat.zero_le _, ?_, fun _ => rfl, ?_⟩
  ·have := kBst1 (smB f p l h 0) (smN f p l h 0).length f l (frH f h h.length) (plH f l h h.length) (hrN f l h) p (ovN l h h.length) (by omega) (by rw [smB_len]; exact sm_le f p l h 0) (by rw [smB_len]; omega) (smB_in f p l h 0) (ids := 25 :: [0, 1, 2, 7, 8, 9, 10, 15, 19, 13, 20, 21, 22, 18, 24]) (insC (plainIL 0 _) hd.1 (insC (inL_b 0 _) hd.2.1 (insC (plainIL 0 _) hd.2.2.1 (insC (plainRQ 0 _) hd.2.2.2.1 (insC (plainIL 0 _) hd.2.2.2.2.1 (insC (plainIL 0 _) hd.2.2.2.2.2.1 (insP (by rw [frH_len, plH_len]; rfl) hd.2.2.2.2.2.2.1 (insP rfl hd.2.2.2.2.2.2.2.1 (insC rfl hd.2.2.2.2.2.2.2.2.1 (insC rfl hd.2.2.2.2.2.2.2.2.2.1 (insC (plainIL 0 _) hd.2.2.2.2.2.2.2.2.2.2.1 (insP (by rw [ovN_len]; rfl) hd.2.2.2.2.2.2.2.2.2.2.2.1 (insC rfl hd.2.2.2.2.2.2.2.2.2.2.2.2.1 (insP rfl hd.2.2.2.2.2.2.2.2.2.2.2.2.2.1 (insP rfl hd.2.2.2.2.2.2.2.2.2.2.2.2.2.2.1 (insP rfl hd.2.2.2.2.2.2.2.2.2.2.2.2.2.2.2.1 trivial)))))))))))))))) rfl
   rw [be] at this
   exact this
  ·repeat' first | exact plainIL _ _ | exact plainSV _ _ | exact wk_refl _ | exact trivial | exact rfl | exact wk_refl _ | (exact wk_Q (by omega)) | apply And.intro | (exact iEq (by omega))
  generalize hi : bstN f p l h = I at *
  have hB : Int.toNat I < l.length := by omega
  have qb := ol.ok _ hB
  have qp := qb.place
  intro b hb
  have ys := by_spec f l h (hrN f l h) (rqAt l I).place b
  refine forkD (fun q => ?_) (fun q => ?_)
  ·have hlb : b < f.b.length := by omega
   have pin := plH_in o ol h h.length
   have pb := pin b hlb
   have hbn : Int.toNat ((plH f l h h.length).getD b 0) < f.t.length := by omega
   have rb := o.row _ hbn
   have fat : ((brH f l h h.length).getD b zeroB).free = (frH f h h.length).getD b 0 := by rw [brH_at hlb]
   have aat : ((brH f l h h.length).getD b zeroB).at_ = (plH f l h h.length).getD b 0 := by rw [brH_at hlb]
   refine ⟨by omega, intAt (by rw [frH_len]; exact hlb) (by omega), forkD (fun d1 => forkD (fun d2 => ?_) (fun d2 => ?_)) (fun d1 => ?_)⟩
   ·refine ⟨vI64 (by omega), b + 1, by omega, by omega, rfl, ?_⟩
    rw [by_1 (by rw [fat]; omega) (.inl d2)]
    repeat' first | exact plainIL _ _ | exact plainSV _ _ | exact wk_refl _ | exact trivial | exact rfl | exact wk_refl _ | (exact wk_Q (by omega)) | apply And.intro | (exact iEq (by omega))
   ·obtain ⟨Y, eY⟩ : ∃ Y, byTo f l h (hrN f l h) (rqAt l I).place b = Y := ⟨_, rfl⟩
    have z1 := by_1 (f := f) (l := l) (h := h) (hour := hrN f l h) (b := b) (place := (rqAt l I).place) (by rw [fat]; omega)
    have z2 := by_2 (f := f) (l := l) (h := h) (hour := hrN f l h) (b := b) (place := (rqAt l I).place) (by rw [fat]; omega)
    rw [eY] at ys d2 z1 z2 ⊢
    have hY : 0 <= Y /\ Y < (b : Int) := by
     rcases ys with ⟨y1, _⟩ | ⟨y1, y2, _⟩
     ·omega
     ·exact ⟨y1, y2⟩
    have hYb : Int.toNat Y < f.b.length := by omega
    have py := pin (Int.toNat Y) hYb
    have yat : ((brH f l h h.length).getD (Int.toNat Y) zeroB).at_ = (plH f l h h.length).getD (Int.toNat Y) 0 := by rw [brH_at hYb]
    have hyn : Int.toNat ((plH f l h h.length).getD (Int.toNat Y) 0) < f.t.length := by omega
    have ry := o.row _ hyn
    rw [aat, yat] at z1 z2
    refine ⟨by omega, intAt (by rw [plH_len]; exact hlb) (by omega), by omega, inL_at hbn (by omega), by omega, plQ hB (by omega), by omega, intAt (by omega) (by omega), by omega, intAt (by rw [plH_len]; exact hYb) (by omega), by omega, inL_at hyn (by omega), by omega, plQ hB (by omega), by omega, intAt (by omega) (by omega), forkD (fun d3 => ?_) (fun d3 => ?_)⟩
    ·refine ⟨vI64 (by omega), b + 1, by omega, by omega, rfl, ?_⟩
     rw [z1 (.inr d3)]
     repeat' first | exact plainIL _ _ | exact plainSV _ _ | exact wk_refl _ | exact trivial | exact rfl | exact wk_refl _ | (exact wk_Q (by omega)) | apply And.intro | (exact iEq (by omega))
    ·refine ⟨vI64 (by omega), b + 1, by omega, by omega, rfl, ?_⟩
     rw [z2 (fun k => k.elim (fun k => d2 k) (fun k => d3 k))]
     repeat' first | exact plainIL _ _ | exact plainSV _ _ | exact wk_refl _ | exact trivial | exact rfl | exact wk_refl _ | (exact wk_Q (by omega)) | apply And.intro | (exact iEq (by omega))
   ·refine ⟨vI64 (by omega), b + 1, by omega, by omega, rfl, ?_⟩
    rw [by_0 (by rw [fat]; omega)]
    repeat' first | exact plainIL _ _ | exact plainSV _ _ | exact wk_refl _ | exact trivial | exact rfl | exact wk_refl _ | (exact wk_Q (by omega)) | apply And.intro | (exact iEq (by omega))
  obtain rfl : b = f.b.length := by omega
  have bf := by_free (p := p) (l := l) (h := h) o
  have hby : byAt f p l h (hrN f l h) = byTo f l h (hrN f l h) (rqAt l I).place f.b.length := by unfold byAt; rw [show bestAt p l h (hrN f l h) = I from hi]
  obtain ⟨Y, eY⟩ : ∃ Y, byTo f l h (hrN f l h) (rqAt l I).place f.b.length = Y := ⟨_, rfl⟩
  rw [eY] at hby ⊢
  rw [hby] at bf
  have hYb : Int.toNat Y < f.b.length := by omega
  have py := plH_in o ol h h.length (Int.toNat Y) hYb
  have hyn : Int.toNat ((plH f l h h.length).getD (Int.toNat Y) 0) < f.t.length := by omega
  have ry := o.row _ hyn
  have tv : 0 <= (f.t.getD (Int.toNat ((plH f l h h.length).getD (Int.toNat Y) 0)) []).getD (Int.toNat (l.getD (Int.toNat I) zeroQ).place) 0 /\ (f.t.getD (Int.toNat ((plH f l h h.length).getD (Int.toNat Y) 0)) []).getD (Int.toNat (l.getD (Int.toNat I) zeroQ).place) 0 <= 100 := o.el _ _ hyn
  have ql := qb.len
  have hT : trav f ((brH f l h h.length).getD (Int.toNat Y) zeroB).at_ (rqAt l I).place = (f.t.getD (Int.toNat ((plH f l h h.length).getD (Int.toNat Y) 0)) []).getD (Int.toNat (l.getD (Int.toNat I) zeroQ).place) 0 := by rw [brH_at hYb]; rfl
  have hS : svN f p l h = ⟨I, Y, hrN f l h, hrN f l h + (f.t.getD (Int.toNat ((plH f l h h.length).getD (Int.toNat Y) 0)) []).getD (Int.toNat (l.getD (Int.toNat I) zeroQ).place) 0, hrN f l h + (f.t.getD (Int.toNat ((plH f l h h.length).getD (Int.toNat Y) 0)) []).getD (Int.toNat (l.getD (Int.toNat I) zeroQ).place) 0 + (l.getD (Int.toNat I) zeroQ).len⟩ := by
   unfold svN mkSv
   rw [hby, hi, hT]; rfl
  generalize hw : (f.t.getD (Int.toNat ((plH f l h h.length).getD (Int.toNat Y) 0)) []).getD (Int.toNat (l.getD (Int.toNat I) zeroQ).place) 0 = w at *
  refine ⟨by omega, partQ hB (by omega), by omega, intAt (by rw [plH_len]; exact hYb) (by omega), by omega, inL_at hyn (by omega), by omega, by rw [<- hw]; exact intAt (by omega) (by omega), vI64 (by omega), vI64 (by omega), _, rfl, by omega, by rw [flat_len intC_len, frH_len]; omega, rfl, by omega, by rw [flat_len intC_len, plH_len]; omega, rfl, ?_⟩
  have hrq : (svN f p l h).rq = I := by rw [hS]
  have kop := keep_op l h (svN f p l h)
  have dop := del_op l h (svN f p l h)
  rw [hrq] at kop dop
  have glen : (h ++ [svN f p l h]).length = h.length + 1 := by rw [List.length_append]; rfl
  generalize hSv : svN f p l h = S at *
  have f1 := flat_set (f := intC) intC_len (frH f h h.length) (Int.toNat Y) (by rw [frH_len]; exact hYb) (hrN f l h + w + (l.getD (Int.toNat I) zeroQ).len)
  have f2 := flat_set (f := intC) intC_len (plH f l h h.length) (Int.toNat Y) (by rw [plH_len]; exact hYb) (l.getD (Int.toNat I) zeroQ).dest
  have e1 : (frH f h h.length).set (Int.toNat Y) (hrN f l h + w + (l.getD (Int.toNat I) zeroQ).len) = frH f (h ++ [S]) (h ++ [S]).length := by rw [glen, frH_snoc, hS]
  have e2 : (plH f l h h.length).set (Int.toNat Y) (l.getD (Int.toNat I) zeroQ).dest = plH f l (h ++ [S]) (h ++ [S]).length := by rw [glen, plH_snoc, hS]; rfl
  rw [e1] at f1
  rw [e2] at f2
  have z0 : 0 + Int.toNat Y * 1 = Int.toNat Y * 1 := by omega
  refine ⟨⟨by omega, by decide, ⟨Nat.le_refl _, by rw [flat_len svC_len]; omega⟩, ⟨Nat.le_refl _, Nat.le_refl _⟩, rfl⟩, rfl, ⟨rfl, rfl, trivial⟩, fun H' _ hd => ?_, rfl, Nat.zero_le _, ?_, fun _ => rfl, ?_⟩
  ·have := kDel4 (opB l h) (opL l h).length I (by rw [opB_len]; exact op_le l h) (by rw [opB_len]; omega) (fun j hj => by rw [opB_at hj]; have := (op_at hj).1; omega) (D := 12) hd.1 (ids := [17]) (insC rfl hd.2.1 trivial) (by decide) rfl
   rw [kop, dop] at this
   exact this
  ·rw [ovQ_0]
   repeat' first | exact plainIL _ _ | exact plainSV _ _ | exact wk_refl _ | exact trivial | exact rfl | exact wk_refl _ | (exact wk_Q (by omega)) | apply And.intro | (exact iEq (by omega))
  intro x hx
  refine forkD (fun q => ?_) (fun q => ?_)
  ·have hlx : x < (opL l (h ++ [S])).length := by omega
   have op2 := op_le l (h ++ [S])
   have oat := (op_at hlx).1
   have hbx := opB_at (l := l) (h := h ++ [S]) hlx
   have hov := ovQ_old (s := S) hlx
   have hsu := ovQ_succ (s := S) hlx
   have hop := ov_op (s := S) hlx
   rw [hrq] at hop
   rw [hop] at hsu
   rw [hbx]
   generalize hE : (opL l (h ++ [S])).getD x 0 = E at *
   have hEn : Int.toNat E < l.length := by omega
   have oin := ovN_in (h := h) hEn h.length
   refine ⟨by omega, by rw [<- hE, <- opB_at hlx]; exact intAt (by rw [opB_len]; omega) (by omega), ⟨rfl, rfl, rfl, rfl, rfl, rfl, trivial⟩, fun H' _ hd => ?_, forkD (fun d1 => ?_) (fun d1 => ?_)⟩
   ·rw [z0, f1, f2] at hd
    exact kLater f l (frH f (h ++ [S]) (h ++ [S]).length) (plH f l (h ++ [S]) (h ++ [S]).length) E I oat ⟨bo1, bo2⟩ (by rw [frH_len, plH_len]; exact hd.1) hd.2.1 hd.2.2.1 hd.2.2.2.1 hd.2.2.2.2.1 hd.2.2.2.2.2.1
   ·have hb1 : befB (rqAt l E) (rqAt l I) = true := (later_lt _ _).1 d1
    rw [if_pos hb1, <- hov] at hsu
    have g2 := flat_set (f := intC) intC_len (ovQ l h S x) (Int.toNat E) (by rw [ovQ_len]; exact hEn) ((ovQ l h S x).getD (Int.toNat E) 0 + 1)
    rw [<- hsu] at g2
    refine ⟨by omega, intAt (by rw [ovQ_len]; exact hEn) (by omega), vI64 (by rw [hov]; omega), by omega, by rw [flat_len intC_len, ovQ_len]; omega, rfl, vI64 (by omega), x + 1, by omega, by omega, rfl, ?_⟩
    rw [show 0 + Int.toNat E * 1 = Int.toNat E * 1 by omega, g2]
    repeat' first | exact plainIL _ _ | exact plainSV _ _ | exact wk_refl _ | exact trivial | exact rfl | exact wk_refl _ | (exact wk_Q (by omega)) | apply And.intro | (exact iEq (by omega))
   ·have hb1 : ¬ befB (rqAt l E) (rqAt l I) = true := fun k => d1 ((later_lt _ _).2 k)
    rw [if_neg hb1, Int.add_zero, <- hov, set_self (by rw [ovQ_len]; exact hEn)] at hsu
    refine ⟨vI64 (by omega), x + 1, by omega, by omega, rfl, ?_⟩
    rw [hsu]
    repeat' first | exact plainIL _ _ | exact plainSV _ _ | exact wk_refl _ | exact trivial | exact rfl | exact wk_refl _ | (exact wk_Q (by omega)) | apply And.intro | (exact iEq (by omega))
  obtain rfl : x = (opL l (h ++ [S])).length := by omega
  have rn2 := run_next o ol i d (by rw [hi]; exact bo)
  rw [hSv] at rn2
  have gs := sv_snoc h S
  have eS : svC S = [nI I, nI Y, nI (hrN f l h), nI (hrN f l h + w), nI (hrN f l h + w + (l.getD (Int.toNat I) zeroQ).len)] := by rw [hS]
  rw [eS] at gs
  refine ⟨h ++ [S], rn2, by omega, rfl, ?_⟩
  rw [z0, f1, f2, ovQ_all, gs, glen]
  repeat' first | exact plainIL _ _ | exact plainSV _ _ | exact wk_refl _ | exact trivial | exact rfl | exact wk_refl _ | (exact wk_Q (by omega)) | apply And.intro | (exact iEq (by omega))
 refine ⟨⟨rfl, trivial⟩, fun H' hL hd => by
   have := kCloneP (wtB f l h) (wtN f l h).length wp (by rw [wtB_len]; exact wt_le f l h) (by rw [wtB_len]; omega) hL hd.1
   rw [wtB_take] at this
   exact this, ⟨rfl, rfl, rfl, rfl, rfl, rfl, rfl, rfl, rfl, rfl, rfl, rfl, rfl, rfl, rfl, rfl, trivial⟩, fun H' _ hd => ?_, forkD (fun c1 => ?_) (fun c1 => ?_)⟩
 ·exact KCall.wkA (args2 := [slQ 27 2 (wtN f l h).length, .func (.func 125) #[] #[pT 26]]) (kDel2 (wtN f l h) (wtN f l h).length f l (frH f h h.length) (plH f l h h.length) (hrN f l h) p (ovN l h h.length) (Nat.le_refl _) (by omega) (wt_in f l h) (bnds ol) hrB (D := 27) hd.1 (ids := [0, 1, 2, 7, 8, 9, 10, 15, 19, 13, 20, 21, 22, 18, 26]) (insC (inL_b 0 _) hd.2.1 (insC (plainIL 0 _) hd.2.2.1 (insC (plainRQ 0 _) hd.2.2.2.1 (insC (plainIL 0 _) hd.2.2.2.2.1 (insC (plainIL 0 _) hd.2.2.2.2.2.1 (insP (by rw [frH_len, plH_len]; rfl) hd.2.2.2.2.2.2.1 (insP rfl hd.2.2.2.2.2.2.2.1 (insC rfl hd.2.2.2.2.2.2.2.2.1 (insC rfl hd.2.2.2.2.2.2.2.2.2.1 (insC (plainIL 0 _) hd.2.2.2.2.2.2.2.2.2.2.1 (insP (by rw [ovN_len]; rfl) hd.2.2.2.2.2.2.2.2.2.2.2.1 (insC rfl hd.2.2.2.2.2.2.2.2.2.2.2.2.1 (insP rfl hd.2.2.2.2.2.2.2.2.2.2.2.2.2.1 (insP rfl hd.2.2.2.2.2.2.2.2.2.2.2.2.2.2.1 (insP rfl hd.2.2.2.2.2.2.2.2.2.2.2.2.2.2.2.1 trivial))))))))))))))) (by decide) rfl) (wks_cons wk_QR (wks_cons (wk_refl _) wks_nil))
 ·have c1 : 0 < (smN f p l h 1).length := by omega
  obtain ⟨be, bo, ba⟩ := bst_rule (p := p) ol (X := 1) (by omega) (by omega) (fun Y hY => by rw [show Y = 0 by omega]; omega)
  obtain ⟨⟨bo1, bo2⟩, bo3⟩ := mem_op.1 bo
  obtain ⟨hour, he, _, pI, hdec, pI2⟩ := run_dec o ol i d bo
  have hrI := hr_in ol pI hl he
  refine ⟨⟨rfl, rfl, rfl, rfl, rfl, rfl, rfl, rfl, rfl, rfl, rfl, rfl, rfl, rfl, rfl, rfl, trivial⟩, fun H' _ hd => ?_, rfl, Nat.zero_le _, ?_, fun _ => rfl, ?_⟩
  ·have := kBst2 (smB f p l h 1) (smN f p l h 1).length f l (frH f h h.length) (plH f l h h.length) (hrN f l h) p (ovN l h h.length) (by omega) (by rw [smB_len]; exact sm_le f p l h 1) (by rw [smB_len]; omega) (smB_in f p l h 1) (bnds ol) (ids := 27 :: [0, 1, 2, 7, 8, 9, 10, 15, 19, 13, 20, 21, 22, 18, 26]) (insC (plainIL 0 _) hd.1 (insC (inL_b 0 _) hd.2.1 (insC (plainIL 0 _) hd.2.2.1 (insC (plainRQ 0 _) hd.2.2.2.1 (insC (plainIL 0 _) hd.2.2.2.2.1 (insC (plainIL 0 _) hd.2.2.2.2.2.1 (insP (by rw [frH_len, plH_len]; rfl) hd.2.2.2.2.2.2.1 (insP rfl hd.2.2.2.2.2.2.2.1 (insC rfl hd.2.2.2.2.2.2.2.2.1 (insC rfl hd.2.2.2.2.2.2.2.2.2.1 (insC (plainIL 0 _) hd.2.2.2.2.2.2.2.2.2.2.1 (insP (by rw [ovN_len]; rfl) hd.2.2.2.2.2.2.2.2.2.2.2.1 (insC rfl hd.2.2.2.2.2.2.2.2.2.2.2.2.1 (insP rfl hd.2.2.2.2.2.2.2.2.2.2.2.2.2.1 (insP rfl hd.2.2.2.2.2.2.2.2.2.2.2.2.2.2.1 (insP rfl hd.2.2.2.2.2.2.2.2.2.2.2.2.2.2.2.1 trivial)))))))))))))))) rfl
   rw [be] at this
   exact this
  ·repeat' first | exact plainIL _ _ | exact plainSV _ _ | exact wk_refl _ | exact trivial | exact rfl | exact wk_refl _ | (exact wk_Q (by omega)) | apply And.intro | (exact iEq (by omega))
  generalize hi : bstN f p l h = I at *
  have hB : Int.toNat I < l.length := by omega
  have qb := ol.ok _ hB
  have qp := qb.place
  intro b hb
  have ys := by_spec f l h (hrN f l h) (rqAt l I).place b
  refine forkD (fun q => ?_) (fun q => ?_)
  ·have hlb : b < f.b.length := by omega
   have pin := plH_in o ol h h.length
   have pb := pin b hlb
   have hbn : Int.toNat ((plH f l h h.length).getD b 0) < f.t.length := by omega
   have rb := o.row _ hbn
   have fat : ((brH f l h h.length).getD b zeroB).free = (frH f h h.length).getD b 0 := by rw [brH_at hlb]
   have aat : ((brH f l h h.length).getD b zeroB).at_ = (plH f l h h.length).getD b 0 := by rw [brH_at hlb]
   refine ⟨by omega, intAt (by rw [frH_len]; exact hlb) (by omega), forkD (fun d1 => forkD (fun d2 => ?_) (fun d2 => ?_)) (fun d1 => ?_)⟩
   ·refine ⟨vI64 (by omega), b + 1, by omega, by omega, rfl, ?_⟩
    rw [by_1 (by rw [fat]; omega) (.inl d2)]
    repeat' first | exact plainIL _ _ | exact plainSV _ _ | exact wk_refl _ | exact trivial | exact rfl | exact wk_refl _ | (exact wk_Q (by omega)) | apply And.intro | (exact iEq (by omega))
   ·obtain ⟨Y, eY⟩ : ∃ Y, byTo f l h (hrN f l h) (rqAt l I).place b = Y := ⟨_, rfl⟩
    have z1 := by_1 (f := f) (l := l) (h := h) (hour := hrN f l h) (b := b) (place := (rqAt l I).place) (by rw [fat]; omega)
    have z2 := by_2 (f := f) (l := l) (h := h) (hour := hrN f l h) (b := b) (place := (rqAt l I).place) (by rw [fat]; omega)
    rw [eY] at ys d2 z1 z2 ⊢
    have hY : 0 <= Y /\ Y < (b : Int) := by
     rcases ys with ⟨y1, _⟩ | ⟨y1, y2, _⟩
     ·omega
     ·exact ⟨y1, y2⟩
    have hYb : Int.toNat Y < f.b.length := by omega
    have py := pin (Int.toNat Y) hYb
    have yat : ((brH f l h h.length).getD (Int.toNat Y) zeroB).at_ = (plH f l h h.length).getD (Int.toNat Y) 0 := by rw [brH_at hYb]
    have hyn : Int.toNat ((plH f l h h.length).getD (Int.toNat Y) 0) < f.t.length := by omega
    have ry := o.row _ hyn
    rw [aat, yat] at z1 z2
    refine ⟨by omega, intAt (by rw [plH_len]; exact hlb) (by omega), by omega, inL_at hbn (by omega), by omega, plQ hB (by omega), by omega, intAt (by omega) (by omega), by omega, intAt (by rw [plH_len]; exact hYb) (by omega), by omega, inL_at hyn (by omega), by omega, plQ hB (by omega), by omega, intAt (by omega) (by omega), forkD (fun d3 => ?_) (fun d3 => ?_)⟩
    ·refine ⟨vI64 (by omega), b + 1, by omega, by omega, rfl, ?_⟩
     rw [z1 (.inr d3)]
     repeat' first | exact plainIL _ _ | exact plainSV _ _ | exact wk_refl _ | exact trivial | exact rfl | exact wk_refl _ | (exact wk_Q (by omega)) | apply And.intro | (exact iEq (by omega))
    ·refine ⟨vI64 (by omega), b + 1, by omega, by omega, rfl, ?_⟩
     rw [z2 (fun k => k.elim (fun k => d2 k) (fun k => d3 k))]
     repeat' first | exact plainIL _ _ | exact plainSV _ _ | exact wk_refl _ | exact trivial | exact rfl | exact wk_refl _ | (exact wk_Q (by omega)) | apply And.intro | (exact iEq (by omega))
   ·refine ⟨vI64 (by omega), b + 1, by omega, by omega, rfl, ?_⟩
    rw [by_0 (by rw [fat]; omega)]
    repeat' first | exact plainIL _ _ | exact plainSV _ _ | exact wk_refl _ | exact trivial | exact rfl | exact wk_refl _ | (exact wk_Q (by omega)) | apply And.intro | (exact iEq (by omega))
  obtain rfl : b = f.b.length := by omega
  have bf := by_free (p := p) (l := l) (h := h) o
  have hby : byAt f p l h (hrN f l h) = byTo f l h (hrN f l h) (rqAt l I).place f.b.length := by unfold byAt; rw [show bestAt p l h (hrN f l h) = I from hi]
  obtain ⟨Y, eY⟩ : ∃ Y, byTo f l h (hrN f l h) (rqAt l I).place f.b.length = Y := ⟨_, rfl⟩
  rw [eY] at hby ⊢
  rw [hby] at bf
  have hYb : Int.toNat Y < f.b.length := by omega
  have py := plH_in o ol h h.length (Int.toNat Y) hYb
  have hyn : Int.toNat ((plH f l h h.length).getD (Int.toNat Y) 0) < f.t.length := by omega
  have ry := o.row _ hyn
  have tv : 0 <= (f.t.getD (Int.toNat ((plH f l h h.length).getD (Int.toNat Y) 0)) []).getD (Int.toNat (l.getD (Int.toNat I) zeroQ).place) 0 /\ (f.t.getD (Int.toNat ((plH f l h h.length).getD (Int.toNat Y) 0)) []).getD (Int.toNat (l.getD (Int.toNat I) zeroQ).place) 0 <= 100 := o.el _ _ hyn
  have ql := qb.len
  have hT : trav f ((brH f l h h.length).getD (Int.toNat Y) zeroB).at_ (rqAt l I).place = (f.t.getD (Int.toNat ((plH f l h h.length).getD (Int.toNat Y) 0)) []).getD (Int.toNat (l.getD (Int.toNat I) zeroQ).place) 0 := by rw [brH_at hYb]; rfl
  have hS : svN f p l h = ⟨I, Y, hrN f l h, hrN f l h + (f.t.getD (Int.toNat ((plH f l h h.length).getD (Int.toNat Y) 0)) []).getD (Int.toNat (l.getD (Int.toNat I) zeroQ).place) 0, hrN f l h + (f.t.getD (Int.toNat ((plH f l h h.length).getD (Int.toNat Y) 0)) []).getD (Int.toNat (l.getD (Int.toNat I) zeroQ).place) 0 + (l.getD (Int.toNat I) zeroQ).len⟩ := by
   unfold svN mkSv
   rw [hby, hi, hT]; rfl
  generalize hw : (f.t.getD (Int.toNat ((plH f l h h.length).getD (Int.toNat Y) 0)) []).getD (Int.toNat (l.getD (Int.toNat I) zeroQ).place) 0 = w at *
  refine ⟨by omega, partQ hB (by omega), by omega, intAt (by rw [plH_len]; exact hYb) (by omega), by omega, inL_at hyn (by omega), by omega, by rw [<- hw]; exact intAt (by omega) (by omega), vI64 (by omega), vI64 (by omega), _, rfl, by omega, by rw [flat_len intC_len, frH_len]; omega, rfl, by omega, by rw [flat_len intC_len, plH_len]; omega, rfl, ?_⟩
  have hrq : (svN f p l h).rq = I := by rw [hS]
  have kop := keep_op l h (svN f p l h)
  have dop := del_op l h (svN f p l h)
  rw [hrq] at kop dop
  have glen : (h ++ [svN f p l h]).length = h.length + 1 := by rw [List.length_append]; rfl
  generalize hSv : svN f p l h = S at *
  have f1 := flat_set (f := intC) intC_len (frH f h h.length) (Int.toNat Y) (by rw [frH_len]; exact hYb) (hrN f l h + w + (l.getD (Int.toNat I) zeroQ).len)
  have f2 := flat_set (f := intC) intC_len (plH f l h h.length) (Int.toNat Y) (by rw [plH_len]; exact hYb) (l.getD (Int.toNat I) zeroQ).dest
  have e1 : (frH f h h.length).set (Int.toNat Y) (hrN f l h + w + (l.getD (Int.toNat I) zeroQ).len) = frH f (h ++ [S]) (h ++ [S]).length := by rw [glen, frH_snoc, hS]
  have e2 : (plH f l h h.length).set (Int.toNat Y) (l.getD (Int.toNat I) zeroQ).dest = plH f l (h ++ [S]) (h ++ [S]).length := by rw [glen, plH_snoc, hS]; rfl
  rw [e1] at f1
  rw [e2] at f2
  have z0 : 0 + Int.toNat Y * 1 = Int.toNat Y * 1 := by omega
  refine ⟨⟨by omega, by decide, ⟨Nat.le_refl _, by rw [flat_len svC_len]; omega⟩, ⟨Nat.le_refl _, Nat.le_refl _⟩, rfl⟩, rfl, ⟨rfl, rfl, trivial⟩, fun H' _ hd => ?_, rfl, Nat.zero_le _, ?_, fun _ => rfl, ?_⟩
  ·have := kDel4 (opB l h) (opL l h).length I (by rw [opB_len]; exact op_le l h) (by rw [opB_len]; omega) (fun j hj => by rw [opB_at hj]; have := (op_at hj).1; omega) (D := 12) hd.1 (ids := [17]) (insC rfl hd.2.1 trivial) (by decide) rfl
   rw [kop, dop] at this
   exact this
  ·rw [ovQ_0]
   repeat' first | exact plainIL _ _ | exact plainSV _ _ | exact wk_refl _ | exact trivial | exact rfl | exact wk_refl _ | (exact wk_Q (by omega)) | apply And.intro | (exact iEq (by omega))
  intro x hx
  refine forkD (fun q => ?_) (fun q => ?_)
  ·have hlx : x < (opL l (h ++ [S])).length := by omega
   have op2 := op_le l (h ++ [S])
   have oat := (op_at hlx).1
   have hbx := opB_at (l := l) (h := h ++ [S]) hlx
   have hov := ovQ_old (s := S) hlx
   have hsu := ovQ_succ (s := S) hlx
   have hop := ov_op (s := S) hlx
   rw [hrq] at hop
   rw [hop] at hsu
   rw [hbx]
   generalize hE : (opL l (h ++ [S])).getD x 0 = E at *
   have hEn : Int.toNat E < l.length := by omega
   have oin := ovN_in (h := h) hEn h.length
   refine ⟨by omega, by rw [<- hE, <- opB_at hlx]; exact intAt (by rw [opB_len]; omega) (by omega), ⟨rfl, rfl, rfl, rfl, rfl, rfl, trivial⟩, fun H' _ hd => ?_, forkD (fun d1 => ?_) (fun d1 => ?_)⟩
   ·rw [z0, f1, f2] at hd
    exact kLater f l (frH f (h ++ [S]) (h ++ [S]).length) (plH f l (h ++ [S]) (h ++ [S]).length) E I oat ⟨bo1, bo2⟩ (by rw [frH_len, plH_len]; exact hd.1) hd.2.1 hd.2.2.1 hd.2.2.2.1 hd.2.2.2.2.1 hd.2.2.2.2.2.1
   ·have hb1 : befB (rqAt l E) (rqAt l I) = true := (later_lt _ _).1 d1
    rw [if_pos hb1, <- hov] at hsu
    have g2 := flat_set (f := intC) intC_len (ovQ l h S x) (Int.toNat E) (by rw [ovQ_len]; exact hEn) ((ovQ l h S x).getD (Int.toNat E) 0 + 1)
    rw [<- hsu] at g2
    refine ⟨by omega, intAt (by rw [ovQ_len]; exact hEn) (by omega), vI64 (by rw [hov]; omega), by omega, by rw [flat_len intC_len, ovQ_len]; omega, rfl, vI64 (by omega), x + 1, by omega, by omega, rfl, ?_⟩
    rw [show 0 + Int.toNat E * 1 = Int.toNat E * 1 by omega, g2]
    repeat' first | exact plainIL _ _ | exact plainSV _ _ | exact wk_refl _ | exact trivial | exact rfl | exact wk_refl _ | (exact wk_Q (by omega)) | apply And.intro | (exact iEq (by omega))
   ·have hb1 : ¬ befB (rqAt l E) (rqAt l I) = true := fun k => d1 ((later_lt _ _).2 k)
    rw [if_neg hb1, Int.add_zero, <- hov, set_self (by rw [ovQ_len]; exact hEn)] at hsu
    refine ⟨vI64 (by omega), x + 1, by omega, by omega, rfl, ?_⟩
    rw [hsu]
    repeat' first | exact plainIL _ _ | exact plainSV _ _ | exact wk_refl _ | exact trivial | exact rfl | exact wk_refl _ | (exact wk_Q (by omega)) | apply And.intro | (exact iEq (by omega))
  obtain rfl : x = (opL l (h ++ [S])).length := by omega
  have rn2 := run_next o ol i d (by rw [hi]; exact bo)
  rw [hSv] at rn2
  have gs := sv_snoc h S
  have eS : svC S = [nI I, nI Y, nI (hrN f l h), nI (hrN f l h + w), nI (hrN f l h + w + (l.getD (Int.toNat I) zeroQ).len)] := by rw [hS]
  rw [eS] at gs
  refine ⟨h ++ [S], rn2, by omega, rfl, ?_⟩
  rw [z0, f1, f2, ovQ_all, gs, glen]
  repeat' first | exact plainIL _ _ | exact plainSV _ _ | exact wk_refl _ | exact trivial | exact rfl | exact wk_refl _ | (exact wk_Q (by omega)) | apply And.intro | (exact iEq (by omega))
 have s2 : (smN f p l h 2) = wtN f l h := (keepP_all (q := ofV p l (ovN l h h.length) (hrN f l h) 2) (x := (wtN f l h).length) (List.all_eq_true.2 fun _ _ => rfl)).trans (List.take_length)
 have s2l : (smN f p l h 2).length = (wtN f l h).length := by rw [s2]
 have c2 : 0 < (smN f p l h 2).length := by omega
 refine ⟨⟨rfl, trivial⟩, fun H' hL hd => by
   have := kCloneP (wtB f l h) (wtN f l h).length wp (by rw [wtB_len]; exact wt_le f l h) (by rw [wtB_len]; omega) hL hd.1
   rw [wtB_take] at this
   exact this, ⟨rfl, rfl, rfl, rfl, rfl, rfl, rfl, rfl, rfl, rfl, rfl, rfl, rfl, rfl, rfl, rfl, trivial⟩, fun H' _ hd => ?_, congrArg Value.bool (decide_eq_true (by omega)), ?_⟩
 ·exact KCall.wkA (args2 := [slQ 29 2 (wtN f l h).length, .func (.func 125) #[] #[pT 28]]) (kDel3 (wtN f l h) (wtN f l h).length f l (frH f h h.length) (plH f l h h.length) (hrN f l h) p (ovN l h h.length) (Nat.le_refl _) (by omega) (wt_in f l h) (D := 29) hd.1 (ids := [0, 1, 2, 7, 8, 9, 10, 15, 19, 13, 20, 21, 22, 18, 28]) (insC (inL_b 0 _) hd.2.1 (insC (plainIL 0 _) hd.2.2.1 (insC (plainRQ 0 _) hd.2.2.2.1 (insC (plainIL 0 _) hd.2.2.2.2.1 (insC (plainIL 0 _) hd.2.2.2.2.2.1 (insP (by rw [frH_len, plH_len]; rfl) hd.2.2.2.2.2.2.1 (insP rfl hd.2.2.2.2.2.2.2.1 (insC rfl hd.2.2.2.2.2.2.2.2.1 (insC rfl hd.2.2.2.2.2.2.2.2.2.1 (insC (plainIL 0 _) hd.2.2.2.2.2.2.2.2.2.2.1 (insP (by rw [ovN_len]; rfl) hd.2.2.2.2.2.2.2.2.2.2.2.1 (insC rfl hd.2.2.2.2.2.2.2.2.2.2.2.2.1 (insP rfl hd.2.2.2.2.2.2.2.2.2.2.2.2.2.1 (insP rfl hd.2.2.2.2.2.2.2.2.2.2.2.2.2.2.1 (insP rfl hd.2.2.2.2.2.2.2.2.2.2.2.2.2.2.2.1 trivial))))))))))))))) (by decide) rfl) (wks_cons wk_QR (wks_cons (wk_refl _) wks_nil))
 obtain ⟨be, bo, ba⟩ := bst_rule (p := p) ol (X := 2) (by omega) (by omega) (fun Y hY => by rcases (show Y = 0 ∨ Y = 1 by omega) with rfl | rfl <;> omega)
 obtain ⟨⟨bo1, bo2⟩, bo3⟩ := mem_op.1 bo
 obtain ⟨hour, he, _, pI, hdec, pI2⟩ := run_dec o ol i d bo
 have hrI := hr_in ol pI hl he
 refine ⟨⟨rfl, rfl, rfl, rfl, rfl, rfl, rfl, rfl, rfl, rfl, rfl, rfl, rfl, rfl, rfl, rfl, trivial⟩, fun H' _ hd => ?_, rfl, Nat.zero_le _, ?_, fun _ => rfl, ?_⟩
 ·have := kBst3 (smB f p l h 2) (smN f p l h 2).length f l (frH f h h.length) (plH f l h h.length) (hrN f l h) p (ovN l h h.length) (by omega) (by rw [smB_len]; exact sm_le f p l h 2) (by rw [smB_len]; omega) (smB_in f p l h 2) (bnds ol) (ids := 29 :: [0, 1, 2, 7, 8, 9, 10, 15, 19, 13, 20, 21, 22, 18, 28]) (insC (plainIL 0 _) hd.1 (insC (inL_b 0 _) hd.2.1 (insC (plainIL 0 _) hd.2.2.1 (insC (plainRQ 0 _) hd.2.2.2.1 (insC (plainIL 0 _) hd.2.2.2.2.1 (insC (plainIL 0 _) hd.2.2.2.2.2.1 (insP (by rw [frH_len, plH_len]; rfl) hd.2.2.2.2.2.2.1 (insP rfl hd.2.2.2.2.2.2.2.1 (insC rfl hd.2.2.2.2.2.2.2.2.1 (insC rfl hd.2.2.2.2.2.2.2.2.2.1 (insC (plainIL 0 _) hd.2.2.2.2.2.2.2.2.2.2.1 (insP (by rw [ovN_len]; rfl) hd.2.2.2.2.2.2.2.2.2.2.2.1 (insC rfl hd.2.2.2.2.2.2.2.2.2.2.2.2.1 (insP rfl hd.2.2.2.2.2.2.2.2.2.2.2.2.2.1 (insP rfl hd.2.2.2.2.2.2.2.2.2.2.2.2.2.2.1 (insP rfl hd.2.2.2.2.2.2.2.2.2.2.2.2.2.2.2.1 trivial)))))))))))))))) rfl
  rw [be] at this
  exact this
 ·repeat' first | exact plainIL _ _ | exact plainSV _ _ | exact wk_refl _ | exact trivial | exact rfl | exact wk_refl _ | (exact wk_Q (by omega)) | apply And.intro | (exact iEq (by omega))
 generalize hi : bstN f p l h = I at *
 have hB : Int.toNat I < l.length := by omega
 have qb := ol.ok _ hB
 have qp := qb.place
 intro b hb
 have ys := by_spec f l h (hrN f l h) (rqAt l I).place b
 refine forkD (fun q => ?_) (fun q => ?_)
 ·have hlb : b < f.b.length := by omega
  have pin := plH_in o ol h h.length
  have pb := pin b hlb
  have hbn : Int.toNat ((plH f l h h.length).getD b 0) < f.t.length := by omega
  have rb := o.row _ hbn
  have fat : ((brH f l h h.length).getD b zeroB).free = (frH f h h.length).getD b 0 := by rw [brH_at hlb]
  have aat : ((brH f l h h.length).getD b zeroB).at_ = (plH f l h h.length).getD b 0 := by rw [brH_at hlb]
  refine ⟨by omega, intAt (by rw [frH_len]; exact hlb) (by omega), forkD (fun d1 => forkD (fun d2 => ?_) (fun d2 => ?_)) (fun d1 => ?_)⟩
  ·refine ⟨vI64 (by omega), b + 1, by omega, by omega, rfl, ?_⟩
   rw [by_1 (by rw [fat]; omega) (.inl d2)]
   repeat' first | exact plainIL _ _ | exact plainSV _ _ | exact wk_refl _ | exact trivial | exact rfl | exact wk_refl _ | (exact wk_Q (by omega)) | apply And.intro | (exact iEq (by omega))
  ·obtain ⟨Y, eY⟩ : ∃ Y, byTo f l h (hrN f l h) (rqAt l I).place b = Y := ⟨_, rfl⟩
   have z1 := by_1 (f := f) (l := l) (h := h) (hour := hrN f l h) (b := b) (place := (rqAt l I).place) (by rw [fat]; omega)
   have z2 := by_2 (f := f) (l := l) (h := h) (hour := hrN f l h) (b := b) (place := (rqAt l I).place) (by rw [fat]; omega)
   rw [eY] at ys d2 z1 z2 ⊢
   have hY : 0 <= Y /\ Y < (b : Int) := by
    rcases ys with ⟨y1, _⟩ | ⟨y1, y2, _⟩
    ·omega
    ·exact ⟨y1, y2⟩
   have hYb : Int.toNat Y < f.b.length := by omega
   have py := pin (Int.toNat Y) hYb
   have yat : ((brH f l h h.length).getD (Int.toNat Y) zeroB).at_ = (plH f l h h.length).getD (Int.toNat Y) 0 := by rw [brH_at hYb]
   have hyn : Int.toNat ((plH f l h h.length).getD (Int.toNat Y) 0) < f.t.length := by omega
   have ry := o.row _ hyn
   rw [aat, yat] at z1 z2
   refine ⟨by omega, intAt (by rw [plH_len]; exact hlb) (by omega), by omega, inL_at hbn (by omega), by omega, plQ hB (by omega), by omega, intAt (by omega) (by omega), by omega, intAt (by rw [plH_len]; exact hYb) (by omega), by omega, inL_at hyn (by omega), by omega, plQ hB (by omega), by omega, intAt (by omega) (by omega), forkD (fun d3 => ?_) (fun d3 => ?_)⟩
   ·refine ⟨vI64 (by omega), b + 1, by omega, by omega, rfl, ?_⟩
    rw [z1 (.inr d3)]
    repeat' first | exact plainIL _ _ | exact plainSV _ _ | exact wk_refl _ | exact trivial | exact rfl | exact wk_refl _ | (exact wk_Q (by omega)) | apply And.intro | (exact iEq (by omega))
   ·refine ⟨vI64 (by omega), b + 1, by omega, by omega, rfl, ?_⟩
    rw [z2 (fun k => k.elim (fun k => d2 k) (fun k => d3 k))]
    repeat' first | exact plainIL _ _ | exact plainSV _ _ | exact wk_refl _ | exact trivial | exact rfl | exact wk_refl _ | (exact wk_Q (by omega)) | apply And.intro | (exact iEq (by omega))
  ·refine ⟨vI64 (by omega), b + 1, by omega, by omega, rfl, ?_⟩
   rw [by_0 (by rw [fat]; omega)]
   repeat' first | exact plainIL _ _ | exact plainSV _ _ | exact wk_refl _ | exact trivial | exact rfl | exact wk_refl _ | (exact wk_Q (by omega)) | apply And.intro | (exact iEq (by omega))
 obtain rfl : b = f.b.length := by omega
 have bf := by_free (p := p) (l := l) (h := h) o
 have hby : byAt f p l h (hrN f l h) = byTo f l h (hrN f l h) (rqAt l I).place f.b.length := by unfold byAt; rw [show bestAt p l h (hrN f l h) = I from hi]
 obtain ⟨Y, eY⟩ : ∃ Y, byTo f l h (hrN f l h) (rqAt l I).place f.b.length = Y := ⟨_, rfl⟩
 rw [eY] at hby ⊢
 rw [hby] at bf
 have hYb : Int.toNat Y < f.b.length := by omega
 have py := plH_in o ol h h.length (Int.toNat Y) hYb
 have hyn : Int.toNat ((plH f l h h.length).getD (Int.toNat Y) 0) < f.t.length := by omega
 have ry := o.row _ hyn
 have tv : 0 <= (f.t.getD (Int.toNat ((plH f l h h.length).getD (Int.toNat Y) 0)) []).getD (Int.toNat (l.getD (Int.toNat I) zeroQ).place) 0 /\ (f.t.getD (Int.toNat ((plH f l h h.length).getD (Int.toNat Y) 0)) []).getD (Int.toNat (l.getD (Int.toNat I) zeroQ).place) 0 <= 100 := o.el _ _ hyn
 have ql := qb.len
 have hT : trav f ((brH f l h h.length).getD (Int.toNat Y) zeroB).at_ (rqAt l I).place = (f.t.getD (Int.toNat ((plH f l h h.length).getD (Int.toNat Y) 0)) []).getD (Int.toNat (l.getD (Int.toNat I) zeroQ).place) 0 := by rw [brH_at hYb]; rfl
 have hS : svN f p l h = ⟨I, Y, hrN f l h, hrN f l h + (f.t.getD (Int.toNat ((plH f l h h.length).getD (Int.toNat Y) 0)) []).getD (Int.toNat (l.getD (Int.toNat I) zeroQ).place) 0, hrN f l h + (f.t.getD (Int.toNat ((plH f l h h.length).getD (Int.toNat Y) 0)) []).getD (Int.toNat (l.getD (Int.toNat I) zeroQ).place) 0 + (l.getD (Int.toNat I) zeroQ).len⟩ := by
  unfold svN mkSv
  rw [hby, hi, hT]; rfl
 generalize hw : (f.t.getD (Int.toNat ((plH f l h h.length).getD (Int.toNat Y) 0)) []).getD (Int.toNat (l.getD (Int.toNat I) zeroQ).place) 0 = w at *
 refine ⟨by omega, partQ hB (by omega), by omega, intAt (by rw [plH_len]; exact hYb) (by omega), by omega, inL_at hyn (by omega), by omega, by rw [<- hw]; exact intAt (by omega) (by omega), vI64 (by omega), vI64 (by omega), _, rfl, by omega, by rw [flat_len intC_len, frH_len]; omega, rfl, by omega, by rw [flat_len intC_len, plH_len]; omega, rfl, ?_⟩
 have hrq : (svN f p l h).rq = I := by rw [hS]
 have kop := keep_op l h (svN f p l h)
 have dop := del_op l h (svN f p l h)
 rw [hrq] at kop dop
 have glen : (h ++ [svN f p l h]).length = h.length + 1 := by rw [List.length_append]; rfl
 generalize hSv : svN f p l h = S at *
 have f1 := flat_set (f := intC) intC_len (frH f h h.length) (Int.toNat Y) (by rw [frH_len]; exact hYb) (hrN f l h + w + (l.getD (Int.toNat I) zeroQ).len)
 have f2 := flat_set (f := intC) intC_len (plH f l h h.length) (Int.toNat Y) (by rw [plH_len]; exact hYb) (l.getD (Int.toNat I) zeroQ).dest
 have e1 : (frH f h h.length).set (Int.toNat Y) (hrN f l h + w + (l.getD (Int.toNat I) zeroQ).len) = frH f (h ++ [S]) (h ++ [S]).length := by rw [glen, frH_snoc, hS]
 have e2 : (plH f l h h.length).set (Int.toNat Y) (l.getD (Int.toNat I) zeroQ).dest = plH f l (h ++ [S]) (h ++ [S]).length := by rw [glen, plH_snoc, hS]; rfl
 rw [e1] at f1
 rw [e2] at f2
 have z0 : 0 + Int.toNat Y * 1 = Int.toNat Y * 1 := by omega
 refine ⟨⟨by omega, by decide, ⟨Nat.le_refl _, by rw [flat_len svC_len]; omega⟩, ⟨Nat.le_refl _, Nat.le_refl _⟩, rfl⟩, rfl, ⟨rfl, rfl, trivial⟩, fun H' _ hd => ?_, rfl, Nat.zero_le _, ?_, fun _ => rfl, ?_⟩
 ·have := kDel4 (opB l h) (opL l h).length I (by rw [opB_len]; exact op_le l h) (by rw [opB_len]; omega) (fun j hj => by rw [opB_at hj]; have := (op_at hj).1; omega) (D := 12) hd.1 (ids := [17]) (insC rfl hd.2.1 trivial) (by decide) rfl
  rw [kop, dop] at this
  exact this
 ·rw [ovQ_0]
  repeat' first | exact plainIL _ _ | exact plainSV _ _ | exact wk_refl _ | exact trivial | exact rfl | exact wk_refl _ | (exact wk_Q (by omega)) | apply And.intro | (exact iEq (by omega))
 intro x hx
 refine forkD (fun q => ?_) (fun q => ?_)
 ·have hlx : x < (opL l (h ++ [S])).length := by omega
  have op2 := op_le l (h ++ [S])
  have oat := (op_at hlx).1
  have hbx := opB_at (l := l) (h := h ++ [S]) hlx
  have hov := ovQ_old (s := S) hlx
  have hsu := ovQ_succ (s := S) hlx
  have hop := ov_op (s := S) hlx
  rw [hrq] at hop
  rw [hop] at hsu
  rw [hbx]
  generalize hE : (opL l (h ++ [S])).getD x 0 = E at *
  have hEn : Int.toNat E < l.length := by omega
  have oin := ovN_in (h := h) hEn h.length
  refine ⟨by omega, by rw [<- hE, <- opB_at hlx]; exact intAt (by rw [opB_len]; omega) (by omega), ⟨rfl, rfl, rfl, rfl, rfl, rfl, trivial⟩, fun H' _ hd => ?_, forkD (fun d1 => ?_) (fun d1 => ?_)⟩
  ·rw [z0, f1, f2] at hd
   exact kLater f l (frH f (h ++ [S]) (h ++ [S]).length) (plH f l (h ++ [S]) (h ++ [S]).length) E I oat ⟨bo1, bo2⟩ (by rw [frH_len, plH_len]; exact hd.1) hd.2.1 hd.2.2.1 hd.2.2.2.1 hd.2.2.2.2.1 hd.2.2.2.2.2.1
  ·have hb1 : befB (rqAt l E) (rqAt l I) = true := (later_lt _ _).1 d1
   rw [if_pos hb1, <- hov] at hsu
   have g2 := flat_set (f := intC) intC_len (ovQ l h S x) (Int.toNat E) (by rw [ovQ_len]; exact hEn) ((ovQ l h S x).getD (Int.toNat E) 0 + 1)
   rw [<- hsu] at g2
   refine ⟨by omega, intAt (by rw [ovQ_len]; exact hEn) (by omega), vI64 (by rw [hov]; omega), by omega, by rw [flat_len intC_len, ovQ_len]; omega, rfl, vI64 (by omega), x + 1, by omega, by omega, rfl, ?_⟩
   rw [show 0 + Int.toNat E * 1 = Int.toNat E * 1 by omega, g2]
   repeat' first | exact plainIL _ _ | exact plainSV _ _ | exact wk_refl _ | exact trivial | exact rfl | exact wk_refl _ | (exact wk_Q (by omega)) | apply And.intro | (exact iEq (by omega))
  ·have hb1 : ¬ befB (rqAt l E) (rqAt l I) = true := fun k => d1 ((later_lt _ _).2 k)
   rw [if_neg hb1, Int.add_zero, <- hov, set_self (by rw [ovQ_len]; exact hEn)] at hsu
   refine ⟨vI64 (by omega), x + 1, by omega, by omega, rfl, ?_⟩
   rw [hsu]
   repeat' first | exact plainIL _ _ | exact plainSV _ _ | exact wk_refl _ | exact trivial | exact rfl | exact wk_refl _ | (exact wk_Q (by omega)) | apply And.intro | (exact iEq (by omega))
 obtain rfl : x = (opL l (h ++ [S])).length := by omega
 have rn2 := run_next o ol i d (by rw [hi]; exact bo)
 rw [hSv] at rn2
 have gs := sv_snoc h S
 have eS : svC S = [nI I, nI Y, nI (hrN f l h), nI (hrN f l h + w), nI (hrN f l h + w + (l.getD (Int.toNat I) zeroQ).len)] := by rw [hS]
 rw [eS] at gs
 refine ⟨h ++ [S], rn2, by omega, rfl, ?_⟩
 rw [z0, f1, f2, ovQ_all, gs, glen]
 repeat' first | exact plainIL _ _ | exact plainSV _ _ | exact wk_refl _ | exact trivial | exact rfl | exact wk_refl _ | (exact wk_Q (by omega)) | apply And.intro | (exact iEq (by omega))
end
end Go.Proofs.YthdekmpkioikdaaGreat
/- Request: Run and Audit. No condition. -/
namespace Go.Proofs.YthdekmpkioikdaaGreat
open Go Go.K
set_option maxRecDepth 100000
set_option linter.unusedVariables false
set_option linter.unusedSimpArgs false
noncomputable section
attribute [local irreducible] vF
theorem kRunP (f : Fleet) (p : Pol) (l : List Rq) (ht : f.t.length <= 4294967296) (hb : f.b.length <= 4294967296) (hs : shortI f.t) {H : Heap} {L : Nat} (hL : H.length = L) {i0 i1 i2 : Nat} {o0 o1 o2 : Bool} {z0 z1 z2 : Nat} (e0 : H[i0]? = some (.cells o0 z0 (inL f.t))) (e1 : H[i1]? = some (.cells o1 z1 (f.b.flatMap intC))) {D : List Value} (e2 : H[i2]? = some (.cells o2 z2 (l.flatMap rqC ++ D))) :
  KCall prog 29 [fleetV f i0 i1, .agg ⟨polC p⟩, .slice (some ⟨i2, 0, some 2⟩) l.length l.length] H [] (Is (runV L (fRun f p l)) (H ++ [.cells true 5 ((fRun f p l).1.flatMap svC)])) := by
 subst hL
 refine valNsP (fun i => runV i (fRun f p l)) (css := [inL f.t, f.b.flatMap intC, l.flatMap rqC, l.flatMap rqC]) (new := [.cells true 5 ((fRun f p l).1.flatMap svC)]) (Eq.mpr (ERun f p l) ?_) ⟨inL_b 0 _, plainIL 0 _, plainRQ 0 _, plainRQ 0 _, trivial⟩ ⟨⟨_, _, rfl, plainSV 0 _⟩, trivial⟩ rfl rfl (fun _ => rfl) (ids := [i0, i1, i2, i2]) ⟨⟨_, _, [], by rw [List.append_nil]; exact e0⟩, ⟨_, _, [], by rw [List.append_nil]; exact e1⟩, ⟨_, _, D, e2⟩, ⟨_, _, D, e2⟩, trivial⟩ rfl
 delta RRun jj1o jj4l jjp jj2m jj17 jj3f jj4e jj14 jj36 jj2g jj1z jj39 jj22 jj3h jjg jj3d jj2q jj8 jj3v jj1g jj2u jj2f jj7
 refine ⟨⟨rfl, rfl, rfl, trivial⟩, fun H' _ hd => kCheck f p l ht hb hs hd.1 hd.2.1 hd.2.2.1, forkNe (fun e => ?_) (fun e => ?_)⟩
 ·rw [show fRun f p l = ([], errAll f p l) from if_neg e]
  repeat' first | exact inL_b _ _ | exact plainIL _ _ | exact plainRQ _ _ | exact plainSV _ _ | exact (inV_rn _ 0 _).symm | exact wk_QR | exact wk_nil _ _ _ (.inr rfl) | exact trivial | exact rfl | exact wk_refl _ | refine wks_cons ?_ ?_ | exact wks_nil | exact wk_nil _ _ _ (.inl rfl) | (exact wk_Q (by omega)) | refine wk_tupL ?_ | refine wk_aggL ?_ | refine ⟨rfl, ?_⟩ | refine ⟨trivial, ?_⟩ | (refine ⟨vI64 (by omega), ?_⟩) | (refine And.intro (by omega) ?_) | apply And.intro | (exact iEq (by omega)) | (exact vI64 (by omega))
 obtain ⟨c1, c2, c3⟩ := errAll_0 e
 have o := flOk c1
 have ol := lsOk c3
 have l30 := ol.len
 have m1 := o.b1
 have m2 := o.b2
 refine ⟨by omega, ⟨rfl, trivial⟩, fun H' hL hd => kCloneR f.b hb (by omega) hL hd.1, rfl, Nat.zero_le _, ?_, fun _ => rfl, ?_⟩
 ·repeat' first | exact inL_b _ _ | exact plainIL _ _ | exact plainRQ _ _ | exact plainSV _ _ | exact (inV_rn _ 0 _).symm | exact wk_QR | exact wk_nil _ _ _ (.inr rfl) | exact trivial | exact rfl | exact wk_refl _ | refine wks_cons ?_ ?_ | exact wks_nil | exact wk_nil _ _ _ (.inl rfl) | (exact wk_Q (by omega)) | refine wk_tupL ?_ | refine wk_aggL ?_ | refine ⟨rfl, ?_⟩ | refine ⟨trivial, ?_⟩ | (refine ⟨vI64 (by omega), ?_⟩) | (refine And.intro (by omega) ?_) | apply And.intro | (exact iEq (by omega)) | (exact vI64 (by omega))
 intro x hx
 refine forkD (fun q => ?_) (fun q => ?_)
 ·have hfs := flat_snoc intC_len (idxL x) (x : Int) (idx_len x).symm
  rw [show idxL x ++ [(x : Int)] = idxL (x + 1) by unfold idxL; rw [List.range_succ, List.map_append]; rfl] at hfs
  refine ⟨⟨by omega, by decide, ⟨Nat.le_refl _, by rw [flat_len intC_len, idx_len]; omega⟩, ⟨Nat.le_refl _, Nat.le_refl _⟩, rfl⟩, rfl, vI64 (by omega), x + 1, by omega, by omega, rfl, ?_⟩
  repeat' first | exact inL_b _ _ | exact plainIL _ _ | exact plainRQ _ _ | exact plainSV _ _ | exact (inV_rn _ 0 _).symm | exact wk_QR | exact wk_nil _ _ _ (.inr rfl) | (exact congrArg (fun l => some (KObj.cells true 1 l)) hfs) | exact trivial | exact rfl | exact wk_refl _ | refine wks_cons ?_ ?_ | exact wks_nil | exact wk_nil _ _ _ (.inl rfl) | (exact wk_Q (by omega)) | refine wk_tupL ?_ | refine wk_aggL ?_ | refine ⟨rfl, ?_⟩ | refine ⟨trivial, ?_⟩ | (refine ⟨vI64 (by omega), ?_⟩) | (refine And.intro (by omega) ?_) | apply And.intro | (exact iEq (by omega)) | (exact vI64 (by omega))
 obtain rfl : x = l.length := by omega
 refine ⟨by omega, rfl, run_0 o ol, ?_, fun _ => rfl, ?_⟩
 ·rw [op_0, idx_len, opB_0, krep_int, krep_int]
  repeat' first | exact inL_b _ _ | exact plainIL _ _ | exact plainRQ _ _ | exact plainSV _ _ | exact (inV_rn _ 0 _).symm | exact wk_QR | exact wk_nil _ _ _ (.inr rfl) | exact trivial | exact rfl | exact wk_refl _ | refine wks_cons ?_ ?_ | exact wks_nil | exact wk_nil _ _ _ (.inl rfl) | (exact wk_Q (by omega)) | refine wk_tupL ?_ | refine wk_aggL ?_ | refine ⟨rfl, ?_⟩ | refine ⟨trivial, ?_⟩ | (refine ⟨vI64 (by omega), ?_⟩) | (refine And.intro (by omega) ?_) | apply And.intro | (exact iEq (by omega)) | (exact vI64 (by omega))
 intro g i
 refine ⟨runBody f p l g o ol i, fun d => ?_⟩
 have hF := run_end i (by have := of_decide_eq_false d; omega)
 rw [show fRun f p l = (playF f p l, 0) from if_pos e, hF]
 repeat' first | exact inL_b _ _ | exact plainIL _ _ | exact plainRQ _ _ | exact plainSV _ _ | exact (inV_rn _ 0 _).symm | exact wk_QR | exact wk_nil _ _ _ (.inr rfl) | exact trivial | exact rfl | exact wk_refl _ | refine wks_cons ?_ ?_ | exact wks_nil | exact wk_nil _ _ _ (.inl rfl) | (exact wk_Q (by omega)) | refine wk_tupL ?_ | refine wk_aggL ?_ | refine ⟨rfl, ?_⟩ | refine ⟨trivial, ?_⟩ | (refine ⟨vI64 (by omega), ?_⟩) | (refine And.intro (by omega) ?_) | apply And.intro | (exact iEq (by omega)) | (exact vI64 (by omega))
theorem kRun (f : Fleet) (p : Pol) (l : List Rq) (ht : f.t.length <= 4294967296) (hb : f.b.length <= 4294967296) (hs : shortI f.t) {H : Heap} {L : Nat} (hL : H.length = L) {i0 i1 i2 : Nat} {o0 o1 o2 : Bool} {z0 z1 z2 : Nat} (e0 : H[i0]? = some (.cells o0 z0 (inL f.t))) (e1 : H[i1]? = some (.cells o1 z1 (f.b.flatMap intC))) (e2 : H[i2]? = some (.cells o2 z2 (l.flatMap rqC))) :
  KCall prog 29 [fleetV f i0 i1, .agg ⟨polC p⟩, .slice (some ⟨i2, 0, some 2⟩) l.length l.length] H [] (Is (runV L (fRun f p l)) (H ++ [.cells true 5 ((fRun f p l).1.flatMap svC)])) :=
 kRunP f p l ht hb hs hL e0 e1 (D := []) (by rw [List.append_nil]; exact e2)
end
end Go.Proofs.YthdekmpkioikdaaGreat
/- Request: fleets, requests and policies that are made of numbers. No condition. -/
namespace Go.Proofs.YthdekmpkioikdaaGreat
set_option linter.unusedSimpArgs false
set_option linter.unusedVariables false
open Go Go.K
noncomputable section
abbrev digC (L : List Int) (n : Int) : List Value := [.iface (L.length + 1) (.agg ⟨L.flatMap intC⟩), .int .i64 n]
def dVal (L : List Int) (n : Int) : Int := if 0 < L.length then IntKind.wrap .i64 (L.getD (Int.toNat (Int.tmod n ((L.length : Nat) : Int))) 0 + IntKind.wrap .i64 (Int.tdiv n ((L.length : Nat) : Int))) else 0
def dN (L : List Int) (n m : Int) : Int := dVal L n % m
def shW (L : List Int) (n : Int) : Int := 1 + dN L n 5
def shR (L : List Int) (n : Int) : Int := 1 + dN L (n + 1) 12
def shQ (L : List Int) (n : Int) (i : Nat) : Int := n + 1 + 1 + (i : Int) * shW L n
def rwL (L : List Int) (q far : Int) (i : Nat) : Nat -> List Int
 | 0 => []
 | k + 1 => rwL L q far i k ++ [if (i : Int) = (k : Int) then 0 else dN L (q + (k : Int)) (far + 1)]
def shT (L : List Int) (n : Int) : Nat -> List (List Int)
 | 0 => []
 | i + 1 => shT L n i ++ [rwL L (shQ L n i) (shR L n) i (Int.toNat (shW L n))]
def shE (L : List Int) (n : Int) : Int := shQ L n (Int.toNat (shW L n))
def brL (L : List Int) (n : Int) : Nat -> List Int
 | 0 => []
 | x + 1 => brL L n x ++ [dN L (shE L n + 2 * (x : Int) + 1) (shW L n)]
def shC (L : List Int) (n m : Int) (x : Nat) : Bool := decide (dN L (shE L n + 2 * (x : Int)) m < (x : Int))
def shX (L : List Int) (n m : Int) : Nat := firstN (shC L n m) (Int.toNat m + 1)
def shF (L : List Int) (n m : Int) : Fleet := ⟨shT L n (Int.toNat (shW L n)), brL L n (shX L n m)⟩
def shN (L : List Int) (n m : Int) : Int := shE L n + 2 * (shX L n m : Int) + 1
structure AsS where
 l : List Rq
 n : Int
 h : Int
def asV (L : List Int) (a w : Int) (x : Nat) (s : AsS) : AsS :=
 if dN L (s.n + 1) 3 = 0 then
  ⟨s.l ++ [⟨Int.tmod (7 * (x : Int)) 31, s.h + dN L s.n a, dN L (s.n + 1 + 1 + 1) w, dN L (s.n + 1 + 1 + 1 + 1) w, 1 + dN L (s.n + 1 + 1 + 1 + 1 + 1) 15, 1 + dN L (s.n + 1 + 1 + 1 + 1 + 1 + 1) 3, 1 + dN L (s.n + 1 + 1) 60⟩], s.n + 1 + 1 + 1 + 1 + 1 + 1 + 1, s.h + dN L s.n a⟩
 else
  ⟨s.l ++ [⟨Int.tmod (7 * (x : Int)) 31, s.h + dN L s.n a, dN L (s.n + 1 + 1) w, dN L (s.n + 1 + 1 + 1) w, 1 + dN L (s.n + 1 + 1 + 1 + 1) 15, 1 + dN L (s.n + 1 + 1 + 1 + 1 + 1) 3, 0⟩], s.n + 1 + 1 + 1 + 1 + 1 + 1, s.h + dN L s.n a⟩
def asA (L : List Int) (n : Int) : Int := 1 + dN L (n + 1) 15
def asS (L : List Int) (n w : Int) : Nat -> AsS
 | 0 => ⟨[], n + 1 + 1, 0⟩
 | x + 1 => asV L (asA L n) w x (asS L n w x)
def asK (L : List Int) (n m : Int) : Nat := Int.toNat (dN L n (m + 1))
def asL (L : List Int) (n m w : Int) : List Rq := (asS L n w (asK L n m)).l
def asN (L : List Int) (n m w : Int) : Int := (asS L n w (asK L n m)).n
def rlP (L : List Int) (n : Int) : Pol := ⟨dN L n 6, dN L (n + 1) 40, dN L (n + 1 + 1) 4, dN L (n + 1 + 1 + 1) 10, dN L (n + 1 + 1 + 1 + 1) 100⟩
end
end Go.Proofs.YthdekmpkioikdaaGreat
/- What is to be shown of functions. Printed by a program. No condition. -/
namespace Go.Proofs.YthdekmpkioikdaaGreat
set_option linter.unusedSimpArgs false
open Go Go.K
set_option maxRecDepth 100000
set_option maxHeartbeats 4000000
set_option linter.unusedVariables false
noncomputable section
abbrev jop (L : List Int) : Int:=(L.length : Nat)
abbrev jo1 (L : List Int) : Value:=.agg ⟨(L.flatMap intC)⟩
abbrev jo7 (L : List Int) (n : Int) : List Value:=[.iface (L.length + 1) (jo1 L),nI (n + 1)]
abbrev jo1d (L : List Int) (n : Int) : KObj:=.cells true 0 (jo7 L n)
abbrev joo (L : List Int) (n : Int) : Prop:=((some (.cells true 0 [.iface (L.length + 1) (jo1 L),nI (IntKind.wrap .i64 (n + 1))] : KObj) = some (jo1d L n) /\ belowO 1 (jo1d L n) = true) /\ True) /\ (True)
def RNext (L : List Int) (n m : Int) : Prop :=
 (((decide ((0 : Int) < (jop L))) = true -> ((((jop L) : Int) ≠ 0) /\ (((0 : Int) <= (Int.tmod n (jop L)) /\ ((Int.tmod n (jop L)) : Int) < (jop L)) /\ (((L.flatMap intC)[(Int.toNat (Int.tmod n (jop L)) * 1)]? = some (nI (L.getD (Int.tmod n (jop L)).toNat 0))) /\ ((((jop L) : Int) ≠ 0) /\ (∃ y0 : Int,(nI (IntKind.wrap .i64 (Int.tdiv n (jop L))) : Value) = nI y0 /\ (∃ y1 : Int,(nI (IntKind.wrap .i64 ((L.getD (Int.tmod n (jop L)).toNat 0) + y0)) : Value) = nI y1 /\ ((True) /\ (∀ H' : Heap,H'.length = 1 -> (True) -> KCall prog 21 [nI y1,nI m] H' [] (Is (nI (y1 % m)) H')) /\ (true = true /\ wk (nI (y1 % m) : Value) (rn (sg 1 []) 3 (nI (dN L n m) : Value)) /\ joo L n))))))))) /\ ((decide ((0 : Int) < (jop L))) = false -> ((True) /\ (∀ H' : Heap,H'.length = 1 -> (True) -> KCall prog 21 [nI 0,nI m] H' [] (Is (nI (0 % m)) H')) /\ (true = true /\ wk (nI (0 % m) : Value) (rn (sg 1 []) 3 (nI (dN L n m) : Value)) /\ joo L n))))
abbrev jo1t (m : Int) : List Value:=[.pointer (some ⟨0,0,none⟩),nI m]
abbrev jo1u (L : List Int) (n : Int):=readsW 0 0 (digC L n) []
theorem ENext (L : List Int) (n m : Int) : vF prog msk (dm 0) 100000 true 40 true 71 (jo1t m) (jo1u L n) (some [0])
 (.go 7 (.fork (.go 12 (.need (.need (.val (nI (L.getD (Int.tmod n (jop L)).toNat 0)) (.go 8 (.need (.bind Int (fun y0 => .slot 37 (nI y0) (.go 0 (.bind Int (fun y1 => .slot 38 (nI y1) (.go 10 (.ans [] (nI (y1 % m)) [] (.go 0 (.keep (.again [])))))))))))))))) (.go 9 (.ans [] (nI (0 % m)) [] (.go 0 (.keep (.again [])))))))
 (newKW ((jo1u L n) : HT).n 3 0 (.cells true 0 (jo7 L n)) (nI (dN L n m)) []) = RNext L n m:=by kernel_rfl
abbrev jom (L : List Int) (n : Int) : List Value:=[.iface (L.length + 1) (jo1 L),nI n]
abbrev jod (L : List Int) (n : Int) : List Value:=[.iface (L.length + 1) (jo1 L),nI ((n + 1) + 1)]
abbrev jo1e (L : List Int) (n : Int) : KObj:=.cells true 0 (jod L n)
abbrev jo17 : Int:=(0 : Nat)
abbrev jof (m : Int) (L : List Int) (n : Int) : Prop:=(nI m : Value) = nI m /\ (.pointer (some ⟨0,0,none⟩) : Value) = .pointer (some ⟨0,0,none⟩) /\ (.pointer (some ⟨1,0,none⟩) : Value) = .pointer (some ⟨1,0,none⟩) /\ (.pointer (some ⟨2,0,none⟩) : Value) = .pointer (some ⟨2,0,none⟩) /\ (nI (1 + (dN L n 5)) : Value) = nI (1 + (dN L n 5)) /\ (nI (1 + (dN L (n + 1) 12)) : Value) = nI (1 + (dN L (n + 1) 12)) /\ True
abbrev joj : List Value:=[.slice none 0 0,.slice none 0 0]
abbrev jo1q : KObj:=.cells true 0 joj
abbrev jo1l : Prop:=(True /\ True) /\ (True)
abbrev jo3 (L : List Int) (n : Int) (m : Int) (x2 : Nat) : Prop:=(nI (1 + (dN L (n + 1) 12)) : Value) = nI (1 + (dN L (n + 1) 12)) /\ (nI (1 + (dN L n 5)) : Value) = nI (1 + (dN L n 5)) /\ (.pointer (some ⟨2,0,none⟩) : Value) = .pointer (some ⟨2,0,none⟩) /\ (.pointer (some ⟨1,0,none⟩) : Value) = .pointer (some ⟨1,0,none⟩) /\ (.pointer (some ⟨0,0,none⟩) : Value) = .pointer (some ⟨0,0,none⟩) /\ (nI m : Value) = nI m /\ (nI (x2 : Int) : Value) = nI (x2 : Int) /\ True
abbrev jo1s (L : List Int) (n : Int) (x2 : Nat) : List Value:=[slQ 3 1 (shT L n x2).length,.slice none 0 0]
abbrev jox (L : List Int) (n : Int) (x2 : Nat) (x3 : Nat) : List Value:=[.iface (L.length + 1) (jo1 L),nI (shQ L n x2 + (x3 : Int))]
abbrev jot (L : List Int) (n : Int) (x2 : Nat) (x3 : Nat):=dN L (shQ L n x2 + (x3 : Int)) ((1 + (dN L (n + 1) 12)) + 1)
abbrev job (L : List Int) (n : Int) (x2 : Nat) (x3 : Nat):=rwL L (shQ L n x2) (shR L n) x2 x3
abbrev jo1r (L : List Int) (n : Int) (x2 : Nat) (x3 : Nat) : Prop:=(job L n x2 x3).length <= (job L n x2 x3).length /\ 0 + (job L n x2 x3).length * 1 <= List.length ((job L n x2 x3).flatMap intC)
abbrev jo1o (x3 : Nat) : Value:=nI (IntKind.wrap .i64 ((x3 : Int) + 1))
abbrev jou (x3 : Nat) (x3' : Nat) (L : List Int) (n : Int) (x2 : Nat) (m : Int) : Prop:=(nI ((x3 : Int) + 1) : Value) = nI (x3' : Int) /\ wk (.slice (some ⟨6,0,none⟩) ((job L n x2 x3).length + 1) ((job L n x2 x3).length + 1) : Value) (slQ 6 1 (rwL L (shQ L n x2) (shR L n) x2 x3').length : Value) /\ jo3 L n m x2
abbrev joe (L : List Int) (n : Int) (x2 : Nat) (x3 : Nat) (x3' : Nat) : Prop:=(some (.cells true 0 [.iface (L.length + 1) (jo1 L),nI ((shQ L n x2 + (x3 : Int)) + 1)] : KObj) = some (.cells true 0 [.iface (L.length + 1) (jo1 L),nI (shQ L n x2 + (x3' : Int))] : KObj) /\ belowO 4 (.cells true 0 [.iface (L.length + 1) (jo1 L),nI (shQ L n x2 + (x3' : Int))] : KObj) = true) /\ (keptR 4 jo1q) /\ (keptR 4 (.cells true 0 (jo1s L n x2))) /\ True
abbrev joy (L : List Int) (n : Int) (x2 : Nat) (x3' : Nat) : KObj:=.cells true 1 ((rwL L (shQ L n x2) (shR L n) x2 x3').flatMap intC)
abbrev jo13 (L : List Int) (n : Int) (x2 : Nat) (x3 : Nat) : List Value:=[.iface ((job L n x2 x3).length + 1) (.agg ⟨((job L n x2 x3).flatMap intC)⟩)]
abbrev jo1p (x2 : Nat) : Value:=nI (IntKind.wrap .i64 ((x2 : Int) + 1))
abbrev joh (L : List Int) (n : Int) (m : Int) : Prop:=(nI (1 + (dN L n 5)) : Value) = nI (1 + (dN L n 5)) /\ (.pointer (some ⟨2,0,none⟩) : Value) = .pointer (some ⟨2,0,none⟩) /\ (.pointer (some ⟨1,0,none⟩) : Value) = .pointer (some ⟨1,0,none⟩) /\ (.pointer (some ⟨0,0,none⟩) : Value) = .pointer (some ⟨0,0,none⟩) /\ (nI m : Value) = nI m /\ True
abbrev jo12 (L : List Int) (n : Int) (x3 : Nat) : List Value:=[.iface (L.length + 1) (jo1 L),nI (shE L n + 2 * (x3 : Int))]
abbrev jok (L : List Int) (n : Int) (x3 : Nat) : List Value:=[.iface (L.length + 1) (jo1 L),nI ((shE L n + 2 * (x3 : Int)) + 1)]
abbrev jos (L : List Int) (n : Int) (x3 : Nat):=dN L ((shE L n + 2 * (x3 : Int)) + 1) (1 + (dN L n 5))
abbrev jo1f (L : List Int) (n : Int) (x3 : Nat) : List Value:=[.iface (L.length + 1) (jo1 L),nI (((shE L n + 2 * (x3 : Int)) + 1) + 1)]
def Rships (L : List Int) (n : Int) (m : Int) : Prop :=
 (((someR (.cells true 0 (jom L n))) /\ True) /\ (∀ H' : Heap,H'.length = 3 -> (H'[0]? = some (.cells true 0 (jom L n) : KObj) /\ True) -> KCall prog 71 [.pointer (some ⟨0,0,none⟩),nI 5] H' [0] (Is (nI (dN L n 5)) (List.set H' 0 (jo1d L n)))) /\ ((nI (IntKind.wrap .i64 (1 + (dN L n 5))) : Value) = nI (1 + (dN L n 5)) /\ (((someR (.cells true 0 (jo7 L n))) /\ True) /\ (∀ H' : Heap,H'.length = 3 -> (H'[0]? = some (jo1d L n) /\ True) -> KCall prog 71 [.pointer (some ⟨0,0,none⟩),nI 12] H' [0] (Is (nI (dN L (n + 1) 12)) (List.set H' 0 (jo1e L n)))) /\ ((nI (IntKind.wrap .i64 (1 + (dN L (n + 1) 12))) : Value) = nI (1 + (dN L (n + 1) 12)) /\ (true = true /\ (0 <= Int.toNat (shW L n)) /\ (true = true /\ ((nI 0 : Value) = nI jo17 /\ jof m L n) /\ ((some (jo1e L n) = some (.cells true 0 [.iface (L.length + 1) (jo1 L),nI (shQ L n 0)] : KObj) /\ belowO 3 (.cells true 0 [.iface (L.length + 1) (jo1 L),nI (shQ L n 0)] : KObj) = true) /\ wkO (.cells true 0 joj : KObj) (rno (sg 3 []) 3 (.cells true 0 [slQ 3 1 (shT L n 0).length,.slice none 0 0] : KObj)) /\ (keptR 3 jo1q) /\ True) /\ jo1l) /\ (∀ x2 : Nat,true = true) /\ ∀ x2 : Nat,(x2 <= Int.toNat (shW L n)) -> (((decide (((x2 : Int) : Int) < (1 + (dN L n 5)))) = true -> (true = true /\ (0 <= Int.toNat (shW L n)) /\ (true = true /\ ((nI 0 : Value) = nI jo17 /\ wk (.slice none 0 0 : Value) (slQ 0 1 (rwL L (shQ L n x2) (shR L n) x2 0).length : Value) /\ jo3 L n m x2) /\ ((some (.cells true 0 [.iface (L.length + 1) (jo1 L),nI (shQ L n x2)] : KObj) = some (.cells true 0 [.iface (L.length + 1) (jo1 L),nI (shQ L n x2 + jo17)] : KObj) /\ belowO 4 (.cells true 0 [.iface (L.length + 1) (jo1 L),nI (shQ L n x2 + jo17)] : KObj) = true) /\ (keptR 4 jo1q) /\ (keptR 4 (.cells true 0 (jo1s L n x2))) /\ True) /\ jo1l) /\ (∀ x3 : Nat,true = true) /\ ∀ x3 : Nat,(x3 <= Int.toNat (shW L n)) -> (((decide (((x3 : Int) : Int) < (1 + (dN L n 5)))) = true -> ((nI (IntKind.wrap .i64 ((1 + (dN L (n + 1) 12)) + 1)) : Value) = nI ((1 + (dN L (n + 1) 12)) + 1) /\ (((someR (.cells true 0 (jox L n x2 x3))) /\ True) /\ (∀ H' : Heap,H'.length = 5 -> (H'[0]? = some (.cells true 0 (jox L n x2 x3) : KObj) /\ True) -> KCall prog 71 [.pointer (some ⟨0,0,none⟩),nI ((1 + (dN L (n + 1) 12)) + 1)] H' [0] (Is (nI (jot L n x2 x3)) (List.set H' 0 (.cells true 0 [.iface (L.length + 1) (jo1 L),nI ((shQ L n x2 + (x3 : Int)) + 1)] : KObj)))) /\ (((((x2 : Int) : Int) == (x3 : Int)) = true -> ((((job L n x2 x3).length + 1) * 8 <= 2 ^ 44 /\ 1 ≠ 0 /\ (jo1r L n x2 x3) /\ (1 <= 1 /\ 0 + 1 * 1 <= List.length ([nI 0] : List Value)) /\ (((([nI 0] : List Value).drop 0).take (1 * 1)) : List Value).all (fun v => one1 v) = true) /\ true = true /\ ((jo1o x3) = nI ((x3 : Int) + 1) /\ (∃ x3' : Nat,(x3' <= Int.toNat (shW L n)) /\ (Int.toNat (shW L n) - x3') < (Int.toNat (shW L n) - x3) /\ true = true /\ (jou x3 x3' L n x2 m) /\ (joe L n x2 x3 x3') /\ ((some (.cells true 1 (((((job L n x2 x3).flatMap intC).drop 0).take ((job L n x2 x3).length * 1)) ++ ((([nI 0] : List Value).drop 0).take (1 * 1))) : KObj) = some (joy L n x2 x3') /\ belowO 4 (joy L n x2 x3') = true) /\ True) /\ (True))))) /\ ((((x2 : Int) : Int) == (x3 : Int)) = false -> ((((job L n x2 x3).length + 1) * 8 <= 2 ^ 44 /\ 1 ≠ 0 /\ (jo1r L n x2 x3) /\ (1 <= 1 /\ 0 + 1 * 1 <= List.length ([nI (jot L n x2 x3)] : List Value)) /\ (((([nI (jot L n x2 x3)] : List Value).drop 0).take (1 * 1)) : List Value).all (fun v => one1 v) = true) /\ true = true /\ ((jo1o x3) = nI ((x3 : Int) + 1) /\ (∃ x3' : Nat,(x3' <= Int.toNat (shW L n)) /\ (Int.toNat (shW L n) - x3') < (Int.toNat (shW L n) - x3) /\ true = true /\ (jou x3 x3' L n x2 m) /\ (joe L n x2 x3 x3') /\ ((some (.cells true 1 (((((job L n x2 x3).flatMap intC).drop 0).take ((job L n x2 x3).length * 1)) ++ ((([nI (jot L n x2 x3)] : List Value).drop 0).take (1 * 1))) : KObj) = some (joy L n x2 x3') /\ belowO 4 (joy L n x2 x3') = true) /\ True) /\ (True))))))))) /\ ((decide (((x3 : Int) : Int) < (1 + (dN L n 5)))) = false -> ((((shT L n x2).length + 1) * 24 <= 2 ^ 44 /\ 1 ≠ 0 /\ ((shT L n x2).length <= (shT L n x2).length /\ 0 + (shT L n x2).length * 1 <= List.length (inL (shT L n x2))) /\ (1 <= 1 /\ 0 + 1 * 1 <= List.length (jo13 L n x2 x3)) /\ ((((jo13 L n x2 x3).drop 0).take (1 * 1)) : List Value).all (fun v => one1 v) = true) /\ true = true /\ ((jo1p x2) = nI ((x2 : Int) + 1) /\ (∃ x2' : Nat,(x2' <= Int.toNat (shW L n)) /\ (Int.toNat (shW L n) - x2') < (Int.toNat (shW L n) - x2) /\ true = true /\ ((nI ((x2 : Int) + 1) : Value) = nI (x2' : Int) /\ jof m L n) /\ ((some (.cells true 0 (jox L n x2 x3) : KObj) = some (.cells true 0 [.iface (L.length + 1) (jo1 L),nI (shQ L n x2')] : KObj) /\ belowO 3 (.cells true 0 [.iface (L.length + 1) (jo1 L),nI (shQ L n x2')] : KObj) = true) /\ wkO (.cells true 0 [.slice (some ⟨6,0,none⟩) ((shT L n x2).length + 1) ((shT L n x2).length + 1),.slice none 0 0] : KObj) (rno (sg 3 [(3,6)]) 3 (.cells true 0 [slQ 3 1 (shT L n x2').length,.slice none 0 0] : KObj)) /\ (keptR 3 jo1q) /\ True) /\ ((some (.cells true 1 ((((inL (shT L n x2)).drop 0).take ((shT L n x2).length * 1)) ++ (((jo13 L n x2 x3).drop 0).take (1 * 1))) : KObj) = some (.cells true 1 (inL (shT L n x2')) : KObj) /\ belowO 3 (.cells true 1 (inL (shT L n x2')) : KObj) = true) /\ True) /\ (True)))))))) /\ ((decide (((x2 : Int) : Int) < (1 + (dN L n 5)))) = false -> (true = true /\ (0 <= Int.toNat m /\ firstN (shC L n m) 0 = 0) /\ (true = true /\ ((nI 0 : Value) = nI jo17 /\ joh L n m) /\ ((some (.cells true 0 [.iface (L.length + 1) (jo1 L),nI (shQ L n x2)] : KObj) = some (.cells true 0 [.iface (L.length + 1) (jo1 L),nI (shE L n + 2 * jo17)] : KObj) /\ belowO 4 (.cells true 0 [.iface (L.length + 1) (jo1 L),nI (shE L n + 2 * jo17)] : KObj) = true) /\ wkO (.cells true 0 (jo1s L n x2) : KObj) (rno (sg 4 []) 3 (.cells true 0 [slQ 3 1 (shT L n x2).length,slQ 4 1 (brL L n 0).length] : KObj)) /\ (keptR 4 jo1q) /\ True) /\ jo1l) /\ (∀ x3 : Nat,true = true) /\ ∀ x3 : Nat,(x3 <= Int.toNat m /\ firstN (shC L n m) x3 = x3) -> (((someR (.cells true 0 (jo12 L n x3))) /\ True) /\ (∀ H' : Heap,H'.length = 5 -> (H'[0]? = some (.cells true 0 (jo12 L n x3) : KObj) /\ True) -> KCall prog 71 (jo1t m) H' [0] (Is (nI (dN L (shE L n + 2 * (x3 : Int)) m)) (List.set H' 0 (.cells true 0 (jok L n x3) : KObj)))) /\ (((decide (((x3 : Int) : Int) <= (dN L (shE L n + 2 * (x3 : Int)) m))) = true -> (((someR (.cells true 0 (jok L n x3))) /\ True) /\ (∀ H' : Heap,H'.length = 5 -> (H'[0]? = some (.cells true 0 (jok L n x3) : KObj) /\ True) -> KCall prog 71 [.pointer (some ⟨0,0,none⟩),nI (1 + (dN L n 5))] H' [0] (Is (nI (jos L n x3)) (List.set H' 0 (.cells true 0 (jo1f L n x3) : KObj)))) /\ ((((brL L n x3).length + 1) * 8 <= 2 ^ 44 /\ 1 ≠ 0 /\ ((brL L n x3).length <= (brL L n x3).length /\ 0 + (brL L n x3).length * 1 <= List.length ((brL L n x3).flatMap intC)) /\ (1 <= 1 /\ 0 + 1 * 1 <= List.length ([nI (jos L n x3)] : List Value)) /\ (((([nI (jos L n x3)] : List Value).drop 0).take (1 * 1)) : List Value).all (fun v => one1 v) = true) /\ true = true /\ ((jo1o x3) = nI ((x3 : Int) + 1) /\ (∃ x3' : Nat,(x3' <= Int.toNat m /\ firstN (shC L n m) x3' = x3') /\ (Int.toNat m - x3') < (Int.toNat m - x3) /\ true = true /\ ((nI ((x3 : Int) + 1) : Value) = nI (x3' : Int) /\ joh L n m) /\ ((some (.cells true 0 (jo1f L n x3) : KObj) = some (.cells true 0 [.iface (L.length + 1) (jo1 L),nI (shE L n + 2 * (x3' : Int))] : KObj) /\ belowO 4 (.cells true 0 [.iface (L.length + 1) (jo1 L),nI (shE L n + 2 * (x3' : Int))] : KObj) = true) /\ wkO (.cells true 0 [slQ 3 1 (shT L n x2).length,.slice (some ⟨6,0,none⟩) ((brL L n x3).length + 1) ((brL L n x3).length + 1)] : KObj) (rno (sg 4 [(4,6)]) 3 (.cells true 0 [slQ 3 1 (shT L n x2).length,slQ 4 1 (brL L n x3').length] : KObj)) /\ (keptR 4 jo1q) /\ True) /\ ((some (.cells true 1 (((((brL L n x3).flatMap intC).drop 0).take ((brL L n x3).length * 1)) ++ ((([nI (jos L n x3)] : List Value).drop 0).take (1 * 1))) : KObj) = some (.cells true 1 ((brL L n x3').flatMap intC) : KObj) /\ belowO 4 (.cells true 1 ((brL L n x3').flatMap intC) : KObj) = true) /\ True) /\ (True)))))) /\ ((decide (((x3 : Int) : Int) <= (dN L (shE L n + 2 * (x3 : Int)) m))) = false -> (true = true /\ wk (.agg #[slQ 3 1 (shT L n x2).length,slQ 4 1 (brL L n x3).length] : Value) (rn (sg 1 [(1,3),(2,4)]) 3 (.agg #[slQ 1 1 (List.length (shF L n m).t),slQ 2 1 (List.length (shF L n m).b)] : Value)) /\ ((some (.cells true 0 (jok L n x3) : KObj) = some (.cells true 0 [.iface (L.length + 1) (jo1 L),nI (shN L n m)] : KObj) /\ belowO 1 (.cells true 0 [.iface (L.length + 1) (jo1 L),nI (shN L n m)] : KObj) = true) /\ True) /\ ((some (.cells true 1 (inL (shT L n x2)) : KObj) = some (.cells true 1 (inL (shF L n m).t) : KObj) /\ belowO 1 (.cells true 1 (inL (shF L n m).t) : KObj) = true) /\ (some (.cells true 1 ((brL L n x3).flatMap intC) : KObj) = some (.cells true 1 (List.flatMap intC (shF L n m).b) : KObj) /\ belowO 1 (.cells true 1 (List.flatMap intC (shF L n m).b) : KObj) = true) /\ True)))))))))))))
abbrev jo1i (L : List Int) (n : Int) : List (Nat × KObj):=[(0,.cells true 0 (jo7 L n))]
abbrev jo15 : Nat × Value:=(0,.pointer (some ⟨0,0,none⟩))
abbrev jo1m : Nat × Value:=(4,.pointer (some ⟨1,0,none⟩))
abbrev jo1n : Nat × Value:=(5,.pointer (some ⟨2,0,none⟩))
abbrev jo1v : Nat × Bool × KObj:=(1,true,.cells true 0 joj)
abbrev jo1a : Hint:=.go 0 (.again [(4,6)])
theorem Eships (L : List Int) (n : Int) (m : Int) : vF prog msk (dm 0) 100000 true 40 true 26 (jo1t m) (jo1u L n) (some [0])
 (.go 2 (.answ [(0,.cells true 0 (jom L n))] (nI (dN L n 5)) (jo1i L n) [] (.go 0 (.slot 15 (nI (1 + (dN L n 5))) (.go 1 (.answ (jo1i L n) (nI (dN L (n + 1) 12)) [(0,.cells true 0 (jod L n))] [] (.go 0 (.slot 18 (nI (1 + (dN L (n + 1) 12))) (.go 1 (.inv 3 (Nat) (0) [] [0,2,1] (fun x2 => [(8,nI (x2 : Int)),(1,nI m),jo15,jo1m,jo1n,(6,nI (1 + (dN L n 5))),(7,nI (1 + (dN L (n + 1) 12)))]) (fun x2 => [(0,true,.cells true 0 [.iface (L.length + 1) (jo1 L),nI (shQ L n x2)]),(2,false,.cells true 0 (jo1s L n x2)),jo1v]) (fun x2 => [(true,.cells true 1 (inL (shT L n x2)))]) (fun x2 => []) (fun x2 => (x2 <= Int.toNat (shW L n))) (fun x2 => (Int.toNat (shW L n) - x2)) (fun x2 => .go 2 (.fork (.go 1 (.inv 3 (Nat) (0) [] [0,1,2] (fun x3 => [(10,nI (x3 : Int)),(9,slQ 4 1 (job L n x2 x3).length),(7,nI (1 + (dN L (n + 1) 12))),(6,nI (1 + (dN L n 5))),jo1n,jo1m,jo15,(1,nI m),(8,nI (x2 : Int))]) (fun x3 => [(0,true,.cells true 0 (jox L n x2 x3)),jo1v,(2,true,.cells true 0 (jo1s L n x2))]) (fun x3 => [(true,.cells true 1 ((job L n x2 x3).flatMap intC))]) (fun x3 => []) (fun x3 => (x3 <= Int.toNat (shW L n))) (fun x3 => (Int.toNat (shW L n) - x3)) (fun x3 => .go 2 (.fork (.go 2 (.slot 31 (nI ((1 + (dN L (n + 1) 12)) + 1)) (.answ [(0,.cells true 0 (jox L n x2 x3))] (nI (jot L n x2 x3)) [(0,.cells true 0 [.iface (L.length + 1) (jo1 L),nI ((shQ L n x2 + (x3 : Int)) + 1)])] [] (.go 3 (.fork (.go 3 (.need (.go 2 (.slot 28 (nI ((x3 : Int) + 1)) jo1a)))) (.go 2 (.need (.go 2 (.slot 28 (nI ((x3 : Int) + 1)) jo1a))))))))) (.frz [9] (.go 3 (.need (.go 3 (.slot 23 (nI ((x2 : Int) + 1)) (.go 0 (.again [(3,6)]))))))))))) (.go 0 (.inv 3 (Nat) (0) [] [0,2,1] (fun x3 => [(12,nI (x3 : Int)),(6,nI (1 + (dN L n 5))),jo1n,jo1m,jo15,(1,nI m)]) (fun x3 => [(0,true,.cells true 0 (jo12 L n x3)),(2,false,.cells true 0 [slQ 3 1 (shT L n x2).length,slQ 4 1 (brL L n x3).length]),jo1v]) (fun x3 => [(true,.cells true 1 ((brL L n x3).flatMap intC))]) (fun x3 => []) (fun x3 => (x3 <= Int.toNat m /\ firstN (shC L n m) x3 = x3)) (fun x3 => (Int.toNat m - x3)) (fun x3 => .go 2 (.answ [(0,.cells true 0 (jo12 L n x3))] (nI (dN L (shE L n + 2 * (x3 : Int)) m)) [(0,.cells true 0 (jok L n x3))] [] (.go 0 (.fork (.go 3 (.answ [(0,.cells true 0 (jok L n x3))] (nI (jos L n x3)) [(0,.cells true 0 (jo1f L n x3))] [] (.go 0 (.need (.go 3 (.slot 52 (nI ((x3 : Int) + 1)) jo1a)))))) (.go 1 (.keep (.again [(1,3),(2,4)])))))))))))))))))))))
 (newKW ((jo1u L n) : HT).n 3 0 (.cells true 0 [.iface (L.length + 1) (jo1 L),nI (shN L n m)]) (.agg #[slQ 1 1 (List.length (shF L n m).t),slQ 2 1 (List.length (shF L n m).b)]) [(true,.cells true 1 (inL (shF L n m).t)),(true,.cells true 1 (List.flatMap intC (shF L n m).b))]) = Rships L n m:=by kernel_rfl
abbrev joq (L : List Int) (n : Int) : List Value:=[.iface (L.length + 1) (jo1 L),nI (((n + 1) + 1) + 1)]
abbrev jon (L : List Int) (n : Int) : List Value:=[.iface (L.length + 1) (jo1 L),nI ((((n + 1) + 1) + 1) + 1)]
abbrev jo1b (L : List Int) (n : Int) : List Value:=[.iface (L.length + 1) (jo1 L),nI (((((n + 1) + 1) + 1) + 1) + 1)]
abbrev jo1k (L : List Int) (n : Int) : List Value:=[.iface (L.length + 1) (jo1 L),nI (n + 1 + 1 + 1 + 1 + 1)]
def Rrule (L : List Int) (n : Int) : Prop :=
 (((someR (.cells true 0 (jom L n))) /\ True) /\ (∀ H' : Heap,H'.length = 2 -> (H'[0]? = some (.cells true 0 (jom L n) : KObj) /\ True) -> KCall prog 71 [.pointer (some ⟨0,0,none⟩),nI 6] H' [0] (Is (nI (dN L n 6)) (List.set H' 0 (jo1d L n)))) /\ (((someR (.cells true 0 (jo7 L n))) /\ True) /\ (∀ H' : Heap,H'.length = 2 -> (H'[0]? = some (jo1d L n) /\ True) -> KCall prog 71 [.pointer (some ⟨0,0,none⟩),nI 40] H' [0] (Is (nI (dN L (n + 1) 40)) (List.set H' 0 (jo1e L n)))) /\ (((someR (.cells true 0 (jod L n))) /\ True) /\ (∀ H' : Heap,H'.length = 2 -> (H'[0]? = some (jo1e L n) /\ True) -> KCall prog 71 [.pointer (some ⟨0,0,none⟩),nI 4] H' [0] (Is (nI (dN L ((n + 1) + 1) 4)) (List.set H' 0 (.cells true 0 (joq L n) : KObj)))) /\ (((someR (.cells true 0 (joq L n))) /\ True) /\ (∀ H' : Heap,H'.length = 2 -> (H'[0]? = some (.cells true 0 (joq L n) : KObj) /\ True) -> KCall prog 71 [.pointer (some ⟨0,0,none⟩),nI 10] H' [0] (Is (nI (dN L (((n + 1) + 1) + 1) 10)) (List.set H' 0 (.cells true 0 (jon L n) : KObj)))) /\ (((someR (.cells true 0 (jon L n))) /\ True) /\ (∀ H' : Heap,H'.length = 2 -> (H'[0]? = some (.cells true 0 (jon L n) : KObj) /\ True) -> KCall prog 71 [.pointer (some ⟨0,0,none⟩),nI 100] H' [0] (Is (nI (dN L ((((n + 1) + 1) + 1) + 1) 100)) (List.set H' 0 (.cells true 0 (jo1b L n) : KObj)))) /\ (true = true /\ wk (.agg #[nI (dN L n 6),nI (dN L (n + 1) 40),nI (dN L ((n + 1) + 1) 4),nI (dN L (((n + 1) + 1) + 1) 10),nI (dN L ((((n + 1) + 1) + 1) + 1) 100)] : Value) (rn (sg 1 []) 3 (.agg #[nI (rlP L n).ov,nI (rlP L n).warn,nI (rlP L n).w0,nI (rlP L n).w1,nI (rlP L n).w2] : Value)) /\ ((some (.cells true 0 (jo1b L n) : KObj) = some (.cells true 0 (jo1k L n) : KObj) /\ belowO 1 (.cells true 0 (jo1k L n) : KObj) = true) /\ True) /\ (True)))))))
theorem Erule (L : List Int) (n : Int) : vF prog msk (dm 0) 100000 true 40 true 28 [.pointer (some ⟨0,0,none⟩)] (jo1u L n) (some [0])
 (.go 1 (.answ [(0,.cells true 0 (jom L n))] (nI (dN L n 6)) (jo1i L n) [] (.go 0 (.answ (jo1i L n) (nI (dN L (n + 1) 40)) [(0,.cells true 0 (jod L n))] [] (.go 0 (.answ [(0,.cells true 0 (jod L n))] (nI (dN L ((n + 1) + 1) 4)) [(0,.cells true 0 (joq L n))] [] (.go 0 (.answ [(0,.cells true 0 (joq L n))] (nI (dN L (((n + 1) + 1) + 1) 10)) [(0,.cells true 0 (jon L n))] [] (.go 0 (.answ [(0,.cells true 0 (jon L n))] (nI (dN L ((((n + 1) + 1) + 1) + 1) 100)) [(0,.cells true 0 (jo1b L n))] [] (.go 2 (.keep (.again [])))))))))))))
 (newKW ((jo1u L n) : HT).n 3 0 (.cells true 0 (jo1k L n)) (.agg #[nI (rlP L n).ov,nI (rlP L n).warn,nI (rlP L n).w0,nI (rlP L n).w1,nI (rlP L n).w2]) []) = Rrule L n:=by kernel_rfl
abbrev jo1g : List Value:=[.pointer (some ⟨0,0,none⟩),nI 15]
abbrev jo4 (f : Fleet) : Int:=(f.t.length : Nat)
abbrev jo6 (L : List Int) (n : Int) (m : Int) : Prop:=(.pointer (some ⟨0,0,none⟩) : Value) = .pointer (some ⟨0,0,none⟩) /\ (.pointer (some ⟨3,0,none⟩) : Value) = .pointer (some ⟨3,0,none⟩) /\ (.slice none 0 0 : Value) = .slice none 0 0 /\ (nI (dN L n (m + 1)) : Value) = nI (dN L n (m + 1)) /\ (nI (1 + (dN L (n + 1) 15)) : Value) = nI (1 + (dN L (n + 1) 15)) /\ True
abbrev jow (f : Fleet) : Prop:=(keptR 4 (.cells true 0 [slQ 1 2 f.t.length,slQ 2 2 f.b.length])) /\ True
abbrev jo0 (L : List Int) (n : Int) (f : Fleet) (x2 : Nat):=asS L n (jo4 f) x2
abbrev jo18 (L : List Int) (n : Int) (f : Fleet) (x2 : Nat) : List Value:=[.iface (L.length + 1) (jo1 L),nI (jo0 L n f x2).n]
abbrev jo1j (L : List Int) (n : Int) (f : Fleet) (x2 : Nat):=dN L (jo0 L n f x2).n (1 + (dN L (n + 1) 15))
abbrev joz (L : List Int) (n : Int) (f : Fleet) (x2 : Nat) : List Value:=[.iface (L.length + 1) (jo1 L),nI ((jo0 L n f x2).n + 1)]
abbrev jo1h : List Value:=[.pointer (some ⟨0,0,none⟩),nI 3]
abbrev jog (L : List Int) (n : Int) (f : Fleet) (x2 : Nat) : List Value:=[.iface (L.length + 1) (jo1 L),nI (((jo0 L n f x2).n + 1) + 1)]
abbrev joc (L : List Int) (n : Int) (f : Fleet) (x2 : Nat) : List Value:=[.iface (L.length + 1) (jo1 L),nI ((((jo0 L n f x2).n + 1) + 1) + 1)]
abbrev jo9 (L : List Int) (n : Int) (f : Fleet) (x2 : Nat) : List Value:=[.iface (L.length + 1) (jo1 L),nI (((((jo0 L n f x2).n + 1) + 1) + 1) + 1)]
abbrev jol (L : List Int) (n : Int) (f : Fleet) (x2 : Nat) : Prop:=∀ H' : Heap,H'.length = 5 -> (H'[0]? = some (.cells true 0 (joc L n f x2) : KObj) /\ True) -> KCall prog 71 [.pointer (some ⟨0,0,none⟩),nI (jo4 f)] H' [0] (Is (nI (dN L ((((jo0 L n f x2).n + 1) + 1) + 1) (jo4 f))) (List.set H' 0 (.cells true 0 (jo9 L n f x2) : KObj)))
abbrev jo8 (L : List Int) (n : Int) (f : Fleet) (x2 : Nat) : List Value:=[.iface (L.length + 1) (jo1 L),nI ((((((jo0 L n f x2).n + 1) + 1) + 1) + 1) + 1)]
abbrev jo11 (L : List Int) (n : Int) (f : Fleet) (x2 : Nat):=dN L ((((((jo0 L n f x2).n + 1) + 1) + 1) + 1) + 1) 15
abbrev joa (L : List Int) (n : Int) (f : Fleet) (x2 : Nat) : List Value:=[.iface (L.length + 1) (jo1 L),nI (((((((jo0 L n f x2).n + 1) + 1) + 1) + 1) + 1) + 1)]
abbrev jov (L : List Int) (n : Int) (f : Fleet) (x2 : Nat):=dN L (((((((jo0 L n f x2).n + 1) + 1) + 1) + 1) + 1) + 1) 3
abbrev jo16 (L : List Int) (n : Int) (f : Fleet) (x2 : Nat) : List Value:=[.iface (L.length + 1) (jo1 L),nI ((((((((jo0 L n f x2).n + 1) + 1) + 1) + 1) + 1) + 1) + 1)]
abbrev jo10 (L : List Int) (n : Int) (f : Fleet) (x2 : Nat):=List.length (jo0 L n f x2).l
abbrev jo2 (x2 : Nat) (L : List Int) (n : Int) (f : Fleet) : List Value:=[nI (Int.tmod (7 * (x2 : Int)) 31),nI ((jo0 L n f x2).h + (jo1j L n f x2)),nI (dN L ((((jo0 L n f x2).n + 1) + 1) + 1) (jo4 f)),nI (dN L (((((jo0 L n f x2).n + 1) + 1) + 1) + 1) (jo4 f)),nI (1 + (jo11 L n f x2)),nI (1 + (jov L n f x2)),nI (1 + (dN L (((jo0 L n f x2).n + 1) + 1) 60))]
abbrev joi (x2 : Nat) (x2' : Nat) (L : List Int) (n : Int) (f : Fleet) (m : Int) : Prop:=(nI ((x2 : Int) + 1) : Value) = nI (x2' : Int) /\ (nI ((jo0 L n f x2).h + (jo1j L n f x2)) : Value) = nI (asS L n (jo4 f) x2').h /\ wk (.slice (some ⟨6,0,none⟩) ((jo10 L n f x2) + 1) ((jo10 L n f x2) + 1) : Value) (slQ 6 1 (List.length (asS L n (jo4 f) x2').l) : Value) /\ jo6 L n m
abbrev jor (L : List Int) (n : Int) (f : Fleet) (x2' : Nat) : KObj:=.cells true 0 [.iface (L.length + 1) (jo1 L),nI (asS L n (jo4 f) x2').n]
abbrev jo19 (L : List Int) (n : Int) (f : Fleet) (x2' : Nat) : KObj:=.cells true 7 (List.flatMap rqC (asS L n (jo4 f) x2').l)
abbrev jo1c (L : List Int) (n : Int) (f : Fleet) (x2 : Nat):=dN L (((((jo0 L n f x2).n + 1) + 1) + 1) + 1) 15
abbrev jo14 (L : List Int) (n : Int) (f : Fleet) (x2 : Nat):=dN L ((((((jo0 L n f x2).n + 1) + 1) + 1) + 1) + 1) 3
abbrev jo5 (x2 : Nat) (L : List Int) (n : Int) (f : Fleet) : List Value:=[nI (Int.tmod (7 * (x2 : Int)) 31),nI ((jo0 L n f x2).h + (jo1j L n f x2)),nI (dN L (((jo0 L n f x2).n + 1) + 1) (jo4 f)),nI (dN L ((((jo0 L n f x2).n + 1) + 1) + 1) (jo4 f)),nI (1 + (jo1c L n f x2)),nI (1 + (jo14 L n f x2)),nI 0]
def Rasks (L : List Int) (n : Int) (f : Fleet) (m : Int) : Prop :=
 ((nI (IntKind.wrap .i64 (m + 1)) : Value) = nI (m + 1) /\ (((someR (.cells true 0 (jom L n))) /\ True) /\ (∀ H' : Heap,H'.length = 4 -> (H'[0]? = some (.cells true 0 (jom L n) : KObj) /\ True) -> KCall prog 71 [.pointer (some ⟨0,0,none⟩),nI (m + 1)] H' [0] (Is (nI (dN L n (m + 1))) (List.set H' 0 (jo1d L n)))) /\ (((someR (.cells true 0 (jo7 L n))) /\ True) /\ (∀ H' : Heap,H'.length = 4 -> (H'[0]? = some (jo1d L n) /\ True) -> KCall prog 71 jo1g H' [0] (Is (nI (dN L (n + 1) 15)) (List.set H' 0 (jo1e L n)))) /\ ((nI (IntKind.wrap .i64 (1 + (dN L (n + 1) 15))) : Value) = nI (1 + (dN L (n + 1) 15)) /\ (true = true /\ (0 <= asK L n m) /\ (true = true /\ ((nI 0 : Value) = nI jo17 /\ (nI 0 : Value) = nI (asS L n (jo4 f) 0).h /\ wk (.slice none 0 0 : Value) (slQ 0 1 (List.length (asS L n (jo4 f) 0).l) : Value) /\ jo6 L n m) /\ ((some (jo1e L n) = some (.cells true 0 [.iface (L.length + 1) (jo1 L),nI (asS L n (jo4 f) 0).n] : KObj) /\ belowO 4 (.cells true 0 [.iface (L.length + 1) (jo1 L),nI (asS L n (jo4 f) 0).n] : KObj) = true) /\ jow f) /\ jo1l) /\ (∀ x2 : Nat,true = true) /\ ∀ x2 : Nat,(x2 <= asK L n m) -> (((decide (((x2 : Int) : Int) < (dN L n (m + 1)))) = true -> (((someR (.cells true 0 (jo18 L n f x2))) /\ True) /\ (∀ H' : Heap,H'.length = 5 -> (H'[0]? = some (.cells true 0 (jo18 L n f x2) : KObj) /\ True) -> KCall prog 71 [.pointer (some ⟨0,0,none⟩),nI (1 + (dN L (n + 1) 15))] H' [0] (Is (nI (jo1j L n f x2)) (List.set H' 0 (.cells true 0 (joz L n f x2) : KObj)))) /\ ((nI (IntKind.wrap .i64 ((jo0 L n f x2).h + (jo1j L n f x2))) : Value) = nI ((jo0 L n f x2).h + (jo1j L n f x2)) /\ (((someR (.cells true 0 (joz L n f x2))) /\ True) /\ (∀ H' : Heap,H'.length = 5 -> (H'[0]? = some (.cells true 0 (joz L n f x2) : KObj) /\ True) -> KCall prog 71 jo1h H' [0] (Is (nI (dN L ((jo0 L n f x2).n + 1) 3)) (List.set H' 0 (.cells true 0 (jog L n f x2) : KObj)))) /\ (((((dN L ((jo0 L n f x2).n + 1) 3) : Int) == 0) = true -> (((someR (.cells true 0 (jog L n f x2))) /\ True) /\ (∀ H' : Heap,H'.length = 5 -> (H'[0]? = some (.cells true 0 (jog L n f x2) : KObj) /\ True) -> KCall prog 71 [.pointer (some ⟨0,0,none⟩),nI 60] H' [0] (Is (nI (dN L (((jo0 L n f x2).n + 1) + 1) 60)) (List.set H' 0 (.cells true 0 (joc L n f x2) : KObj)))) /\ ((nI (IntKind.wrap .i64 (1 + (dN L (((jo0 L n f x2).n + 1) + 1) 60))) : Value) = nI (1 + (dN L (((jo0 L n f x2).n + 1) + 1) 60)) /\ ((nI (IntKind.wrap .i64 (7 * (x2 : Int))) : Value) = nI (7 * (x2 : Int)) /\ (((someR (.cells true 0 (joc L n f x2))) /\ True) /\ (jol L n f x2) /\ (((someR (.cells true 0 (jo9 L n f x2))) /\ True) /\ (∀ H' : Heap,H'.length = 5 -> (H'[0]? = some (.cells true 0 (jo9 L n f x2) : KObj) /\ True) -> KCall prog 71 [.pointer (some ⟨0,0,none⟩),nI (jo4 f)] H' [0] (Is (nI (dN L (((((jo0 L n f x2).n + 1) + 1) + 1) + 1) (jo4 f))) (List.set H' 0 (.cells true 0 (jo8 L n f x2) : KObj)))) /\ (((someR (.cells true 0 (jo8 L n f x2))) /\ True) /\ (∀ H' : Heap,H'.length = 5 -> (H'[0]? = some (.cells true 0 (jo8 L n f x2) : KObj) /\ True) -> KCall prog 71 jo1g H' [0] (Is (nI (jo11 L n f x2)) (List.set H' 0 (.cells true 0 (joa L n f x2) : KObj)))) /\ ((nI (IntKind.wrap .i64 (1 + (jo11 L n f x2))) : Value) = nI (1 + (jo11 L n f x2)) /\ (((someR (.cells true 0 (joa L n f x2))) /\ True) /\ (∀ H' : Heap,H'.length = 5 -> (H'[0]? = some (.cells true 0 (joa L n f x2) : KObj) /\ True) -> KCall prog 71 jo1h H' [0] (Is (nI (jov L n f x2)) (List.set H' 0 (.cells true 0 (jo16 L n f x2) : KObj)))) /\ ((nI (IntKind.wrap .i64 (1 + (jov L n f x2))) : Value) = nI (1 + (jov L n f x2)) /\ ((((jo10 L n f x2) + 1) * 56 <= 2 ^ 44 /\ 1 ≠ 0 /\ ((jo10 L n f x2) <= (jo10 L n f x2) /\ 0 + (jo10 L n f x2) * 7 <= List.length (List.flatMap rqC (jo0 L n f x2).l)) /\ (1 <= 1 /\ 0 + 1 * 7 <= List.length (jo2 x2 L n f)) /\ ((((jo2 x2 L n f).drop 0).take (1 * 7)) : List Value).all (fun v => one1 v) = true) /\ true = true /\ ((jo1p x2) = nI ((x2 : Int) + 1) /\ (∃ x2' : Nat,(x2' <= asK L n m) /\ (asK L n m - x2') < (asK L n m - x2) /\ true = true /\ (joi x2 x2' L n f m) /\ ((some (.cells true 0 (jo16 L n f x2) : KObj) = some (jor L n f x2') /\ belowO 4 (jor L n f x2') = true) /\ jow f) /\ ((some (.cells true 7 ((((List.flatMap rqC (jo0 L n f x2).l).drop 0).take ((jo10 L n f x2) * 7)) ++ (((jo2 x2 L n f).drop 0).take (1 * 7))) : KObj) = some (jo19 L n f x2') /\ belowO 4 (jo19 L n f x2') = true) /\ True) /\ (True)))))))))))))) /\ ((((dN L ((jo0 L n f x2).n + 1) 3) : Int) == 0) = false -> ((nI (IntKind.wrap .i64 (7 * (x2 : Int))) : Value) = nI (7 * (x2 : Int)) /\ (((someR (.cells true 0 (jog L n f x2))) /\ True) /\ (∀ H' : Heap,H'.length = 5 -> (H'[0]? = some (.cells true 0 (jog L n f x2) : KObj) /\ True) -> KCall prog 71 [.pointer (some ⟨0,0,none⟩),nI (jo4 f)] H' [0] (Is (nI (dN L (((jo0 L n f x2).n + 1) + 1) (jo4 f))) (List.set H' 0 (.cells true 0 (joc L n f x2) : KObj)))) /\ (((someR (.cells true 0 (joc L n f x2))) /\ True) /\ (jol L n f x2) /\ (((someR (.cells true 0 (jo9 L n f x2))) /\ True) /\ (∀ H' : Heap,H'.length = 5 -> (H'[0]? = some (.cells true 0 (jo9 L n f x2) : KObj) /\ True) -> KCall prog 71 jo1g H' [0] (Is (nI (jo1c L n f x2)) (List.set H' 0 (.cells true 0 (jo8 L n f x2) : KObj)))) /\ ((nI (IntKind.wrap .i64 (1 + (jo1c L n f x2))) : Value) = nI (1 + (jo1c L n f x2)) /\ (((someR (.cells true 0 (jo8 L n f x2))) /\ True) /\ (∀ H' : Heap,H'.length = 5 -> (H'[0]? = some (.cells true 0 (jo8 L n f x2) : KObj) /\ True) -> KCall prog 71 jo1h H' [0] (Is (nI (jo14 L n f x2)) (List.set H' 0 (.cells true 0 (joa L n f x2) : KObj)))) /\ ((nI (IntKind.wrap .i64 (1 + (jo14 L n f x2))) : Value) = nI (1 + (jo14 L n f x2)) /\ ((((jo10 L n f x2) + 1) * 56 <= 2 ^ 44 /\ 1 ≠ 0 /\ ((jo10 L n f x2) <= (jo10 L n f x2) /\ 0 + (jo10 L n f x2) * 7 <= List.length (List.flatMap rqC (jo0 L n f x2).l)) /\ (1 <= 1 /\ 0 + 1 * 7 <= List.length (jo5 x2 L n f)) /\ ((((jo5 x2 L n f).drop 0).take (1 * 7)) : List Value).all (fun v => one1 v) = true) /\ true = true /\ ((jo1p x2) = nI ((x2 : Int) + 1) /\ (∃ x2' : Nat,(x2' <= asK L n m) /\ (asK L n m - x2') < (asK L n m - x2) /\ true = true /\ (joi x2 x2' L n f m) /\ ((some (.cells true 0 (joa L n f x2) : KObj) = some (jor L n f x2') /\ belowO 4 (jor L n f x2') = true) /\ jow f) /\ ((some (.cells true 7 ((((List.flatMap rqC (jo0 L n f x2).l).drop 0).take ((jo10 L n f x2) * 7)) ++ (((jo5 x2 L n f).drop 0).take (1 * 7))) : KObj) = some (jo19 L n f x2') /\ belowO 4 (jo19 L n f x2') = true) /\ True) /\ (True))))))))))))))))) /\ ((decide (((x2 : Int) : Int) < (dN L n (m + 1)))) = false -> (true = true /\ wk (slQ 4 1 (jo10 L n f x2) : Value) (rn (sg 3 [(3,4)]) 3 (slQ 3 1 (asL L n m (jo4 f)).length : Value)) /\ ((some (.cells true 0 (jo18 L n f x2) : KObj) = some (.cells true 0 [.iface (L.length + 1) (jo1 L),nI (asN L n m (jo4 f))] : KObj) /\ belowO 3 (.cells true 0 [.iface (L.length + 1) (jo1 L),nI (asN L n m (jo4 f))] : KObj) = true) /\ True) /\ ((some (.cells true 7 (List.flatMap rqC (jo0 L n f x2).l) : KObj) = some (.cells true 7 ((asL L n m (jo4 f)).flatMap rqC) : KObj) /\ belowO 3 (.cells true 7 ((asL L n m (jo4 f)).flatMap rqC) : KObj) = true) /\ True)))))))))
theorem Easks (L : List Int) (n : Int) (f : Fleet) (m : Int) : vF prog msk (dm 0) 100000 true 40 true 27 [.pointer (some ⟨0,0,none⟩),.agg #[slQ 1 2 f.t.length,slQ 2 2 f.b.length],nI m] (readsW 0 0 (digC L n) [inL f.t,f.b.flatMap intC]) (some [0])
 (.go 5 (.slot 15 (nI (m + 1)) (.answ [(0,.cells true 0 (jom L n))] (nI (dN L n (m + 1))) (jo1i L n) [] (.go 1 (.answ (jo1i L n) (nI (dN L (n + 1) 15)) [(0,.cells true 0 (jod L n))] [] (.go 0 (.slot 19 (nI (1 + (dN L (n + 1) 15))) (.go 2 (.inv 3 (Nat) (0) [] [0,3] (fun x2 => [(11,nI (x2 : Int)),(10,nI (jo0 L n f x2).h),(7,slQ 4 1 (jo10 L n f x2)),jo15,(4,.pointer (some ⟨3,0,none⟩)),(6,.slice none 0 0),(8,nI (dN L n (m + 1))),(9,nI (1 + (dN L (n + 1) 15)))]) (fun x2 => [(0,true,.cells true 0 (jo18 L n f x2)),(3,true,.cells true 0 [slQ 1 2 f.t.length,slQ 2 2 f.b.length])]) (fun x2 => [(true,.cells true 7 (List.flatMap rqC (jo0 L n f x2).l))]) (fun x2 => []) (fun x2 => (x2 <= asK L n m)) (fun x2 => (asK L n m - x2)) (fun x2 => .go 2 (.fork (.go 2 (.answ [(0,.cells true 0 (jo18 L n f x2))] (nI (jo1j L n f x2)) [(0,.cells true 0 (joz L n f x2))] [] (.go 0 (.slot 29 (nI ((jo0 L n f x2).h + (jo1j L n f x2))) (.go 2 (.answ [(0,.cells true 0 (joz L n f x2))] (nI (dN L ((jo0 L n f x2).n + 1) 3)) [(0,.cells true 0 (jog L n f x2))] [] (.go 0 (.fork (.go 0 (.answ [(0,.cells true 0 (jog L n f x2))] (nI (dN L (((jo0 L n f x2).n + 1) + 1) 60)) [(0,.cells true 0 (joc L n f x2))] [] (.go 0 (.slot 35 (nI (1 + (dN L (((jo0 L n f x2).n + 1) + 1) 60))) (.go 3 (.slot 38 (nI (7 * (x2 : Int))) (.go 12 (.answ [(0,.cells true 0 (joc L n f x2))] (nI (dN L ((((jo0 L n f x2).n + 1) + 1) + 1) (jo4 f))) [(0,.cells true 0 (jo9 L n f x2))] [] (.answ [(0,.cells true 0 (jo9 L n f x2))] (nI (dN L (((((jo0 L n f x2).n + 1) + 1) + 1) + 1) (jo4 f))) [(0,.cells true 0 (jo8 L n f x2))] [] (.answ [(0,.cells true 0 (jo8 L n f x2))] (nI (jo11 L n f x2)) [(0,.cells true 0 (joa L n f x2))] [] (.go 0 (.slot 53 (nI (1 + (jo11 L n f x2))) (.answ [(0,.cells true 0 (joa L n f x2))] (nI (jov L n f x2)) [(0,.cells true 0 (jo16 L n f x2))] [] (.go 0 (.slot 56 (nI (1 + (jov L n f x2))) (.go 1 (.need (.go 2 (.slot 24 (nI ((x2 : Int) + 1)) jo1a))))))))))))))))))) (.go 2 (.slot 38 (nI (7 * (x2 : Int))) (.go 12 (.answ [(0,.cells true 0 (jog L n f x2))] (nI (dN L (((jo0 L n f x2).n + 1) + 1) (jo4 f))) [(0,.cells true 0 (joc L n f x2))] [] (.answ [(0,.cells true 0 (joc L n f x2))] (nI (dN L ((((jo0 L n f x2).n + 1) + 1) + 1) (jo4 f))) [(0,.cells true 0 (jo9 L n f x2))] [] (.answ [(0,.cells true 0 (jo9 L n f x2))] (nI (jo1c L n f x2)) [(0,.cells true 0 (jo8 L n f x2))] [] (.go 0 (.slot 53 (nI (1 + (jo1c L n f x2))) (.answ [(0,.cells true 0 (jo8 L n f x2))] (nI (jo14 L n f x2)) [(0,.cells true 0 (joa L n f x2))] [] (.go 0 (.slot 56 (nI (1 + (jo14 L n f x2))) (.go 1 (.need (.go 2 (.slot 24 (nI ((x2 : Int) + 1)) jo1a))))))))))))))))))))))) (.go 1 (.keep (.again [(3,4)]))))))))))))))
 (newKW ((readsW 0 0 (digC L n) [inL f.t,f.b.flatMap intC]) : HT).n 3 0 (.cells true 0 [.iface (L.length + 1) (jo1 L),nI (asN L n m (jo4 f))]) (slQ 3 1 (asL L n m (jo4 f)).length) [(true,.cells true 7 ((asL L n m (jo4 f)).flatMap rqC))]) = Rasks L n f m:=by kernel_rfl
end
end Go.Proofs.YthdekmpkioikdaaGreat
