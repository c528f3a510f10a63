/- Request: one decision of the program's run of a policy. No condition. -/
import Derived.Test.YthdekmpkioikdaaGreatR19
import Derived.Test.YthdekmpkioikdaaGreatGR18gxR18h
import Derived.Test.YthdekmpkioikdaaGreatGZ6xR19f
namespace Go.Proofs.YthdekmpkioikdaaGreat
open Go Go.K
set_option maxRecDepth 100000
set_option linter.unusedVariables false
set_option linter.unusedSimpArgs false
noncomputable section
attribute [local irreducible] vF
theorem insC {H : Heap} {σ : Nat -> Option Nat} {i : Nat} {is : List Nat} {c : List Value} {cs : List (List Value)} {o : Bool} {z : Nat} (h : c.all (belowC 0) = true) (e : H[i]? = some (.cells o z c)) (r : InsA H σ is cs) : InsA H σ (i :: is) (c :: cs) :=
 ⟨⟨o, z, by rw [(rnCl (d := 0) h).1]; exact e⟩, r⟩
theorem insP {H : Heap} {σ : Nat -> Option Nat} {i : Nat} {is : List Nat} {c c2 : List Value} {cs : List (List Value)} {o : Bool} {z : Nat} (h : c.map (rn σ 3) = c2) (e : H[i]? = some (.cells o z c2)) (r : InsA H σ is cs) : InsA H σ (i :: is) (c :: cs) :=
 ⟨⟨o, z, by rw [h]; exact e⟩, r⟩
theorem kDel0 (M : List Int) (k : Nat) (f : Fleet) (l : List Rq) (X Y : List Int) (hr : Int) (hk : k <= M.length) (hM : M.length <= 4294967296) (hin : ∀ i, i < k -> 0 <= M.getD i 0 /\ M.getD i 0 < (l.length : Int)) {H : Heap} {D : Nat} (hD : H[D]? = some (.cells true 1 (M.flatMap intC))) {ids : List Nat} (hi : InsA H (sgRW 0 D ids) ids (ctB f l X Y hr)) (hne : D ∉ ids) {args' : List Value} (ha : [slQ 0 2 k, .func (.func 123) #[] #[pT 7, pT 8]].map (rn (sgRW 0 D ids) 3) = args') :
  KCall prog 122 args' H [D] (Is (slQ D 2 (keepP (qAt l hr) M k).length) (H.set D (.cells true 1 ((delP (qAt l hr) M k).flatMap intC)))) :=
 valG (Eq.mpr (EDel0 M k f l X Y hr) (hvDel0 M k f l X Y hr hk hM hin)) (plainIL 0 _) (plainIL 0 _) hD hi hne ha
theorem kDel1 (M : List Int) (k : Nat) (f : Fleet) (l : List Rq) (X Y : List Int) (hr : Int) (p : Pol) (ov : List Int) (hk : k <= M.length) (hM : M.length <= 4294967296) (hin : ∀ i, i < k -> 0 <= M.getD i 0 /\ M.getD i 0 < (l.length : Int)) (hov : ov.length = l.length) {H : Heap} {D : Nat} (hD : H[D]? = some (.cells true 1 (M.flatMap intC))) {ids : List Nat} (hi : InsA H (sgRW 0 D ids) ids (ctC f l X Y hr p ov 0)) (hne : D ∉ ids) {args' : List Value} (ha : [slQ 0 2 k, .func (.func 125) #[] #[pT 15]].map (rn (sgRW 0 D ids) 3) = args') :
  KCall prog 122 args' H [D] (Is (slQ D 2 (keepP (ofV p l ov hr 0) M k).length) (H.set D (.cells true 1 ((delP (ofV p l ov hr 0) M k).flatMap intC)))) :=
 valG (Eq.mpr (EDel1 M k f l X Y hr p ov) (hvDel1 M k f l X Y hr p ov hk hM hin hov)) (plainIL 0 _) (plainIL 0 _) hD hi hne ha
theorem kDel2 (M : List Int) (k : Nat) (f : Fleet) (l : List Rq) (X Y : List Int) (hr : Int) (p : Pol) (ov : List Int) (hk : k <= M.length) (hM : M.length <= 4294967296) (hin : ∀ i, i < k -> 0 <= M.getD i 0 /\ M.getD i 0 < (l.length : Int)) (hb : ∀ i, i < l.length -> 0 <= (l.getD i zeroQ).at_ /\ (l.getD i zeroQ).at_ <= 10000 /\ 0 <= (l.getD i zeroQ).limit /\ (l.getD i zeroQ).limit <= 10000 /\ 1 <= (l.getD i zeroQ).prio /\ (l.getD i zeroQ).prio <= 3) (hhr : -1000000000 <= hr /\ hr <= 1000000000) {H : Heap} {D : Nat} (hD : H[D]? = some (.cells true 1 (M.flatMap intC))) {ids : List Nat} (hi : InsA H (sgRW 0 D ids) ids (ctC f l X Y hr p ov 1)) (hne : D ∉ ids) {args' : List Value} (ha : [slQ 0 2 k, .func (.func 125) #[] #[pT 15]].map (rn (sgRW 0 D ids) 3) = args') :
  KCall prog 122 args' H [D] (Is (slQ D 2 (keepP (ofV p l ov hr 1) M k).length) (H.set D (.cells true 1 ((delP (ofV p l ov hr 1) M k).flatMap intC)))) :=
 valG (Eq.mpr (EDel2 M k f l X Y hr p ov) (hvDel2 M k f l X Y hr p ov hk hM hin (fun i hi => ⟨(hb i hi).1, (hb i hi).2.1, (hb i hi).2.2.1, (hb i hi).2.2.2.1⟩) hhr)) (plainIL 0 _) (plainIL 0 _) hD hi hne ha
theorem kDel3 (M : List Int) (k : Nat) (f : Fleet) (l : List Rq) (X Y : List Int) (hr : Int) (p : Pol) (ov : List Int) (hk : k <= M.length) (hM : M.length <= 4294967296) (hin : ∀ i, i < k -> 0 <= M.getD i 0 /\ M.getD i 0 < (l.length : Int)) {H : Heap} {D : Nat} (hD : H[D]? = some (.cells true 1 (M.flatMap intC))) {ids : List Nat} (hi : InsA H (sgRW 0 D ids) ids (ctC f l X Y hr p ov 2)) (hne : D ∉ ids) {args' : List Value} (ha : [slQ 0 2 k, .func (.func 125) #[] #[pT 15]].map (rn (sgRW 0 D ids) 3) = args') :
  KCall prog 122 args' H [D] (Is (slQ D 2 (keepP (ofV p l ov hr 2) M k).length) (H.set D (.cells true 1 ((delP (ofV p l ov hr 2) M k).flatMap intC)))) :=
 valG (Eq.mpr (EDel3 M k f l X Y hr p ov) (hvDel3 M k f l X Y hr p ov hk hM hin)) (plainIL 0 _) (plainIL 0 _) hD hi hne ha
theorem kDel4 (M : List Int) (k : Nat) (i : Int) (hk : k <= M.length) (hM : M.length <= 4294967296) (hin : ∀ i, i < k -> -1 <= M.getD i 0) {H : Heap} {D : Nat} (hD : H[D]? = some (.cells true 1 (M.flatMap intC))) {ids : List Nat} (hi : InsA H (sgRW 0 D ids) ids [[nI i]]) (hne : D ∉ ids) {args' : List Value} (ha : [slQ 0 2 k, .func (.func 130) #[] #[pT 1]].map (rn (sgRW 0 D ids) 3) = args') :
  KCall prog 122 args' H [D] (Is (slQ D 2 (keepP (qNe i) M k).length) (H.set D (.cells true 1 ((delP (qNe i) M k).flatMap intC)))) :=
 valG (Eq.mpr (EDel4 M k i) (hvDel4 M k i hk hM hin)) (plainIL 0 _) (plainIL 0 _) hD hi hne ha
theorem kBst0 (M : List Int) (k : Nat) (f : Fleet) (l : List Rq) (X Y : List Int) (h0 : 0 < k) (hk : k <= M.length) (hM : M.length <= 4294967296) (hin : ∀ i, i < k -> 0 <= M.getD i 0 /\ M.getD i 0 < (l.length : Int)) {H : Heap} {ids : List Nat} (hi : InsA H (sgR 0 ids) ids ((M.flatMap intC) :: ctA f l X Y)) {args' : List Value} (ha : [slQ 0 2 k, .func (.func 120) #[pT 6] #[]].map (rn (sgR 0 ids) 3) = args') :
  KCall prog 119 args' H [] (Is (nI (bstP (cmpL l) M (k - 1))) H) :=
 valB (Eq.mpr (EBst0 _ M k f l X Y) (hvBst0 M k f l X Y h0 hk hM hin)) rfl (hi := hi) (ha := ha)
theorem kBst1 (M : List Int) (k : Nat) (f : Fleet) (l : List Rq) (X Y : List Int) (hr : Int) (p : Pol) (ov : List Int) (h0 : 0 < k) (hk : k <= M.length) (hM : M.length <= 4294967296) (hin : ∀ i, i < k -> 0 <= M.getD i 0 /\ M.getD i 0 < (l.length : Int)) {H : Heap} {ids : List Nat} (hi : InsA H (sgR 0 ids) ids ((M.flatMap intC) :: ctC f l X Y hr p ov 0)) {args' : List Value} (ha : [slQ 0 2 k, .func (.func 126) #[] #[pT 15, pT 7]].map (rn (sgR 0 ids) 3) = args') :
  KCall prog 119 args' H [] (Is (nI (bstP (cmpV l 0) M (k - 1))) H) :=
 valB (Eq.mpr (EBst1 _ M k f l X Y hr p ov) (hvBst1 M k f l X Y hr p ov h0 hk hM hin)) rfl (hi := hi) (ha := ha)
theorem kBst2 (M : List Int) (k : Nat) (f : Fleet) (l : List Rq) (X Y : List Int) (hr : Int) (p : Pol) (ov : List Int) (h0 : 0 < k) (hk : k <= M.length) (hM : M.length <= 4294967296) (hin : ∀ i, i < k -> 0 <= M.getD i 0 /\ M.getD i 0 < (l.length : Int)) (hb : ∀ i, i < l.length -> 0 <= (l.getD i zeroQ).at_ /\ (l.getD i zeroQ).at_ <= 10000 /\ 0 <= (l.getD i zeroQ).limit /\ (l.getD i zeroQ).limit <= 10000 /\ 1 <= (l.getD i zeroQ).prio /\ (l.getD i zeroQ).prio <= 3) {H : Heap} {ids : List Nat} (hi : InsA H (sgR 0 ids) ids ((M.flatMap intC) :: ctC f l X Y hr p ov 1)) {args' : List Value} (ha : [slQ 0 2 k, .func (.func 126) #[] #[pT 15, pT 7]].map (rn (sgR 0 ids) 3) = args') :
  KCall prog 119 args' H [] (Is (nI (bstP (cmpV l 1) M (k - 1))) H) :=
 valB (Eq.mpr (EBst2 _ M k f l X Y hr p ov) (hvBst2 M k f l X Y hr p ov h0 hk hM hin hb)) rfl (hi := hi) (ha := ha)
theorem kBst3 (M : List Int) (k : Nat) (f : Fleet) (l : List Rq) (X Y : List Int) (hr : Int) (p : Pol) (ov : List Int) (h0 : 0 < k) (hk : k <= M.length) (hM : M.length <= 4294967296) (hin : ∀ i, i < k -> 0 <= M.getD i 0 /\ M.getD i 0 < (l.length : Int)) (hb : ∀ i, i < l.length -> 0 <= (l.getD i zeroQ).at_ /\ (l.getD i zeroQ).at_ <= 10000 /\ 0 <= (l.getD i zeroQ).limit /\ (l.getD i zeroQ).limit <= 10000 /\ 1 <= (l.getD i zeroQ).prio /\ (l.getD i zeroQ).prio <= 3) {H : Heap} {ids : List Nat} (hi : InsA H (sgR 0 ids) ids ((M.flatMap intC) :: ctC f l X Y hr p ov 2)) {args' : List Value} (ha : [slQ 0 2 k, .func (.func 126) #[] #[pT 15, pT 7]].map (rn (sgR 0 ids) 3) = args') :
  KCall prog 119 args' H [] (Is (nI (bstP (cmpV l 2) M (k - 1))) H) :=
 valB (Eq.mpr (EBst3 _ M k f l X Y hr p ov) (hvBst3 M k f l X Y hr p ov h0 hk hM hin hb)) rfl (hi := hi) (ha := ha)
theorem bnds {f : Fleet} {l : List Rq} (ol : LsOk f.t.length l) : ∀ i, i < l.length -> 0 <= (l.getD i zeroQ).at_ /\ (l.getD i zeroQ).at_ <= 10000 /\ 0 <= (l.getD i zeroQ).limit /\ (l.getD i zeroQ).limit <= 10000 /\ 1 <= (l.getD i zeroQ).prio /\ (l.getD i zeroQ).prio <= 3 := fun i hi =>
 ⟨(ol.ok i hi).at_.1, (ol.ok i hi).at_.2, (ol.ok i hi).limit.1, (ol.ok i hi).limit.2, (ol.ok i hi).prio.1, (ol.ok i hi).prio.2⟩
theorem plQ {l : List Rq} {k : Nat} (h : k < l.length) {off : Nat} (ho : off = k * 7 + 2) : (l.flatMap rqC)[off]? = some (.int .i64 (l.getD k zeroQ).place) := cell_at (n := 7) (d := zeroQ) (c := 2) rqC_len h ho rfl
theorem plH_snoc (f : Fleet) (l : List Rq) (h : List Sv) (s : Sv) : plH f l (h ++ [s]) (h.length + 1) = (plH f l h h.length).set (Int.toNat s.br) (rqAt l s.rq).dest := by
 show (plH f l (h ++ [s]) h.length).set _ _ = _
 rw [plH_app f l h s _ (Nat.le_refl _), svAt_r]
theorem wt_le (f : Fleet) (l : List Rq) (h : List Sv) : (wtN f l h).length <= (opL l h).length := keepP_le ..
theorem wtB_len (f : Fleet) (l : List Rq) (h : List Sv) : (wtB f l h).length = (opL l h).length := delP_len (Nat.le_refl _)
theorem wtB_take (f : Fleet) (l : List Rq) (h : List Sv) : (wtB f l h).take (wtN f l h).length = wtN f l h := delP_take
theorem sm_le (f : Fleet) (p : Pol) (l : List Rq) (h : List Sv) (X : Nat) : (smN f p l h X).length <= (wtN f l h).length := keepP_le ..
theorem smB_len (f : Fleet) (p : Pol) (l : List Rq) (h : List Sv) (X : Nat) : (smB f p l h X).length = (wtN f l h).length := delP_len (Nat.le_refl _)
theorem op_in (l : List Rq) (h : List Sv) : ∀ i, i < (opL l h).length -> 0 <= (opL l h).getD i 0 /\ (opL l h).getD i 0 < (l.length : Int) := fun i hi => (op_at hi).1
theorem wt_in (f : Fleet) (l : List Rq) (h : List Sv) : ∀ i, i < (wtN f l h).length -> 0 <= (wtN f l h).getD i 0 /\ (wtN f l h).getD i 0 < (l.length : Int) := fun i hi => (mem_op.1 (mem_wt.1 (getD_mem (d := 0) hi)).1).1
theorem smB_in (f : Fleet) (p : Pol) (l : List Rq) (h : List Sv) (X : Nat) : ∀ i, i < (smN f p l h X).length -> 0 <= (smB f p l h X).getD i 0 /\ (smB f p l h X).getD i 0 < (l.length : Int) := fun i hi => by
 rw [show (smB f p l h X).getD i 0 = (smN f p l h X).getD i 0 from delP_at hi]
 exact (mem_op.1 (mem_wt.1 (mem_sm.1 (getD_mem (d := 0) hi)).1).1).1
set_option maxHeartbeats 8000000 in
theorem runBody (f : Fleet) (p : Pol) (l : List Rq) (h : List Sv) (o : FlOk f) (ol : LsOk f.t.length l) (i : RunI f p l h) : RBody f p l h := by
 have l30 := ol.len
 have b3 := o.b2
 have b1 := o.b1
 have opl := op_le l h
 have wtl := wt_le f l h
 have sm0 := sm_le f p l h 0
 have sm1 := sm_le f p l h 1
 have sm2 := sm_le f p l h 2
 delta RBody jj3f jj4e jj48 jj2e jjv jj21 jjb jj4c jjw jja jj3v jj1z jj39 jj4j jji jj22 jj3h jjs jjx jjn jj1l jj29 jjt jjq jjl jj1k jj24 jj1q jj1m jj2m jjc jjk jj3x jj3t jj3j jj1t jj3 jj3d jj49 jjr jj1i jj16 jj6 jj2q jj5 jjf jj18 jj1j jj1h jj3u jjm jj36 jju jj20 jjh jjy jj2l jjj jj1r jj1e jj13 jjd jj10 jj15 jjz jj9 jje jj19 jj27 jj1x jj23 jj2t jj28 jj2d jj1v jj4i jj3e jj4l jj4a jj4f jj2f jj1 jj12 jj2a jj11 jj25 jj2 jj1a jj1b jj1p jj2b jj1n jj26 jj4 jj1c jj1d
 intro hd0
 have d : 0 < (opL l h).length := by have := of_decide_eq_true hd0; omega
 have wp := wt_pos (f := f) d
 have am := ask_op d
 have aI := (mem_op.1 am.1).1
 have hl : h.length < l.length := by obtain ⟨_, pi, _⟩ := i; have := op_len pi.good; omega
 have hrB : -1000000000 <= hrN f l h /\ hrN f l h <= 1000000000 := by
  obtain ⟨_, pi, _⟩ := i
  have fr := pi.free
  obtain ⟨j, j1, j2⟩ := minL_mem (M := frH f h h.length) (by rw [frH_len]; omega)
  rw [frH_len] at j1
  have fj := fr j j1
  have ql := (ol.ok _ (show Int.toNat (askN l h) < l.length by omega)).at_
  have ql : 0 <= (rqAt l (askN l h)).at_ /\ (rqAt l (askN l h)).at_ <= 10000 := ql
  unfold hrN
  omega
 refine ⟨⟨rfl, rfl, rfl, rfl, rfl, rfl, rfl, trivial⟩, fun H' _ hd => ?_, by omega, atQ (by omega) (by omega), ⟨rfl, trivial⟩, fun H' _ hd => ?_, ?_, ⟨rfl, trivial⟩, fun H' hL hd => ?_, ⟨rfl, rfl, rfl, rfl, rfl, rfl, rfl, rfl, rfl, trivial⟩, fun H' _ hd => ?_, ⟨rfl, trivial⟩, fun H' hL hd => by
   have := kCloneP (wtB f l h) (wtN f l h).length wp (by rw [wtB_len]; exact wt_le f l h) (by rw [wtB_len]; omega) hL hd.1
   rw [wtB_take] at this
   exact this, ⟨rfl, rfl, rfl, rfl, rfl, rfl, rfl, rfl, rfl, rfl, rfl, rfl, rfl, rfl, rfl, rfl, trivial⟩, fun H' _ hd => ?_, forkD (fun c0 => ?_) (fun c0 => ?_)⟩
 ·exact kBst0 (opB l h) (opL l h).length f l (frH f h h.length) (plH f l h h.length) d (by rw [opB_len]; omega) (by rw [opB_len]; omega) (fun j hj => by rw [opB_at hj]; exact op_in l h j hj) (ids := [12, 0, 1, 2, 7, 8, 9]) (insC (plainIL 0 _) hd.1 (insC (inL_b 0 _) hd.2.1 (insC (plainIL 0 _) hd.2.2.1 (insC (plainRQ 0 _) hd.2.2.2.1 (insC (plainIL 0 _) hd.2.2.2.2.1 (insC (plainIL 0 _) hd.2.2.2.2.2.1 (insP (by rw [frH_len, plH_len]; rfl) hd.2.2.2.2.2.2.1 trivial))))))) rfl
 ·have := kMin (frH f h h.length) (by rw [frH_len]; omega) (by rw [frH_len]; omega) hd.1
  rw [frH_len] at this
  exact this
 ·show some (KObj.cells true 0 [nI _]) = some (KObj.cells true 0 [nI _])
  have : (if (l.getD (Int.toNat (askN l h)) zeroQ).at_ > minL (frH f h h.length) then (l.getD (Int.toNat (askN l h)) zeroQ).at_ else minL (frH f h h.length)) = hrN f l h := by
   show _ = max (minL (frH f h h.length)) (l.getD (Int.toNat (askN l h)) zeroQ).at_
   split <;> omega
  rw [this]
 ·have := kCloneP (opB l h) (opL l h).length d (by rw [opB_len]; exact opl) (by rw [opB_len]; omega) hL hd.1
  rw [opB_take] at this
  exact this
 ·exact KCall.wkA (args2 := [slQ 16 2 (opL l h).length, .func (.func 123) #[] #[pT 10, pT 15]]) (kDel0 (opL l h) (opL l h).length f l (frH f h h.length) (plH f l h h.length) (hrN f l h) (Nat.le_refl _) (by omega) (op_in l h) (D := 16) hd.1 (ids := [0, 1, 2, 7, 8, 9, 10, 15]) (insC (inL_b 0 _) hd.2.1 (insC (plainIL 0 _) hd.2.2.1 (insC (plainRQ 0 _) hd.2.2.2.1 (insC (plainIL 0 _) hd.2.2.2.2.1 (insC (plainIL 0 _) hd.2.2.2.2.2.1 (insP (by rw [frH_len, plH_len]; rfl) hd.2.2.2.2.2.2.1 (insP rfl hd.2.2.2.2.2.2.2.1 (insC rfl hd.2.2.2.2.2.2.2.2.1 trivial)))))))) (by decide) rfl) (wks_cons wk_QR (wks_cons (wk_refl _) wks_nil))
 ·exact KCall.wkA (args2 := [slQ 25 2 (wtN f l h).length, .func (.func 125) #[] #[pT 24]]) (kDel1 (wtN f l h) (wtN f l h).length f l (frH f h h.length) (plH f l h h.length) (hrN f l h) p (ovN l h h.length) (Nat.le_refl _) (by omega) (wt_in f l h) (by rw [ovN_len]) (D := 25) hd.1 (ids := [0, 1, 2, 7, 8, 9, 10, 15, 19, 13, 20, 21, 22, 18, 24]) (insC (inL_b 0 _) hd.2.1 (insC (plainIL 0 _) hd.2.2.1 (insC (plainRQ 0 _) hd.2.2.2.1 (insC (plainIL 0 _) hd.2.2.2.2.1 (insC (plainIL 0 _) hd.2.2.2.2.2.1 (insP (by rw [frH_len, plH_len]; rfl) hd.2.2.2.2.2.2.1 (insP rfl hd.2.2.2.2.2.2.2.1 (insC rfl hd.2.2.2.2.2.2.2.2.1 (insC rfl hd.2.2.2.2.2.2.2.2.2.1 (insC (plainIL 0 _) hd.2.2.2.2.2.2.2.2.2.2.1 (insP (by rw [ovN_len]; rfl) hd.2.2.2.2.2.2.2.2.2.2.2.1 (insC rfl hd.2.2.2.2.2.2.2.2.2.2.2.2.1 (insP rfl hd.2.2.2.2.2.2.2.2.2.2.2.2.2.1 (insP rfl hd.2.2.2.2.2.2.2.2.2.2.2.2.2.2.1 (insP rfl hd.2.2.2.2.2.2.2.2.2.2.2.2.2.2.2.1 trivial))))))))))))))) (by decide) rfl) (wks_cons wk_QR (wks_cons (wk_refl _) wks_nil))
 ·have c0 : 0 < (smN f p l h 0).length := by omega
  obtain ⟨be, bo, ba⟩ := bst_rule (p := p) ol (X := 0) (by omega) (by omega) (fun Y hY => absurd hY (Nat.not_lt_zero _))
  obtain ⟨⟨bo1, bo2⟩, bo3⟩ := mem_op.1 bo
  obtain ⟨hour, he, _, pI, hdec, pI2⟩ := run_dec o ol i d bo
  have hrI := hr_in ol pI hl he
  refine ⟨⟨rfl, rfl, rfl, rfl, rfl, rfl, rfl, rfl, rfl, rfl, rfl, rfl, rfl, rfl, rfl, rfl, trivial⟩, fun H' _ hd => ?_, rfl, Nat.zero_le _, ?_, fun _ => rfl, ?_⟩
  ·have := kBst1 (smB f p l h 0) (smN f p l h 0).length f l (frH f h h.length) (plH f l h h.length) (hrN f l h) p (ovN l h h.length) (by omega) (by rw [smB_len]; exact sm_le f p l h 0) (by rw [smB_len]; omega) (smB_in f p l h 0) (ids := 25 :: [0, 1, 2, 7, 8, 9, 10, 15, 19, 13, 20, 21, 22, 18, 24]) (insC (plainIL 0 _) hd.1 (insC (inL_b 0 _) hd.2.1 (insC (plainIL 0 _) hd.2.2.1 (insC (plainRQ 0 _) hd.2.2.2.1 (insC (plainIL 0 _) hd.2.2.2.2.1 (insC (plainIL 0 _) hd.2.2.2.2.2.1 (insP (by rw [frH_len, plH_len]; rfl) hd.2.2.2.2.2.2.1 (insP rfl hd.2.2.2.2.2.2.2.1 (insC rfl hd.2.2.2.2.2.2.2.2.1 (insC rfl hd.2.2.2.2.2.2.2.2.2.1 (insC (plainIL 0 _) hd.2.2.2.2.2.2.2.2.2.2.1 (insP (by rw [ovN_len]; rfl) hd.2.2.2.2.2.2.2.2.2.2.2.1 (insC rfl hd.2.2.2.2.2.2.2.2.2.2.2.2.1 (insP rfl hd.2.2.2.2.2.2.2.2.2.2.2.2.2.1 (insP rfl hd.2.2.2.2.2.2.2.2.2.2.2.2.2.2.1 (insP rfl hd.2.2.2.2.2.2.2.2.2.2.2.2.2.2.2.1 trivial)))))))))))))))) rfl
   rw [be] at this
   exact this
  ·repeat' first | exact plainIL _ _ | exact plainSV _ _ | exact wk_refl _ | exact trivial | exact rfl | exact wk_refl _ | (exact wk_Q (by omega)) | apply And.intro | (exact iEq (by omega))
  generalize hi : bstN f p l h = I at *
  have hB : Int.toNat I < l.length := by omega
  have qb := ol.ok _ hB
  have qp := qb.place
  intro b hb
  have ys := by_spec f l h (hrN f l h) (rqAt l I).place b
  refine forkD (fun q => ?_) (fun q => ?_)
  ·have hlb : b < f.b.length := by omega
   have pin := plH_in o ol h h.length
   have pb := pin b hlb
   have hbn : Int.toNat ((plH f l h h.length).getD b 0) < f.t.length := by omega
   have rb := o.row _ hbn
   have fat : ((brH f l h h.length).getD b zeroB).free = (frH f h h.length).getD b 0 := by rw [brH_at hlb]
   have aat : ((brH f l h h.length).getD b zeroB).at_ = (plH f l h h.length).getD b 0 := by rw [brH_at hlb]
   refine ⟨by omega, intAt (by rw [frH_len]; exact hlb) (by omega), forkD (fun d1 => forkD (fun d2 => ?_) (fun d2 => ?_)) (fun d1 => ?_)⟩
   ·refine ⟨vI64 (by omega), b + 1, by omega, by omega, rfl, ?_⟩
    rw [by_1 (by rw [fat]; omega) (.inl d2)]
    repeat' first | exact plainIL _ _ | exact plainSV _ _ | exact wk_refl _ | exact trivial | exact rfl | exact wk_refl _ | (exact wk_Q (by omega)) | apply And.intro | (exact iEq (by omega))
   ·obtain ⟨Y, eY⟩ : ∃ Y, byTo f l h (hrN f l h) (rqAt l I).place b = Y := ⟨_, rfl⟩
    have z1 := by_1 (f := f) (l := l) (h := h) (hour := hrN f l h) (b := b) (place := (rqAt l I).place) (by rw [fat]; omega)
    have z2 := by_2 (f := f) (l := l) (h := h) (hour := hrN f l h) (b := b) (place := (rqAt l I).place) (by rw [fat]; omega)
    rw [eY] at ys d2 z1 z2 ⊢
    have hY : 0 <= Y /\ Y < (b : Int) := by
     rcases ys with ⟨y1, _⟩ | ⟨y1, y2, _⟩
     ·omega
     ·exact ⟨y1, y2⟩
    have hYb : Int.toNat Y < f.b.length := by omega
    have py := pin (Int.toNat Y) hYb
    have yat : ((brH f l h h.length).getD (Int.toNat Y) zeroB).at_ = (plH f l h h.length).getD (Int.toNat Y) 0 := by rw [brH_at hYb]
    have hyn : Int.toNat ((plH f l h h.length).getD (Int.toNat Y) 0) < f.t.length := by omega
    have ry := o.row _ hyn
    rw [aat, yat] at z1 z2
    refine ⟨by omega, intAt (by rw [plH_len]; exact hlb) (by omega), by omega, inL_at hbn (by omega), by omega, plQ hB (by omega), by omega, intAt (by omega) (by omega), by omega, intAt (by rw [plH_len]; exact hYb) (by omega), by omega, inL_at hyn (by omega), by omega, plQ hB (by omega), by omega, intAt (by omega) (by omega), forkD (fun d3 => ?_) (fun d3 => ?_)⟩
    ·refine ⟨vI64 (by omega), b + 1, by omega, by omega, rfl, ?_⟩
     rw [z1 (.inr d3)]
     repeat' first | exact plainIL _ _ | exact plainSV _ _ | exact wk_refl _ | exact trivial | exact rfl | exact wk_refl _ | (exact wk_Q (by omega)) | apply And.intro | (exact iEq (by omega))
    ·refine ⟨vI64 (by omega), b + 1, by omega, by omega, rfl, ?_⟩
     rw [z2 (fun k => k.elim (fun k => d2 k) (fun k => d3 k))]
     repeat' first | exact plainIL _ _ | exact plainSV _ _ | exact wk_refl _ | exact trivial | exact rfl | exact wk_refl _ | (exact wk_Q (by omega)) | apply And.intro | (exact iEq (by omega))
   ·refine ⟨vI64 (by omega), b + 1, by omega, by omega, rfl, ?_⟩
    rw [by_0 (by rw [fat]; omega)]
    repeat' first | exact plainIL _ _ | exact plainSV _ _ | exact wk_refl _ | exact trivial | exact rfl | exact wk_refl _ | (exact wk_Q (by omega)) | apply And.intro | (exact iEq (by omega))
  obtain rfl : b = f.b.length := by omega
  have bf := by_free (p := p) (l := l) (h := h) o
  have hby : byAt f p l h (hrN f l h) = byTo f l h (hrN f l h) (rqAt l I).place f.b.length := by unfold byAt; rw [show bestAt p l h (hrN f l h) = I from hi]
  obtain ⟨Y, eY⟩ : ∃ Y, byTo f l h (hrN f l h) (rqAt l I).place f.b.length = Y := ⟨_, rfl⟩
  rw [eY] at hby ⊢
  rw [hby] at bf
  have hYb : Int.toNat Y < f.b.length := by omega
  have py := plH_in o ol h h.length (Int.toNat Y) hYb
  have hyn : Int.toNat ((plH f l h h.length).getD (Int.toNat Y) 0) < f.t.length := by omega
  have ry := o.row _ hyn
  have tv : 0 <= (f.t.getD (Int.toNat ((plH f l h h.length).getD (Int.toNat Y) 0)) []).getD (Int.toNat (l.getD (Int.toNat I) zeroQ).place) 0 /\ (f.t.getD (Int.toNat ((plH f l h h.length).getD (Int.toNat Y) 0)) []).getD (Int.toNat (l.getD (Int.toNat I) zeroQ).place) 0 <= 100 := o.el _ _ hyn
  have ql := qb.len
  have hT : trav f ((brH f l h h.length).getD (Int.toNat Y) zeroB).at_ (rqAt l I).place = (f.t.getD (Int.toNat ((plH f l h h.length).getD (Int.toNat Y) 0)) []).getD (Int.toNat (l.getD (Int.toNat I) zeroQ).place) 0 := by rw [brH_at hYb]; rfl
  have hS : svN f p l h = ⟨I, Y, hrN f l h, hrN f l h + (f.t.getD (Int.toNat ((plH f l h h.length).getD (Int.toNat Y) 0)) []).getD (Int.toNat (l.getD (Int.toNat I) zeroQ).place) 0, hrN f l h + (f.t.getD (Int.toNat ((plH f l h h.length).getD (Int.toNat Y) 0)) []).getD (Int.toNat (l.getD (Int.toNat I) zeroQ).place) 0 + (l.getD (Int.toNat I) zeroQ).len⟩ := by
   unfold svN mkSv
   rw [hby, hi, hT]; rfl
  generalize hw : (f.t.getD (Int.toNat ((plH f l h h.length).getD (Int.toNat Y) 0)) []).getD (Int.toNat (l.getD (Int.toNat I) zeroQ).place) 0 = w at *
  refine ⟨by omega, partQ hB (by omega), by omega, intAt (by rw [plH_len]; exact hYb) (by omega), by omega, inL_at hyn (by omega), by omega, by rw [<- hw]; exact intAt (by omega) (by omega), vI64 (by omega), vI64 (by omega), _, rfl, by omega, by rw [flat_len intC_len, frH_len]; omega, rfl, by omega, by rw [flat_len intC_len, plH_len]; omega, rfl, ?_⟩
  have hrq : (svN f p l h).rq = I := by rw [hS]
  have kop := keep_op l h (svN f p l h)
  have dop := del_op l h (svN f p l h)
  rw [hrq] at kop dop
  have glen : (h ++ [svN f p l h]).length = h.length + 1 := by rw [List.length_append]; rfl
  generalize hSv : svN f p l h = S at *
  have f1 := flat_set (f := intC) intC_len (frH f h h.length) (Int.toNat Y) (by rw [frH_len]; exact hYb) (hrN f l h + w + (l.getD (Int.toNat I) zeroQ).len)
  have f2 := flat_set (f := intC) intC_len (plH f l h h.length) (Int.toNat Y) (by rw [plH_len]; exact hYb) (l.getD (Int.toNat I) zeroQ).dest
  have e1 : (frH f h h.length).set (Int.toNat Y) (hrN f l h + w + (l.getD (Int.toNat I) zeroQ).len) = frH f (h ++ [S]) (h ++ [S]).length := by rw [glen, frH_snoc, hS]
  have e2 : (plH f l h h.length).set (Int.toNat Y) (l.getD (Int.toNat I) zeroQ).dest = plH f l (h ++ [S]) (h ++ [S]).length := by rw [glen, plH_snoc, hS]; rfl
  rw [e1] at f1
  rw [e2] at f2
  have z0 : 0 + Int.toNat Y * 1 = Int.toNat Y * 1 := by omega
  refine ⟨⟨by omega, by decide, ⟨Nat.le_refl _, by rw [flat_len svC_len]; omega⟩, ⟨Nat.le_refl _, Nat.le_refl _⟩, rfl⟩, rfl, ⟨rfl, rfl, trivial⟩, fun H' _ hd => ?_, rfl, Nat.zero_le _, ?_, fun _ => rfl, ?_⟩
  ·have := kDel4 (opB l h) (opL l h).length I (by rw [opB_len]; exact op_le l h) (by rw [opB_len]; omega) (fun j hj => by rw [opB_at hj]; have := (op_at hj).1; omega) (D := 12) hd.1 (ids := [17]) (insC rfl hd.2.1 trivial) (by decide) rfl
   rw [kop, dop] at this
   exact this
  ·rw [ovQ_0]
   repeat' first | exact plainIL _ _ | exact plainSV _ _ | exact wk_refl _ | exact trivial | exact rfl | exact wk_refl _ | (exact wk_Q (by omega)) | apply And.intro | (exact iEq (by omega))
  intro x hx
  refine forkD (fun q => ?_) (fun q => ?_)
  ·have hlx : x < (opL l (h ++ [S])).length := by omega
   have op2 := op_le l (h ++ [S])
   have oat := (op_at hlx).1
   have hbx := opB_at (l := l) (h := h ++ [S]) hlx
   have hov := ovQ_old (s := S) hlx
   have hsu := ovQ_succ (s := S) hlx
   have hop := ov_op (s := S) hlx
   rw [hrq] at hop
   rw [hop] at hsu
   rw [hbx]
   generalize hE : (opL l (h ++ [S])).getD x 0 = E at *
   have hEn : Int.toNat E < l.length := by omega
   have oin := ovN_in (h := h) hEn h.length
   refine ⟨by omega, by rw [<- hE, <- opB_at hlx]; exact intAt (by rw [opB_len]; omega) (by omega), ⟨rfl, rfl, rfl, rfl, rfl, rfl, trivial⟩, fun H' _ hd => ?_, forkD (fun d1 => ?_) (fun d1 => ?_)⟩
   ·rw [z0, f1, f2] at hd
    exact kLater f l (frH f (h ++ [S]) (h ++ [S]).length) (plH f l (h ++ [S]) (h ++ [S]).length) E I oat ⟨bo1, bo2⟩ (by rw [frH_len, plH_len]; exact hd.1) hd.2.1 hd.2.2.1 hd.2.2.2.1 hd.2.2.2.2.1 hd.2.2.2.2.2.1
   ·have hb1 : befB (rqAt l E) (rqAt l I) = true := (later_lt _ _).1 d1
    rw [if_pos hb1, <- hov] at hsu
    have g2 := flat_set (f := intC) intC_len (ovQ l h S x) (Int.toNat E) (by rw [ovQ_len]; exact hEn) ((ovQ l h S x).getD (Int.toNat E) 0 + 1)
    rw [<- hsu] at g2
    refine ⟨by omega, intAt (by rw [ovQ_len]; exact hEn) (by omega), vI64 (by rw [hov]; omega), by omega, by rw [flat_len intC_len, ovQ_len]; omega, rfl, vI64 (by omega), x + 1, by omega, by omega, rfl, ?_⟩
    rw [show 0 + Int.toNat E * 1 = Int.toNat E * 1 by omega, g2]
    repeat' first | exact plainIL _ _ | exact plainSV _ _ | exact wk_refl _ | exact trivial | exact rfl | exact wk_refl _ | (exact wk_Q (by omega)) | apply And.intro | (exact iEq (by omega))
   ·have hb1 : ¬ befB (rqAt l E) (rqAt l I) = true := fun k => d1 ((later_lt _ _).2 k)
    rw [if_neg hb1, Int.add_zero, <- hov, set_self (by rw [ovQ_len]; exact hEn)] at hsu
    refine ⟨vI64 (by omega), x + 1, by omega, by omega, rfl, ?_⟩
    rw [hsu]
    repeat' first | exact plainIL _ _ | exact plainSV _ _ | exact wk_refl _ | exact trivial | exact rfl | exact wk_refl _ | (exact wk_Q (by omega)) | apply And.intro | (exact iEq (by omega))
  obtain rfl : x = (opL l (h ++ [S])).length := by omega
  have rn2 := run_next o ol i d (by rw [hi]; exact bo)
  rw [hSv] at rn2
  have gs := sv_snoc h S
  have eS : svC S = [nI I, nI Y, nI (hrN f l h), nI (hrN f l h + w), nI (hrN f l h + w + (l.getD (Int.toNat I) zeroQ).len)] := by rw [hS]
  rw [eS] at gs
  refine ⟨h ++ [S], rn2, by omega, rfl, ?_⟩
  rw [z0, f1, f2, ovQ_all, gs, glen]
  repeat' first | exact plainIL _ _ | exact plainSV _ _ | exact wk_refl _ | exact trivial | exact rfl | exact wk_refl _ | (exact wk_Q (by omega)) | apply And.intro | (exact iEq (by omega))
 refine ⟨⟨rfl, trivial⟩, fun H' hL hd => by
   have := kCloneP (wtB f l h) (wtN f l h).length wp (by rw [wtB_len]; exact wt_le f l h) (by rw [wtB_len]; omega) hL hd.1
   rw [wtB_take] at this
   exact this, ⟨rfl, rfl, rfl, rfl, rfl, rfl, rfl, rfl, rfl, rfl, rfl, rfl, rfl, rfl, rfl, rfl, trivial⟩, fun H' _ hd => ?_, forkD (fun c1 => ?_) (fun c1 => ?_)⟩
 ·exact KCall.wkA (args2 := [slQ 27 2 (wtN f l h).length, .func (.func 125) #[] #[pT 26]]) (kDel2 (wtN f l h) (wtN f l h).length f l (frH f h h.length) (plH f l h h.length) (hrN f l h) p (ovN l h h.length) (Nat.le_refl _) (by omega) (wt_in f l h) (bnds ol) hrB (D := 27) hd.1 (ids := [0, 1, 2, 7, 8, 9, 10, 15, 19, 13, 20, 21, 22, 18, 26]) (insC (inL_b 0 _) hd.2.1 (insC (plainIL 0 _) hd.2.2.1 (insC (plainRQ 0 _) hd.2.2.2.1 (insC (plainIL 0 _) hd.2.2.2.2.1 (insC (plainIL 0 _) hd.2.2.2.2.2.1 (insP (by rw [frH_len, plH_len]; rfl) hd.2.2.2.2.2.2.1 (insP rfl hd.2.2.2.2.2.2.2.1 (insC rfl hd.2.2.2.2.2.2.2.2.1 (insC rfl hd.2.2.2.2.2.2.2.2.2.1 (insC (plainIL 0 _) hd.2.2.2.2.2.2.2.2.2.2.1 (insP (by rw [ovN_len]; rfl) hd.2.2.2.2.2.2.2.2.2.2.2.1 (insC rfl hd.2.2.2.2.2.2.2.2.2.2.2.2.1 (insP rfl hd.2.2.2.2.2.2.2.2.2.2.2.2.2.1 (insP rfl hd.2.2.2.2.2.2.2.2.2.2.2.2.2.2.1 (insP rfl hd.2.2.2.2.2.2.2.2.2.2.2.2.2.2.2.1 trivial))))))))))))))) (by decide) rfl) (wks_cons wk_QR (wks_cons (wk_refl _) wks_nil))
 ·have c1 : 0 < (smN f p l h 1).length := by omega
  obtain ⟨be, bo, ba⟩ := bst_rule (p := p) ol (X := 1) (by omega) (by omega) (fun Y hY => by rw [show Y = 0 by omega]; omega)
  obtain ⟨⟨bo1, bo2⟩, bo3⟩ := mem_op.1 bo
  obtain ⟨hour, he, _, pI, hdec, pI2⟩ := run_dec o ol i d bo
  have hrI := hr_in ol pI hl he
  refine ⟨⟨rfl, rfl, rfl, rfl, rfl, rfl, rfl, rfl, rfl, rfl, rfl, rfl, rfl, rfl, rfl, rfl, trivial⟩, fun H' _ hd => ?_, rfl, Nat.zero_le _, ?_, fun _ => rfl, ?_⟩
  ·have := kBst2 (smB f p l h 1) (smN f p l h 1).length f l (frH f h h.length) (plH f l h h.length) (hrN f l h) p (ovN l h h.length) (by omega) (by rw [smB_len]; exact sm_le f p l h 1) (by rw [smB_len]; omega) (smB_in f p l h 1) (bnds ol) (ids := 27 :: [0, 1, 2, 7, 8, 9, 10, 15, 19, 13, 20, 21, 22, 18, 26]) (insC (plainIL 0 _) hd.1 (insC (inL_b 0 _) hd.2.1 (insC (plainIL 0 _) hd.2.2.1 (insC (plainRQ 0 _) hd.2.2.2.1 (insC (plainIL 0 _) hd.2.2.2.2.1 (insC (plainIL 0 _) hd.2.2.2.2.2.1 (insP (by rw [frH_len, plH_len]; rfl) hd.2.2.2.2.2.2.1 (insP rfl hd.2.2.2.2.2.2.2.1 (insC rfl hd.2.2.2.2.2.2.2.2.1 (insC rfl hd.2.2.2.2.2.2.2.2.2.1 (insC (plainIL 0 _) hd.2.2.2.2.2.2.2.2.2.2.1 (insP (by rw [ovN_len]; rfl) hd.2.2.2.2.2.2.2.2.2.2.2.1 (insC rfl hd.2.2.2.2.2.2.2.2.2.2.2.2.1 (insP rfl hd.2.2.2.2.2.2.2.2.2.2.2.2.2.1 (insP rfl hd.2.2.2.2.2.2.2.2.2.2.2.2.2.2.1 (insP rfl hd.2.2.2.2.2.2.2.2.2.2.2.2.2.2.2.1 trivial)))))))))))))))) rfl
   rw [be] at this
   exact this
  ·repeat' first | exact plainIL _ _ | exact plainSV _ _ | exact wk_refl _ | exact trivial | exact rfl | exact wk_refl _ | (exact wk_Q (by omega)) | apply And.intro | (exact iEq (by omega))
  generalize hi : bstN f p l h = I at *
  have hB : Int.toNat I < l.length := by omega
  have qb := ol.ok _ hB
  have qp := qb.place
  intro b hb
  have ys := by_spec f l h (hrN f l h) (rqAt l I).place b
  refine forkD (fun q => ?_) (fun q => ?_)
  ·have hlb : b < f.b.length := by omega
   have pin := plH_in o ol h h.length
   have pb := pin b hlb
   have hbn : Int.toNat ((plH f l h h.length).getD b 0) < f.t.length := by omega
   have rb := o.row _ hbn
   have fat : ((brH f l h h.length).getD b zeroB).free = (frH f h h.length).getD b 0 := by rw [brH_at hlb]
   have aat : ((brH f l h h.length).getD b zeroB).at_ = (plH f l h h.length).getD b 0 := by rw [brH_at hlb]
   refine ⟨by omega, intAt (by rw [frH_len]; exact hlb) (by omega), forkD (fun d1 => forkD (fun d2 => ?_) (fun d2 => ?_)) (fun d1 => ?_)⟩
   ·refine ⟨vI64 (by omega), b + 1, by omega, by omega, rfl, ?_⟩
    rw [by_1 (by rw [fat]; omega) (.inl d2)]
    repeat' first | exact plainIL _ _ | exact plainSV _ _ | exact wk_refl _ | exact trivial | exact rfl | exact wk_refl _ | (exact wk_Q (by omega)) | apply And.intro | (exact iEq (by omega))
   ·obtain ⟨Y, eY⟩ : ∃ Y, byTo f l h (hrN f l h) (rqAt l I).place b = Y := ⟨_, rfl⟩
    have z1 := by_1 (f := f) (l := l) (h := h) (hour := hrN f l h) (b := b) (place := (rqAt l I).place) (by rw [fat]; omega)
    have z2 := by_2 (f := f) (l := l) (h := h) (hour := hrN f l h) (b := b) (place := (rqAt l I).place) (by rw [fat]; omega)
    rw [eY] at ys d2 z1 z2 ⊢
    have hY : 0 <= Y /\ Y < (b : Int) := by
     rcases ys with ⟨y1, _⟩ | ⟨y1, y2, _⟩
     ·omega
     ·exact ⟨y1, y2⟩
    have hYb : Int.toNat Y < f.b.length := by omega
    have py := pin (Int.toNat Y) hYb
    have yat : ((brH f l h h.length).getD (Int.toNat Y) zeroB).at_ = (plH f l h h.length).getD (Int.toNat Y) 0 := by rw [brH_at hYb]
    have hyn : Int.toNat ((plH f l h h.length).getD (Int.toNat Y) 0) < f.t.length := by omega
    have ry := o.row _ hyn
    rw [aat, yat] at z1 z2
    refine ⟨by omega, intAt (by rw [plH_len]; exact hlb) (by omega), by omega, inL_at hbn (by omega), by omega, plQ hB (by omega), by omega, intAt (by omega) (by omega), by omega, intAt (by rw [plH_len]; exact hYb) (by omega), by omega, inL_at hyn (by omega), by omega, plQ hB (by omega), by omega, intAt (by omega) (by omega), forkD (fun d3 => ?_) (fun d3 => ?_)⟩
    ·refine ⟨vI64 (by omega), b + 1, by omega, by omega, rfl, ?_⟩
     rw [z1 (.inr d3)]
     repeat' first | exact plainIL _ _ | exact plainSV _ _ | exact wk_refl _ | exact trivial | exact rfl | exact wk_refl _ | (exact wk_Q (by omega)) | apply And.intro | (exact iEq (by omega))
    ·refine ⟨vI64 (by omega), b + 1, by omega, by omega, rfl, ?_⟩
     rw [z2 (fun k => k.elim (fun k => d2 k) (fun k => d3 k))]
     repeat' first | exact plainIL _ _ | exact plainSV _ _ | exact wk_refl _ | exact trivial | exact rfl | exact wk_refl _ | (exact wk_Q (by omega)) | apply And.intro | (exact iEq (by omega))
   ·refine ⟨vI64 (by omega), b + 1, by omega, by omega, rfl, ?_⟩
    rw [by_0 (by rw [fat]; omega)]
    repeat' first | exact plainIL _ _ | exact plainSV _ _ | exact wk_refl _ | exact trivial | exact rfl | exact wk_refl _ | (exact wk_Q (by omega)) | apply And.intro | (exact iEq (by omega))
  obtain rfl : b = f.b.length := by omega
  have bf := by_free (p := p) (l := l) (h := h) o
  have hby : byAt f p l h (hrN f l h) = byTo f l h (hrN f l h) (rqAt l I).place f.b.length := by unfold byAt; rw [show bestAt p l h (hrN f l h) = I from hi]
  obtain ⟨Y, eY⟩ : ∃ Y, byTo f l h (hrN f l h) (rqAt l I).place f.b.length = Y := ⟨_, rfl⟩
  rw [eY] at hby ⊢
  rw [hby] at bf
  have hYb : Int.toNat Y < f.b.length := by omega
  have py := plH_in o ol h h.length (Int.toNat Y) hYb
  have hyn : Int.toNat ((plH f l h h.length).getD (Int.toNat Y) 0) < f.t.length := by omega
  have ry := o.row _ hyn
  have tv : 0 <= (f.t.getD (Int.toNat ((plH f l h h.length).getD (Int.toNat Y) 0)) []).getD (Int.toNat (l.getD (Int.toNat I) zeroQ).place) 0 /\ (f.t.getD (Int.toNat ((plH f l h h.length).getD (Int.toNat Y) 0)) []).getD (Int.toNat (l.getD (Int.toNat I) zeroQ).place) 0 <= 100 := o.el _ _ hyn
  have ql := qb.len
  have hT : trav f ((brH f l h h.length).getD (Int.toNat Y) zeroB).at_ (rqAt l I).place = (f.t.getD (Int.toNat ((plH f l h h.length).getD (Int.toNat Y) 0)) []).getD (Int.toNat (l.getD (Int.toNat I) zeroQ).place) 0 := by rw [brH_at hYb]; rfl
  have hS : svN f p l h = ⟨I, Y, hrN f l h, hrN f l h + (f.t.getD (Int.toNat ((plH f l h h.length).getD (Int.toNat Y) 0)) []).getD (Int.toNat (l.getD (Int.toNat I) zeroQ).place) 0, hrN f l h + (f.t.getD (Int.toNat ((plH f l h h.length).getD (Int.toNat Y) 0)) []).getD (Int.toNat (l.getD (Int.toNat I) zeroQ).place) 0 + (l.getD (Int.toNat I) zeroQ).len⟩ := by
   unfold svN mkSv
   rw [hby, hi, hT]; rfl
  generalize hw : (f.t.getD (Int.toNat ((plH f l h h.length).getD (Int.toNat Y) 0)) []).getD (Int.toNat (l.getD (Int.toNat I) zeroQ).place) 0 = w at *
  refine ⟨by omega, partQ hB (by omega), by omega, intAt (by rw [plH_len]; exact hYb) (by omega), by omega, inL_at hyn (by omega), by omega, by rw [<- hw]; exact intAt (by omega) (by omega), vI64 (by omega), vI64 (by omega), _, rfl, by omega, by rw [flat_len intC_len, frH_len]; omega, rfl, by omega, by rw [flat_len intC_len, plH_len]; omega, rfl, ?_⟩
  have hrq : (svN f p l h).rq = I := by rw [hS]
  have kop := keep_op l h (svN f p l h)
  have dop := del_op l h (svN f p l h)
  rw [hrq] at kop dop
  have glen : (h ++ [svN f p l h]).length = h.length + 1 := by rw [List.length_append]; rfl
  generalize hSv : svN f p l h = S at *
  have f1 := flat_set (f := intC) intC_len (frH f h h.length) (Int.toNat Y) (by rw [frH_len]; exact hYb) (hrN f l h + w + (l.getD (Int.toNat I) zeroQ).len)
  have f2 := flat_set (f := intC) intC_len (plH f l h h.length) (Int.toNat Y) (by rw [plH_len]; exact hYb) (l.getD (Int.toNat I) zeroQ).dest
  have e1 : (frH f h h.length).set (Int.toNat Y) (hrN f l h + w + (l.getD (Int.toNat I) zeroQ).len) = frH f (h ++ [S]) (h ++ [S]).length := by rw [glen, frH_snoc, hS]
  have e2 : (plH f l h h.length).set (Int.toNat Y) (l.getD (Int.toNat I) zeroQ).dest = plH f l (h ++ [S]) (h ++ [S]).length := by rw [glen, plH_snoc, hS]; rfl
  rw [e1] at f1
  rw [e2] at f2
  have z0 : 0 + Int.toNat Y * 1 = Int.toNat Y * 1 := by omega
  refine ⟨⟨by omega, by decide, ⟨Nat.le_refl _, by rw [flat_len svC_len]; omega⟩, ⟨Nat.le_refl _, Nat.le_refl _⟩, rfl⟩, rfl, ⟨rfl, rfl, trivial⟩, fun H' _ hd => ?_, rfl, Nat.zero_le _, ?_, fun _ => rfl, ?_⟩
  ·have := kDel4 (opB l h) (opL l h).length I (by rw [opB_len]; exact op_le l h) (by rw [opB_len]; omega) (fun j hj => by rw [opB_at hj]; have := (op_at hj).1; omega) (D := 12) hd.1 (ids := [17]) (insC rfl hd.2.1 trivial) (by decide) rfl
   rw [kop, dop] at this
   exact this
  ·rw [ovQ_0]
   repeat' first | exact plainIL _ _ | exact plainSV _ _ | exact wk_refl _ | exact trivial | exact rfl | exact wk_refl _ | (exact wk_Q (by omega)) | apply And.intro | (exact iEq (by omega))
  intro x hx
  refine forkD (fun q => ?_) (fun q => ?_)
  ·have hlx : x < (opL l (h ++ [S])).length := by omega
   have op2 := op_le l (h ++ [S])
   have oat := (op_at hlx).1
   have hbx := opB_at (l := l) (h := h ++ [S]) hlx
   have hov := ovQ_old (s := S) hlx
   have hsu := ovQ_succ (s := S) hlx
   have hop := ov_op (s := S) hlx
   rw [hrq] at hop
   rw [hop] at hsu
   rw [hbx]
   generalize hE : (opL l (h ++ [S])).getD x 0 = E at *
   have hEn : Int.toNat E < l.length := by omega
   have oin := ovN_in (h := h) hEn h.length
   refine ⟨by omega, by rw [<- hE, <- opB_at hlx]; exact intAt (by rw [opB_len]; omega) (by omega), ⟨rfl, rfl, rfl, rfl, rfl, rfl, trivial⟩, fun H' _ hd => ?_, forkD (fun d1 => ?_) (fun d1 => ?_)⟩
   ·rw [z0, f1, f2] at hd
    exact kLater f l (frH f (h ++ [S]) (h ++ [S]).length) (plH f l (h ++ [S]) (h ++ [S]).length) E I oat ⟨bo1, bo2⟩ (by rw [frH_len, plH_len]; exact hd.1) hd.2.1 hd.2.2.1 hd.2.2.2.1 hd.2.2.2.2.1 hd.2.2.2.2.2.1
   ·have hb1 : befB (rqAt l E) (rqAt l I) = true := (later_lt _ _).1 d1
    rw [if_pos hb1, <- hov] at hsu
    have g2 := flat_set (f := intC) intC_len (ovQ l h S x) (Int.toNat E) (by rw [ovQ_len]; exact hEn) ((ovQ l h S x).getD (Int.toNat E) 0 + 1)
    rw [<- hsu] at g2
    refine ⟨by omega, intAt (by rw [ovQ_len]; exact hEn) (by omega), vI64 (by rw [hov]; omega), by omega, by rw [flat_len intC_len, ovQ_len]; omega, rfl, vI64 (by omega), x + 1, by omega, by omega, rfl, ?_⟩
    rw [show 0 + Int.toNat E * 1 = Int.toNat E * 1 by omega, g2]
    repeat' first | exact plainIL _ _ | exact plainSV _ _ | exact wk_refl _ | exact trivial | exact rfl | exact wk_refl _ | (exact wk_Q (by omega)) | apply And.intro | (exact iEq (by omega))
   ·have hb1 : ¬ befB (rqAt l E) (rqAt l I) = true := fun k => d1 ((later_lt _ _).2 k)
    rw [if_neg hb1, Int.add_zero, <- hov, set_self (by rw [ovQ_len]; exact hEn)] at hsu
    refine ⟨vI64 (by omega), x + 1, by omega, by omega, rfl, ?_⟩
    rw [hsu]
    repeat' first | exact plainIL _ _ | exact plainSV _ _ | exact wk_refl _ | exact trivial | exact rfl | exact wk_refl _ | (exact wk_Q (by omega)) | apply And.intro | (exact iEq (by omega))
  obtain rfl : x = (opL l (h ++ [S])).length := by omega
  have rn2 := run_next o ol i d (by rw [hi]; exact bo)
  rw [hSv] at rn2
  have gs := sv_snoc h S
  have eS : svC S = [nI I, nI Y, nI (hrN f l h), nI (hrN f l h + w), nI (hrN f l h + w + (l.getD (Int.toNat I) zeroQ).len)] := by rw [hS]
  rw [eS] at gs
  refine ⟨h ++ [S], rn2, by omega, rfl, ?_⟩
  rw [z0, f1, f2, ovQ_all, gs, glen]
  repeat' first | exact plainIL _ _ | exact plainSV _ _ | exact wk_refl _ | exact trivial | exact rfl | exact wk_refl _ | (exact wk_Q (by omega)) | apply And.intro | (exact iEq (by omega))
 have s2 : (smN f p l h 2) = wtN f l h := (keepP_all (q := ofV p l (ovN l h h.length) (hrN f l h) 2) (x := (wtN f l h).length) (List.all_eq_true.2 fun _ _ => rfl)).trans (List.take_length)
 have s2l : (smN f p l h 2).length = (wtN f l h).length := by rw [s2]
 have c2 : 0 < (smN f p l h 2).length := by omega
 refine ⟨⟨rfl, trivial⟩, fun H' hL hd => by
   have := kCloneP (wtB f l h) (wtN f l h).length wp (by rw [wtB_len]; exact wt_le f l h) (by rw [wtB_len]; omega) hL hd.1
   rw [wtB_take] at this
   exact this, ⟨rfl, rfl, rfl, rfl, rfl, rfl, rfl, rfl, rfl, rfl, rfl, rfl, rfl, rfl, rfl, rfl, trivial⟩, fun H' _ hd => ?_, congrArg Value.bool (decide_eq_true (by omega)), ?_⟩
 ·exact KCall.wkA (args2 := [slQ 29 2 (wtN f l h).length, .func (.func 125) #[] #[pT 28]]) (kDel3 (wtN f l h) (wtN f l h).length f l (frH f h h.length) (plH f l h h.length) (hrN f l h) p (ovN l h h.length) (Nat.le_refl _) (by omega) (wt_in f l h) (D := 29) hd.1 (ids := [0, 1, 2, 7, 8, 9, 10, 15, 19, 13, 20, 21, 22, 18, 28]) (insC (inL_b 0 _) hd.2.1 (insC (plainIL 0 _) hd.2.2.1 (insC (plainRQ 0 _) hd.2.2.2.1 (insC (plainIL 0 _) hd.2.2.2.2.1 (insC (plainIL 0 _) hd.2.2.2.2.2.1 (insP (by rw [frH_len, plH_len]; rfl) hd.2.2.2.2.2.2.1 (insP rfl hd.2.2.2.2.2.2.2.1 (insC rfl hd.2.2.2.2.2.2.2.2.1 (insC rfl hd.2.2.2.2.2.2.2.2.2.1 (insC (plainIL 0 _) hd.2.2.2.2.2.2.2.2.2.2.1 (insP (by rw [ovN_len]; rfl) hd.2.2.2.2.2.2.2.2.2.2.2.1 (insC rfl hd.2.2.2.2.2.2.2.2.2.2.2.2.1 (insP rfl hd.2.2.2.2.2.2.2.2.2.2.2.2.2.1 (insP rfl hd.2.2.2.2.2.2.2.2.2.2.2.2.2.2.1 (insP rfl hd.2.2.2.2.2.2.2.2.2.2.2.2.2.2.2.1 trivial))))))))))))))) (by decide) rfl) (wks_cons wk_QR (wks_cons (wk_refl _) wks_nil))
 obtain ⟨be, bo, ba⟩ := bst_rule (p := p) ol (X := 2) (by omega) (by omega) (fun Y hY => by rcases (show Y = 0 ∨ Y = 1 by omega) with rfl | rfl <;> omega)
 obtain ⟨⟨bo1, bo2⟩, bo3⟩ := mem_op.1 bo
 obtain ⟨hour, he, _, pI, hdec, pI2⟩ := run_dec o ol i d bo
 have hrI := hr_in ol pI hl he
 refine ⟨⟨rfl, rfl, rfl, rfl, rfl, rfl, rfl, rfl, rfl, rfl, rfl, rfl, rfl, rfl, rfl, rfl, trivial⟩, fun H' _ hd => ?_, rfl, Nat.zero_le _, ?_, fun _ => rfl, ?_⟩
 ·have := kBst3 (smB f p l h 2) (smN f p l h 2).length f l (frH f h h.length) (plH f l h h.length) (hrN f l h) p (ovN l h h.length) (by omega) (by rw [smB_len]; exact sm_le f p l h 2) (by rw [smB_len]; omega) (smB_in f p l h 2) (bnds ol) (ids := 29 :: [0, 1, 2, 7, 8, 9, 10, 15, 19, 13, 20, 21, 22, 18, 28]) (insC (plainIL 0 _) hd.1 (insC (inL_b 0 _) hd.2.1 (insC (plainIL 0 _) hd.2.2.1 (insC (plainRQ 0 _) hd.2.2.2.1 (insC (plainIL 0 _) hd.2.2.2.2.1 (insC (plainIL 0 _) hd.2.2.2.2.2.1 (insP (by rw [frH_len, plH_len]; rfl) hd.2.2.2.2.2.2.1 (insP rfl hd.2.2.2.2.2.2.2.1 (insC rfl hd.2.2.2.2.2.2.2.2.1 (insC rfl hd.2.2.2.2.2.2.2.2.2.1 (insC (plainIL 0 _) hd.2.2.2.2.2.2.2.2.2.2.1 (insP (by rw [ovN_len]; rfl) hd.2.2.2.2.2.2.2.2.2.2.2.1 (insC rfl hd.2.2.2.2.2.2.2.2.2.2.2.2.1 (insP rfl hd.2.2.2.2.2.2.2.2.2.2.2.2.2.1 (insP rfl hd.2.2.2.2.2.2.2.2.2.2.2.2.2.2.1 (insP rfl hd.2.2.2.2.2.2.2.2.2.2.2.2.2.2.2.1 trivial)))))))))))))))) rfl
  rw [be] at this
  exact this
 ·repeat' first | exact plainIL _ _ | exact plainSV _ _ | exact wk_refl _ | exact trivial | exact rfl | exact wk_refl _ | (exact wk_Q (by omega)) | apply And.intro | (exact iEq (by omega))
 generalize hi : bstN f p l h = I at *
 have hB : Int.toNat I < l.length := by omega
 have qb := ol.ok _ hB
 have qp := qb.place
 intro b hb
 have ys := by_spec f l h (hrN f l h) (rqAt l I).place b
 refine forkD (fun q => ?_) (fun q => ?_)
 ·have hlb : b < f.b.length := by omega
  have pin := plH_in o ol h h.length
  have pb := pin b hlb
  have hbn : Int.toNat ((plH f l h h.length).getD b 0) < f.t.length := by omega
  have rb := o.row _ hbn
  have fat : ((brH f l h h.length).getD b zeroB).free = (frH f h h.length).getD b 0 := by rw [brH_at hlb]
  have aat : ((brH f l h h.length).getD b zeroB).at_ = (plH f l h h.length).getD b 0 := by rw [brH_at hlb]
  refine ⟨by omega, intAt (by rw [frH_len]; exact hlb) (by omega), forkD (fun d1 => forkD (fun d2 => ?_) (fun d2 => ?_)) (fun d1 => ?_)⟩
  ·refine ⟨vI64 (by omega), b + 1, by omega, by omega, rfl, ?_⟩
   rw [by_1 (by rw [fat]; omega) (.inl d2)]
   repeat' first | exact plainIL _ _ | exact plainSV _ _ | exact wk_refl _ | exact trivial | exact rfl | exact wk_refl _ | (exact wk_Q (by omega)) | apply And.intro | (exact iEq (by omega))
  ·obtain ⟨Y, eY⟩ : ∃ Y, byTo f l h (hrN f l h) (rqAt l I).place b = Y := ⟨_, rfl⟩
   have z1 := by_1 (f := f) (l := l) (h := h) (hour := hrN f l h) (b := b) (place := (rqAt l I).place) (by rw [fat]; omega)
   have z2 := by_2 (f := f) (l := l) (h := h) (hour := hrN f l h) (b := b) (place := (rqAt l I).place) (by rw [fat]; omega)
   rw [eY] at ys d2 z1 z2 ⊢
   have hY : 0 <= Y /\ Y < (b : Int) := by
    rcases ys with ⟨y1, _⟩ | ⟨y1, y2, _⟩
    ·omega
    ·exact ⟨y1, y2⟩
   have hYb : Int.toNat Y < f.b.length := by omega
   have py := pin (Int.toNat Y) hYb
   have yat : ((brH f l h h.length).getD (Int.toNat Y) zeroB).at_ = (plH f l h h.length).getD (Int.toNat Y) 0 := by rw [brH_at hYb]
   have hyn : Int.toNat ((plH f l h h.length).getD (Int.toNat Y) 0) < f.t.length := by omega
   have ry := o.row _ hyn
   rw [aat, yat] at z1 z2
   refine ⟨by omega, intAt (by rw [plH_len]; exact hlb) (by omega), by omega, inL_at hbn (by omega), by omega, plQ hB (by omega), by omega, intAt (by omega) (by omega), by omega, intAt (by rw [plH_len]; exact hYb) (by omega), by omega, inL_at hyn (by omega), by omega, plQ hB (by omega), by omega, intAt (by omega) (by omega), forkD (fun d3 => ?_) (fun d3 => ?_)⟩
   ·refine ⟨vI64 (by omega), b + 1, by omega, by omega, rfl, ?_⟩
    rw [z1 (.inr d3)]
    repeat' first | exact plainIL _ _ | exact plainSV _ _ | exact wk_refl _ | exact trivial | exact rfl | exact wk_refl _ | (exact wk_Q (by omega)) | apply And.intro | (exact iEq (by omega))
   ·refine ⟨vI64 (by omega), b + 1, by omega, by omega, rfl, ?_⟩
    rw [z2 (fun k => k.elim (fun k => d2 k) (fun k => d3 k))]
    repeat' first | exact plainIL _ _ | exact plainSV _ _ | exact wk_refl _ | exact trivial | exact rfl | exact wk_refl _ | (exact wk_Q (by omega)) | apply And.intro | (exact iEq (by omega))
  ·refine ⟨vI64 (by omega), b + 1, by omega, by omega, rfl, ?_⟩
   rw [by_0 (by rw [fat]; omega)]
   repeat' first | exact plainIL _ _ | exact plainSV _ _ | exact wk_refl _ | exact trivial | exact rfl | exact wk_refl _ | (exact wk_Q (by omega)) | apply And.intro | (exact iEq (by omega))
 obtain rfl : b = f.b.length := by omega
 have bf := by_free (p := p) (l := l) (h := h) o
 have hby : byAt f p l h (hrN f l h) = byTo f l h (hrN f l h) (rqAt l I).place f.b.length := by unfold byAt; rw [show bestAt p l h (hrN f l h) = I from hi]
 obtain ⟨Y, eY⟩ : ∃ Y, byTo f l h (hrN f l h) (rqAt l I).place f.b.length = Y := ⟨_, rfl⟩
 rw [eY] at hby ⊢
 rw [hby] at bf
 have hYb : Int.toNat Y < f.b.length := by omega
 have py := plH_in o ol h h.length (Int.toNat Y) hYb
 have hyn : Int.toNat ((plH f l h h.length).getD (Int.toNat Y) 0) < f.t.length := by omega
 have ry := o.row _ hyn
 have tv : 0 <= (f.t.getD (Int.toNat ((plH f l h h.length).getD (Int.toNat Y) 0)) []).getD (Int.toNat (l.getD (Int.toNat I) zeroQ).place) 0 /\ (f.t.getD (Int.toNat ((plH f l h h.length).getD (Int.toNat Y) 0)) []).getD (Int.toNat (l.getD (Int.toNat I) zeroQ).place) 0 <= 100 := o.el _ _ hyn
 have ql := qb.len
 have hT : trav f ((brH f l h h.length).getD (Int.toNat Y) zeroB).at_ (rqAt l I).place = (f.t.getD (Int.toNat ((plH f l h h.length).getD (Int.toNat Y) 0)) []).getD (Int.toNat (l.getD (Int.toNat I) zeroQ).place) 0 := by rw [brH_at hYb]; rfl
 have hS : svN f p l h = ⟨I, Y, hrN f l h, hrN f l h + (f.t.getD (Int.toNat ((plH f l h h.length).getD (Int.toNat Y) 0)) []).getD (Int.toNat (l.getD (Int.toNat I) zeroQ).place) 0, hrN f l h + (f.t.getD (Int.toNat ((plH f l h h.length).getD (Int.toNat Y) 0)) []).getD (Int.toNat (l.getD (Int.toNat I) zeroQ).place) 0 + (l.getD (Int.toNat I) zeroQ).len⟩ := by
  unfold svN mkSv
  rw [hby, hi, hT]; rfl
 generalize hw : (f.t.getD (Int.toNat ((plH f l h h.length).getD (Int.toNat Y) 0)) []).getD (Int.toNat (l.getD (Int.toNat I) zeroQ).place) 0 = w at *
 refine ⟨by omega, partQ hB (by omega), by omega, intAt (by rw [plH_len]; exact hYb) (by omega), by omega, inL_at hyn (by omega), by omega, by rw [<- hw]; exact intAt (by omega) (by omega), vI64 (by omega), vI64 (by omega), _, rfl, by omega, by rw [flat_len intC_len, frH_len]; omega, rfl, by omega, by rw [flat_len intC_len, plH_len]; omega, rfl, ?_⟩
 have hrq : (svN f p l h).rq = I := by rw [hS]
 have kop := keep_op l h (svN f p l h)
 have dop := del_op l h (svN f p l h)
 rw [hrq] at kop dop
 have glen : (h ++ [svN f p l h]).length = h.length + 1 := by rw [List.length_append]; rfl
 generalize hSv : svN f p l h = S at *
 have f1 := flat_set (f := intC) intC_len (frH f h h.length) (Int.toNat Y) (by rw [frH_len]; exact hYb) (hrN f l h + w + (l.getD (Int.toNat I) zeroQ).len)
 have f2 := flat_set (f := intC) intC_len (plH f l h h.length) (Int.toNat Y) (by rw [plH_len]; exact hYb) (l.getD (Int.toNat I) zeroQ).dest
 have e1 : (frH f h h.length).set (Int.toNat Y) (hrN f l h + w + (l.getD (Int.toNat I) zeroQ).len) = frH f (h ++ [S]) (h ++ [S]).length := by rw [glen, frH_snoc, hS]
 have e2 : (plH f l h h.length).set (Int.toNat Y) (l.getD (Int.toNat I) zeroQ).dest = plH f l (h ++ [S]) (h ++ [S]).length := by rw [glen, plH_snoc, hS]; rfl
 rw [e1] at f1
 rw [e2] at f2
 have z0 : 0 + Int.toNat Y * 1 = Int.toNat Y * 1 := by omega
 refine ⟨⟨by omega, by decide, ⟨Nat.le_refl _, by rw [flat_len svC_len]; omega⟩, ⟨Nat.le_refl _, Nat.le_refl _⟩, rfl⟩, rfl, ⟨rfl, rfl, trivial⟩, fun H' _ hd => ?_, rfl, Nat.zero_le _, ?_, fun _ => rfl, ?_⟩
 ·have := kDel4 (opB l h) (opL l h).length I (by rw [opB_len]; exact op_le l h) (by rw [opB_len]; omega) (fun j hj => by rw [opB_at hj]; have := (op_at hj).1; omega) (D := 12) hd.1 (ids := [17]) (insC rfl hd.2.1 trivial) (by decide) rfl
  rw [kop, dop] at this
  exact this
 ·rw [ovQ_0]
  repeat' first | exact plainIL _ _ | exact plainSV _ _ | exact wk_refl _ | exact trivial | exact rfl | exact wk_refl _ | (exact wk_Q (by omega)) | apply And.intro | (exact iEq (by omega))
 intro x hx
 refine forkD (fun q => ?_) (fun q => ?_)
 ·have hlx : x < (opL l (h ++ [S])).length := by omega
  have op2 := op_le l (h ++ [S])
  have oat := (op_at hlx).1
  have hbx := opB_at (l := l) (h := h ++ [S]) hlx
  have hov := ovQ_old (s := S) hlx
  have hsu := ovQ_succ (s := S) hlx
  have hop := ov_op (s := S) hlx
  rw [hrq] at hop
  rw [hop] at hsu
  rw [hbx]
  generalize hE : (opL l (h ++ [S])).getD x 0 = E at *
  have hEn : Int.toNat E < l.length := by omega
  have oin := ovN_in (h := h) hEn h.length
  refine ⟨by omega, by rw [<- hE, <- opB_at hlx]; exact intAt (by rw [opB_len]; omega) (by omega), ⟨rfl, rfl, rfl, rfl, rfl, rfl, trivial⟩, fun H' _ hd => ?_, forkD (fun d1 => ?_) (fun d1 => ?_)⟩
  ·rw [z0, f1, f2] at hd
   exact kLater f l (frH f (h ++ [S]) (h ++ [S]).length) (plH f l (h ++ [S]) (h ++ [S]).length) E I oat ⟨bo1, bo2⟩ (by rw [frH_len, plH_len]; exact hd.1) hd.2.1 hd.2.2.1 hd.2.2.2.1 hd.2.2.2.2.1 hd.2.2.2.2.2.1
  ·have hb1 : befB (rqAt l E) (rqAt l I) = true := (later_lt _ _).1 d1
   rw [if_pos hb1, <- hov] at hsu
   have g2 := flat_set (f := intC) intC_len (ovQ l h S x) (Int.toNat E) (by rw [ovQ_len]; exact hEn) ((ovQ l h S x).getD (Int.toNat E) 0 + 1)
   rw [<- hsu] at g2
   refine ⟨by omega, intAt (by rw [ovQ_len]; exact hEn) (by omega), vI64 (by rw [hov]; omega), by omega, by rw [flat_len intC_len, ovQ_len]; omega, rfl, vI64 (by omega), x + 1, by omega, by omega, rfl, ?_⟩
   rw [show 0 + Int.toNat E * 1 = Int.toNat E * 1 by omega, g2]
   repeat' first | exact plainIL _ _ | exact plainSV _ _ | exact wk_refl _ | exact trivial | exact rfl | exact wk_refl _ | (exact wk_Q (by omega)) | apply And.intro | (exact iEq (by omega))
  ·have hb1 : ¬ befB (rqAt l E) (rqAt l I) = true := fun k => d1 ((later_lt _ _).2 k)
   rw [if_neg hb1, Int.add_zero, <- hov, set_self (by rw [ovQ_len]; exact hEn)] at hsu
   refine ⟨vI64 (by omega), x + 1, by omega, by omega, rfl, ?_⟩
   rw [hsu]
   repeat' first | exact plainIL _ _ | exact plainSV _ _ | exact wk_refl _ | exact trivial | exact rfl | exact wk_refl _ | (exact wk_Q (by omega)) | apply And.intro | (exact iEq (by omega))
 obtain rfl : x = (opL l (h ++ [S])).length := by omega
 have rn2 := run_next o ol i d (by rw [hi]; exact bo)
 rw [hSv] at rn2
 have gs := sv_snoc h S
 have eS : svC S = [nI I, nI Y, nI (hrN f l h), nI (hrN f l h + w), nI (hrN f l h + w + (l.getD (Int.toNat I) zeroQ).len)] := by rw [hS]
 rw [eS] at gs
 refine ⟨h ++ [S], rn2, by omega, rfl, ?_⟩
 rw [z0, f1, f2, ovQ_all, gs, glen]
 repeat' first | exact plainIL _ _ | exact plainSV _ _ | exact wk_refl _ | exact trivial | exact rfl | exact wk_refl _ | (exact wk_Q (by omega)) | apply And.intro | (exact iEq (by omega))
end
end Go.Proofs.YthdekmpkioikdaaGreat
/- Request: Run and Audit. No condition. -/
namespace Go.Proofs.YthdekmpkioikdaaGreat
open Go Go.K
set_option maxRecDepth 100000
set_option linter.unusedVariables false
set_option linter.unusedSimpArgs false
noncomputable section
attribute [local irreducible] vF
theorem kRunP (f : Fleet) (p : Pol) (l : List Rq) (ht : f.t.length <= 4294967296) (hb : f.b.length <= 4294967296) (hs : shortI f.t) {H : Heap} {L : Nat} (hL : H.length = L) {i0 i1 i2 : Nat} {o0 o1 o2 : Bool} {z0 z1 z2 : Nat} (e0 : H[i0]? = some (.cells o0 z0 (inL f.t))) (e1 : H[i1]? = some (.cells o1 z1 (f.b.flatMap intC))) {D : List Value} (e2 : H[i2]? = some (.cells o2 z2 (l.flatMap rqC ++ D))) :
  KCall prog 29 [fleetV f i0 i1, .agg ⟨polC p⟩, .slice (some ⟨i2, 0, some 2⟩) l.length l.length] H [] (Is (runV L (fRun f p l)) (H ++ [.cells true 5 ((fRun f p l).1.flatMap svC)])) := by
 subst hL
 refine valNsP (fun i => runV i (fRun f p l)) (css := [inL f.t, f.b.flatMap intC, l.flatMap rqC, l.flatMap rqC]) (new := [.cells true 5 ((fRun f p l).1.flatMap svC)]) (Eq.mpr (ERun f p l) ?_) ⟨inL_b 0 _, plainIL 0 _, plainRQ 0 _, plainRQ 0 _, trivial⟩ ⟨⟨_, _, rfl, plainSV 0 _⟩, trivial⟩ rfl rfl (fun _ => rfl) (ids := [i0, i1, i2, i2]) ⟨⟨_, _, [], by rw [List.append_nil]; exact e0⟩, ⟨_, _, [], by rw [List.append_nil]; exact e1⟩, ⟨_, _, D, e2⟩, ⟨_, _, D, e2⟩, trivial⟩ rfl
 delta RRun jj1o jj4l jjp jj2m jj17 jj3f jj4e jj14 jj36 jj2g jj1z jj39 jj22 jj3h jjg jj3d jj2q jj8 jj3v jj1g jj2u jj2f jj7
 refine ⟨⟨rfl, rfl, rfl, trivial⟩, fun H' _ hd => kCheck f p l ht hb hs hd.1 hd.2.1 hd.2.2.1, forkNe (fun e => ?_) (fun e => ?_)⟩
 ·rw [show fRun f p l = ([], errAll f p l) from if_neg e]
  repeat' first | exact inL_b _ _ | exact plainIL _ _ | exact plainRQ _ _ | exact plainSV _ _ | exact (inV_rn _ 0 _).symm | exact wk_QR | exact wk_nil _ _ _ (.inr rfl) | exact trivial | exact rfl | exact wk_refl _ | refine wks_cons ?_ ?_ | exact wks_nil | exact wk_nil _ _ _ (.inl rfl) | (exact wk_Q (by omega)) | refine wk_tupL ?_ | refine wk_aggL ?_ | refine ⟨rfl, ?_⟩ | refine ⟨trivial, ?_⟩ | (refine ⟨vI64 (by omega), ?_⟩) | (refine And.intro (by omega) ?_) | apply And.intro | (exact iEq (by omega)) | (exact vI64 (by omega))
 obtain ⟨c1, c2, c3⟩ := errAll_0 e
 have o := flOk c1
 have ol := lsOk c3
 have l30 := ol.len
 have m1 := o.b1
 have m2 := o.b2
 refine ⟨by omega, ⟨rfl, trivial⟩, fun H' hL hd => kCloneR f.b hb (by omega) hL hd.1, rfl, Nat.zero_le _, ?_, fun _ => rfl, ?_⟩
 ·repeat' first | exact inL_b _ _ | exact plainIL _ _ | exact plainRQ _ _ | exact plainSV _ _ | exact (inV_rn _ 0 _).symm | exact wk_QR | exact wk_nil _ _ _ (.inr rfl) | exact trivial | exact rfl | exact wk_refl _ | refine wks_cons ?_ ?_ | exact wks_nil | exact wk_nil _ _ _ (.inl rfl) | (exact wk_Q (by omega)) | refine wk_tupL ?_ | refine wk_aggL ?_ | refine ⟨rfl, ?_⟩ | refine ⟨trivial, ?_⟩ | (refine ⟨vI64 (by omega), ?_⟩) | (refine And.intro (by omega) ?_) | apply And.intro | (exact iEq (by omega)) | (exact vI64 (by omega))
 intro x hx
 refine forkD (fun q => ?_) (fun q => ?_)
 ·have hfs := flat_snoc intC_len (idxL x) (x : Int) (idx_len x).symm
  rw [show idxL x ++ [(x : Int)] = idxL (x + 1) by unfold idxL; rw [List.range_succ, List.map_append]; rfl] at hfs
  refine ⟨⟨by omega, by decide, ⟨Nat.le_refl _, by rw [flat_len intC_len, idx_len]; omega⟩, ⟨Nat.le_refl _, Nat.le_refl _⟩, rfl⟩, rfl, vI64 (by omega), x + 1, by omega, by omega, rfl, ?_⟩
  repeat' first | exact inL_b _ _ | exact plainIL _ _ | exact plainRQ _ _ | exact plainSV _ _ | exact (inV_rn _ 0 _).symm | exact wk_QR | exact wk_nil _ _ _ (.inr rfl) | (exact congrArg (fun l => some (KObj.cells true 1 l)) hfs) | exact trivial | exact rfl | exact wk_refl _ | refine wks_cons ?_ ?_ | exact wks_nil | exact wk_nil _ _ _ (.inl rfl) | (exact wk_Q (by omega)) | refine wk_tupL ?_ | refine wk_aggL ?_ | refine ⟨rfl, ?_⟩ | refine ⟨trivial, ?_⟩ | (refine ⟨vI64 (by omega), ?_⟩) | (refine And.intro (by omega) ?_) | apply And.intro | (exact iEq (by omega)) | (exact vI64 (by omega))
 obtain rfl : x = l.length := by omega
 refine ⟨by omega, rfl, run_0 o ol, ?_, fun _ => rfl, ?_⟩
 ·rw [op_0, idx_len, opB_0, krep_int, krep_int]
  repeat' first | exact inL_b _ _ | exact plainIL _ _ | exact plainRQ _ _ | exact plainSV _ _ | exact (inV_rn _ 0 _).symm | exact wk_QR | exact wk_nil _ _ _ (.inr rfl) | exact trivial | exact rfl | exact wk_refl _ | refine wks_cons ?_ ?_ | exact wks_nil | exact wk_nil _ _ _ (.inl rfl) | (exact wk_Q (by omega)) | refine wk_tupL ?_ | refine wk_aggL ?_ | refine ⟨rfl, ?_⟩ | refine ⟨trivial, ?_⟩ | (refine ⟨vI64 (by omega), ?_⟩) | (refine And.intro (by omega) ?_) | apply And.intro | (exact iEq (by omega)) | (exact vI64 (by omega))
 intro g i
 refine ⟨runBody f p l g o ol i, fun d => ?_⟩
 have hF := run_end i (by have := of_decide_eq_false d; omega)
 rw [show fRun f p l = (playF f p l, 0) from if_pos e, hF]
 repeat' first | exact inL_b _ _ | exact plainIL _ _ | exact plainRQ _ _ | exact plainSV _ _ | exact (inV_rn _ 0 _).symm | exact wk_QR | exact wk_nil _ _ _ (.inr rfl) | exact trivial | exact rfl | exact wk_refl _ | refine wks_cons ?_ ?_ | exact wks_nil | exact wk_nil _ _ _ (.inl rfl) | (exact wk_Q (by omega)) | refine wk_tupL ?_ | refine wk_aggL ?_ | refine ⟨rfl, ?_⟩ | refine ⟨trivial, ?_⟩ | (refine ⟨vI64 (by omega), ?_⟩) | (refine And.intro (by omega) ?_) | apply And.intro | (exact iEq (by omega)) | (exact vI64 (by omega))
theorem kRun (f : Fleet) (p : Pol) (l : List Rq) (ht : f.t.length <= 4294967296) (hb : f.b.length <= 4294967296) (hs : shortI f.t) {H : Heap} {L : Nat} (hL : H.length = L) {i0 i1 i2 : Nat} {o0 o1 o2 : Bool} {z0 z1 z2 : Nat} (e0 : H[i0]? = some (.cells o0 z0 (inL f.t))) (e1 : H[i1]? = some (.cells o1 z1 (f.b.flatMap intC))) (e2 : H[i2]? = some (.cells o2 z2 (l.flatMap rqC))) :
  KCall prog 29 [fleetV f i0 i1, .agg ⟨polC p⟩, .slice (some ⟨i2, 0, some 2⟩) l.length l.length] H [] (Is (runV L (fRun f p l)) (H ++ [.cells true 5 ((fRun f p l).1.flatMap svC)])) :=
 kRunP f p l ht hb hs hL e0 e1 (D := []) (by rw [List.append_nil]; exact e2)
end
end Go.Proofs.YthdekmpkioikdaaGreat
/- Request: fleets, requests and policies that are made of numbers. No condition. -/
namespace Go.Proofs.YthdekmpkioikdaaGreat
set_option linter.unusedSimpArgs false
set_option linter.unusedVariables false
open Go Go.K
noncomputable section
abbrev digC (L : List Int) (n : Int) : List Value := [.iface (L.length + 1) (.agg ⟨L.flatMap intC⟩), .int .i64 n]
def dVal (L : List Int) (n : Int) : Int := if 0 < L.length then IntKind.wrap .i64 (L.getD (Int.toNat (Int.tmod n ((L.length : Nat) : Int))) 0 + IntKind.wrap .i64 (Int.tdiv n ((L.length : Nat) : Int))) else 0
def dN (L : List Int) (n m : Int) : Int := dVal L n % m
def shW (L : List Int) (n : Int) : Int := 1 + dN L n 5
def shR (L : List Int) (n : Int) : Int := 1 + dN L (n + 1) 12
def shQ (L : List Int) (n : Int) (i : Nat) : Int := n + 1 + 1 + (i : Int) * shW L n
def rwL (L : List Int) (q far : Int) (i : Nat) : Nat -> List Int
 | 0 => []
 | k + 1 => rwL L q far i k ++ [if (i : Int) = (k : Int) then 0 else dN L (q + (k : Int)) (far + 1)]
def shT (L : List Int) (n : Int) : Nat -> List (List Int)
 | 0 => []
 | i + 1 => shT L n i ++ [rwL L (shQ L n i) (shR L n) i (Int.toNat (shW L n))]
def shE (L : List Int) (n : Int) : Int := shQ L n (Int.toNat (shW L n))
def brL (L : List Int) (n : Int) : Nat -> List Int
 | 0 => []
 | x + 1 => brL L n x ++ [dN L (shE L n + 2 * (x : Int) + 1) (shW L n)]
def shC (L : List Int) (n m : Int) (x : Nat) : Bool := decide (dN L (shE L n + 2 * (x : Int)) m < (x : Int))
def shX (L : List Int) (n m : Int) : Nat := firstN (shC L n m) (Int.toNat m + 1)
def shF (L : List Int) (n m : Int) : Fleet := ⟨shT L n (Int.toNat (shW L n)), brL L n (shX L n m)⟩
def shN (L : List Int) (n m : Int) : Int := shE L n + 2 * (shX L n m : Int) + 1
structure AsS where
 l : List Rq
 n : Int
 h : Int
def asV (L : List Int) (a w : Int) (x : Nat) (s : AsS) : AsS :=
 if dN L (s.n + 1) 3 = 0 then
  ⟨s.l ++ [⟨Int.tmod (7 * (x : Int)) 31, s.h + dN L s.n a, dN L (s.n + 1 + 1 + 1) w, dN L (s.n + 1 + 1 + 1 + 1) w, 1 + dN L (s.n + 1 + 1 + 1 + 1 + 1) 15, 1 + dN L (s.n + 1 + 1 + 1 + 1 + 1 + 1) 3, 1 + dN L (s.n + 1 + 1) 60⟩], s.n + 1 + 1 + 1 + 1 + 1 + 1 + 1, s.h + dN L s.n a⟩
 else
  ⟨s.l ++ [⟨Int.tmod (7 * (x : Int)) 31, s.h + dN L s.n a, dN L (s.n + 1 + 1) w, dN L (s.n + 1 + 1 + 1) w, 1 + dN L (s.n + 1 + 1 + 1 + 1) 15, 1 + dN L (s.n + 1 + 1 + 1 + 1 + 1) 3, 0⟩], s.n + 1 + 1 + 1 + 1 + 1 + 1, s.h + dN L s.n a⟩
def asA (L : List Int) (n : Int) : Int := 1 + dN L (n + 1) 15
def asS (L : List Int) (n w : Int) : Nat -> AsS
 | 0 => ⟨[], n + 1 + 1, 0⟩
 | x + 1 => asV L (asA L n) w x (asS L n w x)
def asK (L : List Int) (n m : Int) : Nat := Int.toNat (dN L n (m + 1))
def asL (L : List Int) (n m w : Int) : List Rq := (asS L n w (asK L n m)).l
def asN (L : List Int) (n m w : Int) : Int := (asS L n w (asK L n m)).n
def rlP (L : List Int) (n : Int) : Pol := ⟨dN L n 6, dN L (n + 1) 40, dN L (n + 1 + 1) 4, dN L (n + 1 + 1 + 1) 10, dN L (n + 1 + 1 + 1 + 1) 100⟩
end
end Go.Proofs.YthdekmpkioikdaaGreat
