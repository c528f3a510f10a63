/- Radio: what is withdrawn: the law. No condition. -/
import Derived.Test.YtbgfjemppjhmjaaGreatGW9xP7
import Derived.Test.YtbgfjemppjhmjaaGreatGO9gxP10
import Derived.Test.YtbgfjemppjhmjaaGreatGO12gxW13
import Derived.Test.YtbgfjemppjhmjaaGreatO19g
import Derived.Test.YtbgfjemppjhmjaaGreatRows
import Derived.JoinedCond
import Derived.Test.YtbgfjemppjhmjaaGreatGW2xP2
import Derived.Test.YtbgfjemppjhmjaaGreatGK27xW1
namespace Go.Proofs.YtbgfjemppjhmjaaGreat
open Go Go.K
set_option maxRecDepth 100000
set_option linter.unusedVariables false
set_option linter.unusedSimpArgs false
noncomputable section
attribute [local irreducible] vF
theorem bEq {a b : Bool} (h : a = b) : (Value.bool a) = .bool b := by rw [h]
theorem nmAt {l : List (Int × Int)} {k off : Nat} (h : k < l.length) (ho : off = k * 2) : partA 2 (l.flatMap nmC) off = some (nmV (l.getD k zeroP)) := part_at (n := 2) (d := zeroP) (c := 0) (m := 2) nmC_len h (by omega) (by omega)
theorem hvBad {L : List Msg} (hl : (fgL L).length <= 100000) (a n : Int) : Rbad L a n := by
 unfold Rbad
 refine ⟨rfl, ⟨Nat.zero_le _, fun y hy => (by cases hy)⟩, ?_, fun _ => rfl, fun x hx => ⟨fun b => ?_, fun b => ?_⟩⟩
 ·repeat' first | exact trivial | exact rfl | exact wk_refl _ | refine wkO_cells ?_ | refine wks_cons ?_ ?_ | exact wks_nil | exact wk_nil _ _ _ (.inl rfl) | (exact wk_Q (by omega)) | refine wk_tupL ?_ | refine wk_aggL ?_ | refine joinMax ?_ ?_ ?_ | refine joinMin ?_ ?_ ?_ | refine toMax ?_ | refine toMin ?_ | refine ⟨rfl, ?_⟩ | refine ⟨trivial, ?_⟩ | (refine forkD (fun h => ?_) (fun h => ?_)) | (refine forkNe (fun h => ?_) (fun h => ?_)) | (refine forkEq (fun h => ?_) (fun h => ?_)) | refine forkNot ?_ | (refine ⟨vI64 (by omega), ?_⟩) | (refine And.intro (by omega) ?_) | apply And.intro | (exact iEq (by omega)) | (exact vI64 (by omega))
 ·have h1 : x < (fgL L).length := by have := of_decide_eq_true b; omega
  refine ⟨⟨by omega, by omega⟩, nmAt h1 (by omega), fun c => ?_, fun c => ⟨vI64 (by omega), x + 1, ⟨by omega, fun y hy => ?_⟩, by omega, rfl, ?_⟩⟩
  ·have e : (fgL L).getD x zeroP = (a, n) := by
    have e1 : ((fgL L).getD x zeroP).1 = a /\ ((fgL L).getD x zeroP).2 = n := by simpa using c
    rw [<- e1.1, <- e1.2]
   have hm : (a, n) ∈ fgL L := by rw [<- e]; exact getD_mem h1
   rw [show forgB L a n = true from (fgL_mem (a, n)).1 hm]
   exact ⟨rfl, wk_refl _, trivial⟩
  ·rw [List.take_succ_eq_append_getElem h1] at hy
   rcases List.mem_append.1 hy with q | q
   ·exact hx.2 y q
   ·intro e
    have e2 : (fgL L).getD x zeroP = (a, n) := by rw [List.getD_eq_getElem?_getD, List.getElem?_eq_getElem h1, Option.getD_some, <- List.mem_singleton.1 q, e]
    rw [e2] at c
    simp at c
  ·repeat' first | exact trivial | exact rfl | exact wk_refl _ | refine wkO_cells ?_ | refine wks_cons ?_ ?_ | exact wks_nil | exact wk_nil _ _ _ (.inl rfl) | (exact wk_Q (by omega)) | refine wk_tupL ?_ | refine wk_aggL ?_ | refine joinMax ?_ ?_ ?_ | refine joinMin ?_ ?_ ?_ | refine toMax ?_ | refine toMin ?_ | refine ⟨rfl, ?_⟩ | refine ⟨trivial, ?_⟩ | (refine forkD (fun h => ?_) (fun h => ?_)) | (refine forkNe (fun h => ?_) (fun h => ?_)) | (refine forkEq (fun h => ?_) (fun h => ?_)) | refine forkNot ?_ | (refine ⟨vI64 (by omega), ?_⟩) | (refine And.intro (by omega) ?_) | apply And.intro | (exact iEq (by omega)) | (exact vI64 (by omega))
 ·have h1 : x = (fgL L).length := by have := of_decide_eq_false b; omega
  have e : forgB L a n = false := by
   rw [Bool.eq_false_iff]
   intro w
   have hm := (fgL_mem (L := L) (a, n)).2 w
   have := hx.2 (a, n) (by rw [h1, List.take_length]; exact hm)
   exact this rfl
  rw [e]
  exact ⟨rfl, wk_refl _, trivial⟩
theorem kBad {L : List Msg} (hl : (fgL L).length <= 100000) (a n : Int) {H : Heap} {i j : Nat} (hne : i ≠ j) (hi : H[i]? = some (.cells true 0 [.slice (some ⟨j, 0, some 1⟩) (fgL L).length (fgL L).length])) (hj : H[j]? = some (.cells true 2 ((fgL L).flatMap nmC))) :
  KCall prog 36 [.int .i64 a, .int .i64 n, .pointer (some ⟨i, 0, none⟩)] H [] (Is (.bool (forgB L a n)) H) := by
 have e : ∀ σ, rno σ 3 (.cells true 2 ((fgL L).flatMap nmC)) = .cells true 2 ((fgL L).flatMap nmC) := fun σ => congrArg (KObj.cells true 2) (rnCl (d := 0) (plainNL 0 _)).1
 have key := valKs (fun _ => .bool (forgB L a n)) (os := [.cells true 0 [.slice (some ⟨1, 0, some 1⟩) (fgL L).length (fgL L).length], .cells true 2 ((fgL L).flatMap nmC)]) (new := []) (Eq.mpr (Ebad L a n) (hvBad hl a n))
  (by show (true && (rnoOk 3 (.cells true 2 ((fgL L).flatMap nmC)) && true)) = true; rw [show rnoOk 3 (.cells true 2 ((fgL L).flatMap nmC)) = true from (rnCl (σ := fun _ => none) (d := 0) (plainNL 0 _)).2]; rfl) rfl trivial (ids := [i, j]) (by simp [hne]) (H := H)
  ⟨hi, by rw [e]; exact hj, trivial⟩ (fun j => rfl) (args' := [.int .i64 a, .int .i64 n, .pointer (some ⟨i, 0, none⟩)]) rfl
 rwa [List.append_nil] at key
theorem fgL_len {L : List Msg} : (fgL L).length <= L.length := by
 have h1 := fgP_len (forgF L (List.range L.length)) (List.range (forgF L (List.range L.length)).length)
 have h2 := forgF_len L (List.range L.length)
 rw [List.length_range] at h1 h2
 unfold fgL
 rw [(srtN_perm _).length_eq]; omega
theorem gone_0 {L : List Msg} {m : Msg} (h : goneB L m = false) : m.ki ≠ 3 /\ forgB L m.au m.nu = false := by
 unfold goneB at h
 rw [Bool.or_eq_false_iff, Bool.or_eq_false_iff] at h
 exact ⟨of_decide_eq_false h.1.1, h.1.2⟩
theorem hvWt {X : List Msg} {q : Int} (hk : ∀ m ∈ X, okM m = true) (hX : X.length <= 41) (hw : ∀ m : Msg, m.au = 1 + q % 4 -> m.nu = 1 + (Int.tdiv q 4) % 12 -> goneB (addAll X) m = true) : Rwt X q (.bool true) := by
 obtain ⟨l1, l2, hX2⟩ := addAll_spec X
 have hLk : ∀ m ∈ addAll X, okM m = true := fun m hm => hk m ((hX2 m).1 hm)
 have hfl : (fgL (addAll X)).length <= 100000 := by have := fgL_len (L := addAll X); omega
 have hll : (liveL (addAll X)).length <= (addAll X).length := by rw [<- srtM_len (addAll X)]; exact List.length_filter_le ..
 unfold Rwt
 refine ⟨⟨rfl, trivial⟩, fun H' hl h => ?_, ⟨rfl, rfl, trivial⟩, fun H' hl h => ?_, ⟨rfl, rfl, trivial⟩, fun H' hl h => ?_, rfl, Nat.zero_le _, ?_, fun _ => rfl, fun x hx => ⟨fun b => ?_, fun b => ⟨rfl, Nat.zero_le _, ?_, fun _ => rfl, fun y hy => ⟨fun c => ?_, fun c => ⟨trivial, fun H' _ _ => kAwake H', rfl⟩⟩⟩⟩⟩
 ·have := KCall.wkA (kFilled hk (by omega) h.1) (wks_cons (wk_RF (n := X.length) rfl) wks_nil)
  rw [hl] at this; exact this
 ·have := kLive hLk (by omega) (by decide) h.1 h.2.1
  rw [hl] at this; exact this
 ·have := kForged hLk (by omega) (by decide) h.1 h.2.1
  rw [hl] at this; exact this
 ·exact ⟨rfl, ⟨rfl, rfl, rfl, rfl, wk_refl _, rfl, trivial⟩, trivial, trivial, trivial⟩
 ·have h1 : x < (liveL (addAll X)).length := by have := of_decide_eq_true b; omega
  have hm := live_mem.1 (getD_mem (d := zeroM) h1)
  obtain ⟨g1, g2⟩ := gone_0 hm.2
  refine ⟨⟨by omega, by omega⟩, msgAt (c := 0) h1 (by omega) (by omega) rfl, fun c => ⟨⟨by omega, by omega⟩, msgAt (c := 1) h1 (by omega) (by omega) rfl, fun c2 => ?_, fun c2 => ⟨⟨by omega, by omega⟩, msgAt (c := 0) h1 (by omega) (by omega) rfl, ⟨by omega, by omega⟩, msgAt (c := 1) h1 (by omega) (by omega) rfl, ⟨rfl, rfl, trivial⟩, fun H' hl h => kBad hfl _ _ (by decide) h.1 h.2.1, fun d => (by rw [g2] at d; cases d), fun d => ⟨⟨by omega, by omega⟩, msgAt (c := 3) h1 (by omega) (by omega) rfl, fun e => absurd (eq_of_beq e) g1, fun e => ⟨vI64 (by omega), x + 1, by omega, by omega, rfl, ⟨rfl, rfl, rfl, rfl, wk_refl _, rfl, trivial⟩, trivial, trivial, trivial⟩⟩⟩⟩, fun c => ⟨⟨by omega, by omega⟩, msgAt (c := 0) h1 (by omega) (by omega) rfl, ⟨by omega, by omega⟩, msgAt (c := 1) h1 (by omega) (by omega) rfl, ⟨rfl, rfl, trivial⟩, fun H' hl h => kBad hfl _ _ (by decide) h.1 h.2.1, fun d => (by rw [g2] at d; cases d), fun d => ⟨⟨by omega, by omega⟩, msgAt (c := 3) h1 (by omega) (by omega) rfl, fun e => absurd (eq_of_beq e) g1, fun e => ⟨vI64 (by omega), x + 1, by omega, by omega, rfl, ⟨rfl, rfl, rfl, rfl, wk_refl _, rfl, trivial⟩, trivial, trivial, trivial⟩⟩⟩⟩
  have := hw _ (eq_of_beq c) (eq_of_beq c2)
  rw [hm.2] at this; cases this
 ·exact ⟨rfl, ⟨rfl, rfl, wk_refl _, rfl, rfl, trivial⟩, trivial, trivial, trivial⟩
 ·have h1 : y < X.length := by have := of_decide_eq_true c; omega
  have hmX : X.getD y zeroM ∈ X := getD_mem h1
  refine ⟨⟨by omega, by omega⟩, partM h1 (by omega), fun c3 => ?_, fun c3 => ⟨⟨rfl, rfl, trivial⟩, fun H' hl h => kBad hfl _ _ (by decide) h.1 h.2.1, ?_⟩⟩
  ·have hki := eq_of_beq c3
   refine ⟨rfl, Nat.zero_le _, ⟨rfl, ⟨rfl, bEq (by rw [goneS_0, decide_eq_true hki]; rfl), rfl, rfl, wk_refl _, rfl, rfl, rfl, trivial⟩, trivial, trivial, trivial⟩, fun _ => rfl, fun z hz => ⟨fun d => ?_, fun d => ?_⟩⟩
   ·have h2 : z < X.length := by have := of_decide_eq_true d; omega
    have hs := goneS_succ (L := addAll X) (m := X.getD y zeroM) h2
    refine ⟨fun e => ⟨vI64 (by omega), z + 1, by omega, by omega, rfl, ⟨rfl, bEq (by rw [hs, e]; rfl), rfl, rfl, wk_refl _, rfl, rfl, rfl, trivial⟩, trivial, trivial, trivial⟩, fun e => ⟨⟨by omega, by omega⟩, msgAt (c := 3) h2 (by omega) (by omega) rfl, fun f => ⟨⟨by omega, by omega⟩, msgAt (c := 0) h2 (by omega) (by omega) rfl, fun g => ⟨⟨by omega, by omega⟩, msgAt (c := 6) h2 (by omega) (by omega) rfl, fun k => ⟨⟨by omega, by omega⟩, msgAt (c := 0) h2 (by omega) (by omega) rfl, ⟨by omega, by omega⟩, msgAt (c := 1) h2 (by omega) (by omega) rfl, ⟨rfl, rfl, trivial⟩, fun H' hl h => kBad hfl _ _ (by decide) h.1 h.2.1, vI64 (by omega), z + 1, by omega, by omega, rfl, ⟨rfl, bEq ?_, rfl, rfl, wk_refl _, rfl, rfl, rfl, trivial⟩, trivial, trivial, trivial⟩, fun k => ⟨vI64 (by omega), z + 1, by omega, by omega, rfl, ⟨rfl, bEq ?_, rfl, rfl, wk_refl _, rfl, rfl, rfl, trivial⟩, trivial, trivial, trivial⟩⟩, fun g => ⟨vI64 (by omega), z + 1, by omega, by omega, rfl, ⟨rfl, bEq ?_, rfl, rfl, wk_refl _, rfl, rfl, rfl, trivial⟩, trivial, trivial, trivial⟩⟩, fun f => ⟨vI64 (by omega), z + 1, by omega, by omega, rfl, ⟨rfl, bEq ?_, rfl, rfl, wk_refl _, rfl, rfl, rfl, trivial⟩, trivial, trivial, trivial⟩⟩⟩
    ·rw [hs, e, decide_eq_true (eq_of_beq f), decide_eq_true (eq_of_beq g), decide_eq_true (eq_of_beq k)]; rfl
    ·rw [hs, e, show decide ((X.getD z zeroM).va = (X.getD y zeroM).nu) = false from decide_eq_false (fun q => by rw [q] at k; simp at k)]; simp
    ·rw [hs, e, show decide ((X.getD z zeroM).au = (X.getD y zeroM).au) = false from decide_eq_false (fun q => by rw [q] at g; simp at g)]; simp
    ·rw [hs, e, show decide ((X.getD z zeroM).ki = 3) = false from decide_eq_false (fun q => by rw [q] at f; simp at f)]; simp
   ·have hz1 : z = X.length := by have := of_decide_eq_false d; omega
    subst hz1
    have hg := goneS_end hX2 (X.getD y zeroM)
    refine ⟨rfl, Nat.zero_le _, ⟨rfl, ⟨rfl, rfl, rfl, rfl, rfl, wk_refl _, rfl, rfl, rfl, rfl, trivial⟩, trivial, trivial, trivial⟩, fun _ => rfl, fun v hv => ⟨fun e => ?_, fun e => ?_⟩⟩
    ·have h3 : v < (liveL (addAll X)).length := by have := of_decide_eq_true e; omega
     have hs := thereS_succ (m := X.getD y zeroM) h3
     refine ⟨fun f => ⟨vI64 (by omega), v + 1, by omega, by omega, rfl, ⟨rfl, bEq (by rw [hs, f]; rfl), rfl, rfl, rfl, wk_refl _, rfl, rfl, rfl, rfl, trivial⟩, trivial, trivial, trivial⟩, fun f => ⟨⟨by omega, by omega⟩, partM h3 (by omega), vI64 (by omega), v + 1, by omega, by omega, rfl, ⟨rfl, bEq ?_, rfl, rfl, rfl, wk_refl _, rfl, rfl, rfl, rfl, trivial⟩, trivial, trivial, trivial⟩⟩
     rw [msgE, hs, f, Bool.false_or]
    ·have hv1 : v = (liveL (addAll X)).length := by have := of_decide_eq_false e; omega
     subst hv1
     have ht := there_gone hX2 (m := X.getD y zeroM) hmX
     refine ⟨fun f => ?_, fun _ => ⟨fun f => ⟨vI64 (by omega), y + 1, by omega, by omega, rfl, ⟨rfl, rfl, wk_refl _, rfl, rfl, trivial⟩, trivial, trivial, trivial⟩, fun f => ⟨fun g => ⟨vI64 (by omega), y + 1, by omega, by omega, rfl, ⟨rfl, rfl, wk_refl _, rfl, rfl, trivial⟩, trivial, trivial, trivial⟩, fun g => ?_⟩⟩⟩
     ·rw [ht] at f
      cases hq : goneS (addAll X) X (X.getD y zeroM) X.length <;> rw [hq] at f <;> cases f
     ·have hlv : X.getD y zeroM ∈ liveL (addAll X) := live_mem.2 ⟨(hX2 _).2 hmX, by rw [<- hg]; exact g⟩
      have h2 : (X.getD y zeroM).ki = 2 := by simpa using f
      obtain ⟨n1, n2, n3, n4⟩ := not_told hlv h2
      have hok := okM_spec (hk _ hmX)
      refine ⟨⟨rfl, rfl, trivial⟩, fun H' hl h => ?_, fun k => (by rw [n2] at k; simp at k), fun _ => ⟨fun k => (by rw [n3] at k; simp at k), fun _ => ⟨fun k => (by rw [decide_eq_false (by omega)] at k; cases k), fun _ => ⟨vI64 (by omega), y + 1, by omega, by omega, rfl, ⟨rfl, rfl, wk_refl _, rfl, rfl, trivial⟩, trivial, trivial, trivial⟩⟩⟩⟩
      have := kNotice hLk (by omega) (c := (X.getD y zeroM).ce) (by omega) (by omega) (by decide) h.1 h.2.1
      rw [n1] at this; exact this
  ·have hki : ¬ (X.getD y zeroM).ki = 3 := fun q => by rw [q] at c3; simp at c3
   refine ⟨rfl, Nat.zero_le _, ⟨rfl, ⟨rfl, bEq (by rw [goneS_0, decide_eq_false hki, Bool.false_or]), rfl, rfl, wk_refl _, rfl, rfl, rfl, trivial⟩, trivial, trivial, trivial⟩, fun _ => rfl, fun z hz => ⟨fun d => ?_, fun d => ?_⟩⟩
   ·have h2 : z < X.length := by have := of_decide_eq_true d; omega
    have hs := goneS_succ (L := addAll X) (m := X.getD y zeroM) h2
    refine ⟨fun e => ⟨vI64 (by omega), z + 1, by omega, by omega, rfl, ⟨rfl, bEq (by rw [hs, e]; rfl), rfl, rfl, wk_refl _, rfl, rfl, rfl, trivial⟩, trivial, trivial, trivial⟩, fun e => ⟨⟨by omega, by omega⟩, msgAt (c := 3) h2 (by omega) (by omega) rfl, fun f => ⟨⟨by omega, by omega⟩, msgAt (c := 0) h2 (by omega) (by omega) rfl, fun g => ⟨⟨by omega, by omega⟩, msgAt (c := 6) h2 (by omega) (by omega) rfl, fun k => ⟨⟨by omega, by omega⟩, msgAt (c := 0) h2 (by omega) (by omega) rfl, ⟨by omega, by omega⟩, msgAt (c := 1) h2 (by omega) (by omega) rfl, ⟨rfl, rfl, trivial⟩, fun H' hl h => kBad hfl _ _ (by decide) h.1 h.2.1, vI64 (by omega), z + 1, by omega, by omega, rfl, ⟨rfl, bEq ?_, rfl, rfl, wk_refl _, rfl, rfl, rfl, trivial⟩, trivial, trivial, trivial⟩, fun k => ⟨vI64 (by omega), z + 1, by omega, by omega, rfl, ⟨rfl, bEq ?_, rfl, rfl, wk_refl _, rfl, rfl, rfl, trivial⟩, trivial, trivial, trivial⟩⟩, fun g => ⟨vI64 (by omega), z + 1, by omega, by omega, rfl, ⟨rfl, bEq ?_, rfl, rfl, wk_refl _, rfl, rfl, rfl, trivial⟩, trivial, trivial, trivial⟩⟩, fun f => ⟨vI64 (by omega), z + 1, by omega, by omega, rfl, ⟨rfl, bEq ?_, rfl, rfl, wk_refl _, rfl, rfl, rfl, trivial⟩, trivial, trivial, trivial⟩⟩⟩
    ·rw [hs, e, decide_eq_true (eq_of_beq f), decide_eq_true (eq_of_beq g), decide_eq_true (eq_of_beq k)]; rfl
    ·rw [hs, e, show decide ((X.getD z zeroM).va = (X.getD y zeroM).nu) = false from decide_eq_false (fun q => by rw [q] at k; simp at k)]; simp
    ·rw [hs, e, show decide ((X.getD z zeroM).au = (X.getD y zeroM).au) = false from decide_eq_false (fun q => by rw [q] at g; simp at g)]; simp
    ·rw [hs, e, show decide ((X.getD z zeroM).ki = 3) = false from decide_eq_false (fun q => by rw [q] at f; simp at f)]; simp
   ·have hz1 : z = X.length := by have := of_decide_eq_false d; omega
    subst hz1
    have hg := goneS_end hX2 (X.getD y zeroM)
    refine ⟨rfl, Nat.zero_le _, ⟨rfl, ⟨rfl, rfl, rfl, rfl, rfl, wk_refl _, rfl, rfl, rfl, rfl, trivial⟩, trivial, trivial, trivial⟩, fun _ => rfl, fun v hv => ⟨fun e => ?_, fun e => ?_⟩⟩
    ·have h3 : v < (liveL (addAll X)).length := by have := of_decide_eq_true e; omega
     have hs := thereS_succ (m := X.getD y zeroM) h3
     refine ⟨fun f => ⟨vI64 (by omega), v + 1, by omega, by omega, rfl, ⟨rfl, bEq (by rw [hs, f]; rfl), rfl, rfl, rfl, wk_refl _, rfl, rfl, rfl, rfl, trivial⟩, trivial, trivial, trivial⟩, fun f => ⟨⟨by omega, by omega⟩, partM h3 (by omega), vI64 (by omega), v + 1, by omega, by omega, rfl, ⟨rfl, bEq ?_, rfl, rfl, rfl, wk_refl _, rfl, rfl, rfl, rfl, trivial⟩, trivial, trivial, trivial⟩⟩
     rw [msgE, hs, f, Bool.false_or]
    ·have hv1 : v = (liveL (addAll X)).length := by have := of_decide_eq_false e; omega
     subst hv1
     have ht := there_gone hX2 (m := X.getD y zeroM) hmX
     refine ⟨fun f => ?_, fun _ => ⟨fun f => ⟨vI64 (by omega), y + 1, by omega, by omega, rfl, ⟨rfl, rfl, wk_refl _, rfl, rfl, trivial⟩, trivial, trivial, trivial⟩, fun f => ⟨fun g => ⟨vI64 (by omega), y + 1, by omega, by omega, rfl, ⟨rfl, rfl, wk_refl _, rfl, rfl, trivial⟩, trivial, trivial, trivial⟩, fun g => ?_⟩⟩⟩
     ·rw [ht] at f
      cases hq : goneS (addAll X) X (X.getD y zeroM) X.length <;> rw [hq] at f <;> cases f
     ·have hlv : X.getD y zeroM ∈ liveL (addAll X) := live_mem.2 ⟨(hX2 _).2 hmX, by rw [<- hg]; exact g⟩
      have h2 : (X.getD y zeroM).ki = 2 := by simpa using f
      obtain ⟨n1, n2, n3, n4⟩ := not_told hlv h2
      have hok := okM_spec (hk _ hmX)
      refine ⟨⟨rfl, rfl, trivial⟩, fun H' hl h => ?_, fun k => (by rw [n2] at k; simp at k), fun _ => ⟨fun k => (by rw [n3] at k; simp at k), fun _ => ⟨fun k => (by rw [decide_eq_false (by omega)] at k; cases k), fun _ => ⟨vI64 (by omega), y + 1, by omega, by omega, rfl, ⟨rfl, rfl, wk_refl _, rfl, rfl, trivial⟩, trivial, trivial, trivial⟩⟩⟩⟩
      have := kNotice hLk (by omega) (c := (X.getD y zeroM).ce) (by omega) (by omega) (by decide) h.1 h.2.1
      rw [n1] at this; exact this
theorem takeAll {l : List Msg} {n : Nat} (h : n = l.length * 7) : List.take n (List.drop 0 (l.flatMap msgC)) = l.flatMap msgC := by
 rw [List.drop_zero, h, <- msgs_len, List.take_length]
theorem msgs_one (l : List Msg) : (l.flatMap msgC : List Value).all (fun v => one1 v) = true := by
 rw [List.all_eq_true]
 intro v hv
 rw [List.mem_flatMap] at hv
 obtain ⟨m, _, hm⟩ := hv
 simp only [msgC, List.mem_cons, List.not_mem_nil, or_false] at hm
 rcases hm with rfl | rfl | rfl | rfl | rfl | rfl | rfl <;> rfl
theorem kPick4 (x : Int) (H : Heap) : KCall prog 16 [.int .i64 x, .int .i64 4] H [] (Is (.int .i64 (x % 4)) H) := kPick x 4 (by omega) (by omega) H
theorem kPick12 (x : Int) (H : Heap) : KCall prog 16 [.int .i64 x, .int .i64 12] H [] (Is (.int .i64 (x % 12)) H) := kPick x 12 (by omega) (by omega) H
theorem hvWtA (f : Bool) (A : List Int) (n q : Int) : Rwt (allW f A n q) q (.bool true) := by
 have h1 := (sd_ok A n).1
 refine hvWt (allW_ok f A n q) (by rw [allW_len]; omega) fun m ha hn => ?_
 exact wd_gone (f := f) (A := A) (n := n) (q := q) (fun m => (addAll_spec _).2.2 m) (addAll_spec _).1 ha hn
theorem inI_q {q : Int} (h : inI q) : -2305843009213693953 <= Int.tdiv q 4 /\ Int.tdiv q 4 <= 2305843009213693953 := by
 have h1 := Int.mul_tdiv_add_tmod q 4
 have h2 := Int.lt_tmod_of_pos q (by omega : (0 : Int) < 4)
 have h3 := Int.tmod_lt_of_pos q (by omega : (0 : Int) < 4)
 unfold inI at h
 omega
theorem hvWd1 (A : List Int) (n q : Int) (hq : inI q) (h0 : ¬ (sd A n).length = 0) : Rwd1 (.bool true) A n q := by
 obtain ⟨s1, s2, s3, s4⟩ := sd_ok A n
 have q1 := Int.emod_nonneg q (b := 4) (by omega)
 have q2 := Int.emod_lt_of_pos q (b := 4) (by omega)
 have q3 := Int.emod_nonneg (Int.tdiv q 4) (b := 12) (by omega)
 have q4 := Int.emod_lt_of_pos (Int.tdiv q 4) (b := 12) (by omega)
 have q5 := inI_q hq
 have hml := msgs_len (sd A n)
 have hta := takeAll (l := sd A n) (n := (sd A n).length * 7) rfl
 have hal := allW_len true A n q
 unfold Rwd1
 refine ⟨trivial, fun H' _ _ => kPick41 n H', ⟨rfl, trivial⟩, fun H' hl h => ?_, trivial, fun H' _ _ => kPick4 q H', vI64 (by omega), vI64 (by omega), trivial, fun H' _ _ => kPick12 _ H', vI64 (by omega), fun c => absurd c h0, fun _ => ⟨⟨by omega, h0, ⟨Nat.le_refl _, Nat.le_refl _⟩, ⟨Nat.le_refl _, by omega⟩, by rw [hta]; exact msgs_one _⟩, rfl, fun c => absurd c h0, fun _ => ⟨⟨by omega, h0, ⟨Nat.le_refl _, by simp⟩, ⟨Nat.le_refl _, by omega⟩, by rw [hta]; exact msgs_one _⟩, rfl, ?_, ?_, hvWtA true A n q⟩⟩⟩
 ·have := kSd A n h.1
  rw [hl] at this; exact this
 ·rw [hta]; rfl
 ·rw [hal, Nat.add_comm]
theorem hvWd2 (A : List Int) (n q : Int) (hq : inI q) (h0 : ¬ (sd A n).length = 0) : Rwd2 (.bool true) A n q := by
 obtain ⟨s1, s2, s3, s4⟩ := sd_ok A n
 have q1 := Int.emod_nonneg q (b := 4) (by omega)
 have q2 := Int.emod_lt_of_pos q (b := 4) (by omega)
 have q3 := Int.emod_nonneg (Int.tdiv q 4) (b := 12) (by omega)
 have q4 := Int.emod_lt_of_pos (Int.tdiv q 4) (b := 12) (by omega)
 have q5 := inI_q hq
 have hml := msgs_len (sd A n)
 have hta := takeAll (l := sd A n) (n := (sd A n).length * 7) rfl
 have hal := allW_len false A n q
 have e0 : (List.take (0 * 7) (List.drop 0 ([] : List Value))) ++ (List.take ((sd A n).length * 7) (List.drop 0 ((sd A n).flatMap msgC))) = (sd A n).flatMap msgC := by rw [hta]; rfl
 unfold Rwd2
 refine ⟨trivial, fun H' _ _ => kPick41 n H', ⟨rfl, trivial⟩, fun H' hl h => ?_, trivial, fun H' _ _ => kPick4 q H', vI64 (by omega), vI64 (by omega), trivial, fun H' _ _ => kPick12 _ H', vI64 (by omega), fun c => absurd c h0, fun _ => ⟨⟨by omega, h0, ⟨Nat.le_refl _, Nat.le_refl _⟩, ⟨Nat.le_refl _, by omega⟩, by rw [hta]; exact msgs_one _⟩, rfl, ⟨by omega, by decide, ⟨Nat.le_refl _, by rw [e0]; omega⟩, ⟨Nat.le_refl _, by simp⟩, rfl⟩, rfl, ?_, ?_, hvWtA false A n q⟩⟩
 ·have := kSd A n h.1
  rw [hl] at this; exact this
 ·rw [e0, Nat.zero_add, hta]
  show some (KObj.cells true 7 ((sd A n).flatMap msgC ++ [wM q].flatMap msgC)) = some (.cells true 7 ((sd A n ++ [wM q]).flatMap msgC))
  rw [List.flatMap_append]
 ·rw [hal, Nat.zero_add]
theorem allW_0 {A : List Int} {n : Int} (h0 : (sd A n).length = 0) (f : Bool) (q : Int) : allW f A n q = [wM q] := by
 have e := List.length_eq_zero_iff.1 h0
 unfold allW
 rw [e]
 split <;> rfl
theorem kSd0 {A : List Int} {n : Int} (h0 : (sd A n).length = 0) {H : Heap} {D : Nat} (hD : H[D]? = some (.cells true 0 (digC A 0))) :
  KCall prog 25 [.pointer (some ⟨D, 0, none⟩), .int .i64 ((Int.toNat (n % 41) : Nat) : Int)] H [D] (Is (.slice (some ⟨H.length, 0, some 1⟩) 0 0) (H.set D (.cells true 0 (digC A (sdN A n))) ++ [.cells true 7 []])) := by
 have e := List.length_eq_zero_iff.1 h0
 have := kSd A n hD
 rw [e] at this; exact this
theorem hvWd3 (A : List Int) (n q : Int) (hq : inI q) (h0 : (sd A n).length = 0) : Rwd3 (.bool true) A n q := by
 have q1 := Int.emod_nonneg q (b := 4) (by omega)
 have q2 := Int.emod_lt_of_pos q (b := 4) (by omega)
 have q3 := Int.emod_nonneg (Int.tdiv q 4) (b := 12) (by omega)
 have q4 := Int.emod_lt_of_pos (Int.tdiv q 4) (b := 12) (by omega)
 have q5 := inI_q hq
 have e := allW_0 h0 true q
 unfold Rwd3
 refine ⟨trivial, fun H' _ _ => kPick41 n H', ⟨rfl, trivial⟩, fun H' hl h => ?_, trivial, fun H' _ _ => kPick4 q H', vI64 (by omega), vI64 (by omega), trivial, fun H' _ _ => kPick12 _ H', vI64 (by omega), ?_, ?_, hvWtA true A n q⟩
 ·have := kSd0 h0 h.1
  rw [hl] at this; exact this
 ·rw [e]; rfl
 ·rw [e]; rfl
theorem hvWd4 (A : List Int) (n q : Int) (hq : inI q) (h0 : (sd A n).length = 0) : Rwd4 (.bool true) A n q := by
 have q1 := Int.emod_nonneg q (b := 4) (by omega)
 have q2 := Int.emod_lt_of_pos q (b := 4) (by omega)
 have q3 := Int.emod_nonneg (Int.tdiv q 4) (b := 12) (by omega)
 have q4 := Int.emod_lt_of_pos (Int.tdiv q 4) (b := 12) (by omega)
 have q5 := inI_q hq
 have e := allW_0 h0 false q
 unfold Rwd4
 refine ⟨trivial, fun H' _ _ => kPick41 n H', ⟨rfl, trivial⟩, fun H' hl h => ?_, trivial, fun H' _ _ => kPick4 q H', vI64 (by omega), vI64 (by omega), trivial, fun H' _ _ => kPick12 _ H', vI64 (by omega), ?_, ?_, hvWtA false A n q⟩
 ·have := kSd0 h0 h.1
  rw [hl] at this; exact this
 ·rw [e]; rfl
 ·rw [e]; rfl
theorem kWithdrawnLaw (A : List Int) (n q : Int) (f : Bool) (hq : inI q) (H : Heap) : KCall prog 7 [dI A, .int .i64 n, .int .i64 q, .bool f] H [] (Is (.bool true) H) := by
 have hb : ∀ b : Bool, ([dI A, .int .i64 n, .int .i64 q, .bool b] : List Value).all (belowC 0) = true := fun b => by
  show (belowC 0 (dI A) && true) = true
  rw [dI_b]; rfl
 by_cases h0 : (sd A n).length = 0
 ·cases f with
  | true => exact valK 40 (args_rn (hb true)) rfl (Eq.mpr (Ewd3 _ A n q) (hvWd3 A n q hq h0)) H
  | false => exact valK 40 (args_rn (hb false)) rfl (Eq.mpr (Ewd4 _ A n q) (hvWd4 A n q hq h0)) H
 ·cases f with
  | true => exact valK 40 (args_rn (hb true)) rfl (Eq.mpr (Ewd1 _ A n q) (hvWd1 A n q hq h0)) H
  | false => exact valK 40 (args_rn (hb false)) rfl (Eq.mpr (Ewd2 _ A n q) (hvWd2 A n q hq h0)) H
end
end Go.Proofs.YtbgfjemppjhmjaaGreat
/- How laws' arguments are read. No condition. -/
namespace Go.Proofs.YtbgfjemppjhmjaaGreat
set_option linter.unusedSimpArgs false
open Go Go.K Go.ChangeShapes Go.WideShapes Go.ChangeAt Go.RowKit
set_option maxRecDepth 100000
set_option linter.unusedVariables false
noncomputable section
theorem own : ownKnob Tryz.prog.godebug = none := by kernel_rfl
theorem sized : slicesSized Tryz.prog = true := by kernel_rfl
abbrev known (t : TypeId) : Prop := t < Tryz.prog.types.size
theorem kids : Kids Tryz.prog known := kids_rows (by kernel_rfl) (by kernel_rfl)
theorem goodAD_cons {n : Nat} {t : TypeId} {ts : List TypeId} {vs : List Value} (h : GoodAD Tryz.prog n (t :: ts) vs) : ∃ v vs', vs = v :: vs' /\ GoodVD Tryz.prog n t v /\ GoodAD Tryz.prog n ts vs' := by
 cases vs with
 | nil => exact h.elim
 | cons v vs => exact ⟨v, vs, rfl, h.1, h.2⟩
theorem goodAD_nil {n : Nat} {vs : List Value} (h : GoodAD Tryz.prog n [] vs) : vs = [] := by
 cases vs with
 | nil => rfl
 | cons v vs => exact h.elim
theorem goodD_i64 {n : Nat} {c : List Value} (h : GoodD Tryz.prog (n + 1) 3 c) : ∃ x : Int, c = [.int .i64 x] /\ inI x := by
 unfold GoodD at h
 rw [show Tryz.prog.underlying 3 = some (.int .i64) by kernel_rfl] at h
 obtain ⟨x, rfl, h1, h2⟩ := h
 refine ⟨x, rfl, ?_⟩
 simp only [IntKind.min, IntKind.max, IntKind.signed, IntKind.bits] at h1 h2
 unfold inI
 simp at h1 h2
 omega
theorem goodVD_int {v : Value} (h : GoodVD Tryz.prog 6 3 v) : ∃ x : Int, v = .int .i64 x /\ inI x := by
 unfold GoodVD at h
 rw [show Tryz.prog.underlying 3 = some (.int .i64) by kernel_rfl] at h
 obtain ⟨x, h1, h2⟩ := goodD_i64 h
 exact ⟨x, by simpa using h1, h2⟩
theorem goodVD_bool {v : Value} (h : GoodVD Tryz.prog 6 4 v) : ∃ b : Bool, v = .bool b := by
 unfold GoodVD at h
 rw [show Tryz.prog.underlying 4 = some .bool by kernel_rfl] at h
 unfold GoodD at h
 rw [show Tryz.prog.underlying 4 = some .bool by kernel_rfl] at h
 obtain ⟨b, h1⟩ := h
 exact ⟨b, by simpa using h1⟩
theorem goodVD_ints {v : Value} (h : GoodVD Tryz.prog 6 22 v) : ∃ L : List Int, v = .iface (L.length + 1) (.agg ⟨L.flatMap intC⟩) /\ L.length <= maxLen /\ ∀ x ∈ L, inI x := by
 unfold GoodVD at h
 rw [show Tryz.prog.underlying 22 = some (.slice 3) by kernel_rfl] at h
 unfold GoodD at h
 rw [show Tryz.prog.underlying 22 = some (.slice 3) by kernel_rfl] at h
 obtain ⟨len, ds, h1, h2, h3, h4⟩ := h
 obtain ⟨xs, e1, e2, e3⟩ := goodL_list (f := intC) (q := inI) (fun c hc => goodD_i64 (n := 4) hc) len ds h4
 subst e1 e2
 exact ⟨xs, by simpa using h1, h3, e3⟩
end
end Go.Proofs.YtbgfjemppjhmjaaGreat
