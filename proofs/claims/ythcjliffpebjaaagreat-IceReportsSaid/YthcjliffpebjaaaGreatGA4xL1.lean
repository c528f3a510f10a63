/- Ice: the examples of the chapter (awake), as a contract. No condition. -/
import Derived.Test.YthcjliffpebjaaaGreatA4a
import Derived.Test.YthcjliffpebjaaaGreatGB5xR6g
import Derived.Test.YthcjliffpebjaaaGreatR5
import Derived.Test.YthcjliffpebjaaaGreatRows
import Derived.JoinedCond
import Derived.Test.YthcjliffpebjaaaGreatGS0xP1a
namespace Go.Proofs.YthcjliffpebjaaaGreat
set_option linter.unusedSimpArgs false
set_option linter.unusedVariables false
open Go Go.K
set_option maxRecDepth 100000
noncomputable section
attribute [local irreducible] vF
theorem kAwake (H : Heap) : KCall prog F.polynyalaw01_awake [] H [] (Is (.bool true) H) := by
  have hv : vF prog msk (dm impI) 100000 true 40 true F.polynyalaw01_awake [] ⟨0, .leaf⟩ none .auto (fun v _ _ => isTrueV v) := of_eq_true awakeRun
  have h0 := vc (P := prog) (mask := msk) (dm := dm impI) (rounds := 100000) (mixed := true) mskOk mixed 40 (f := F.polynyalaw01_awake) (args := []) (H := ⟨0, .leaf⟩) (M := none) (h := .auto) (Q := fun v _ => isTrueV v) hv
  have h1 : KCall prog F.polynyalaw01_awake [] [] [] (fun v _ => v = .bool true) := h0.post (fun v H' h => by
      cases v <;> first | exact h.elim | (rename_i b; cases b <;> first | rfl | exact h.elim))
  have h2 : KCall prog F.polynyalaw01_awake [] [] [] (Is (.bool true) []) := KCall.clean h1 rfl
  have h3 := KCall.frame (H := H) (new := []) (d := 3) (σ := fun _ => none) ⟨fun g hg => absurd hg (by rw [glob0]; exact Nat.not_lt_zero _), fun _ _ h => (by cases h), fun id h => absurd h (Nat.not_lt_zero _), fun _ _ _ h => (by cases h), fun _ _ _ h => (by cases h)⟩ h2 rfl rfl
  simpa [rn] using h3
end
end Go.Proofs.YthcjliffpebjaaaGreat
/- Ice: IceReports returns true. No condition. -/
namespace Go.Proofs.YthcjliffpebjaaaGreat
open Go Go.K
set_option maxRecDepth 100000
set_option linter.unusedVariables false
set_option linter.unusedSimpArgs false
noncomputable section
attribute [local irreducible] vF hasK popc
theorem twoId {H : Heap} {id id2 : Nat} {own own2 : Bool} {z z2 : Nat} {cs ds : List Value} (h1 : H[id]? = some (.cells own z cs)) (h2 : H[id2]? = some (.cells own2 z2 ds)) : ∀ (k : Nat) (c : List Value), [cs, ds][k]? = some c → ∃ id' own z, [id, id2][k]? = some id' ∧ H[id']? = some (KObj.cells own z c) := by
  intro k c h
  match k with
  | 0 => cases h; exact ⟨id, own, z, rfl, h1⟩
  | 1 => cases h; exact ⟨id2, own2, z2, rfl, h2⟩
theorem twoCs {cs ds : List Value} (h1 : cs.all (belowC 0) = true) (h2 : ds.all (belowC 0) = true) : ∀ c ∈ [cs, ds], c.all (belowC 0) = true := by
  intro c hc
  rcases List.mem_cons.1 hc with rfl | hc
  · exact h1
  · rw [List.mem_singleton.1 hc]; exact h2
theorem kSameTruths (a : List Bool) (ha : a.length ≤ 4294967296) (H : Heap) : KCall prog F.polynyakit_SameTruths [dB a, dB a] H [] (Is (.bool true) H) := by
  refine valK 40 (fun σ => by rw [List.map_cons, List.map_cons, List.map_nil, dB_rn σ 3]) rfl (Eq.mpr (ESameTruths _ a) ?_) H
  unfold RSameTruths
  refine forkF (by simp only [bne_self_eq_false, beq_self_eq_true, Bool.and_self, Bool.not_true, Bool.not_false]) ⟨rfl, Nat.zero_le _, ?_, fun _ => rfl, ?_⟩
  · repeat' first | exact (dB_rn _ 1 _).symm | exact trivial | exact rfl | exact wk_refl _ | refine wkO_cells ?_ | refine wks_cons ?_ ?_ | exact wks_nil | exact wk_nil _ _ _ (.inl rfl) | (exact wk_Q (by omega)) | refine wk_tupL ?_ | refine wk_aggL ?_ | refine ⟨rfl, ?_⟩ | refine ⟨trivial, ?_⟩ | (refine forkD (fun h => ?_) (fun h => ?_)) | (refine forkNe (fun h => ?_) (fun h => ?_)) | (refine forkEq (fun h => ?_) (fun h => ?_)) | refine forkNot ?_ | (refine ⟨vI64 (by omega), ?_⟩) | (refine And.intro (by omega) ?_) | apply And.intro | (exact iEq (by omega)) | (exact vI64 (by omega))
  intro x hx
  refine forkD (fun h => ?_) (fun h => rfl)
  have hlt : x < a.length := by omega
  refine ⟨by omega, boolAt0 hlt, by omega, boolAt0 hlt, forkF (by simp only [bne_self_eq_false, beq_self_eq_true, Bool.and_self, Bool.not_true, Bool.not_false]) ⟨vI64 (by omega), x + 1, by omega, by omega, rfl, ?_⟩⟩
  repeat' first | exact (dB_rn _ 1 _).symm | exact trivial | exact rfl | exact wk_refl _ | refine wkO_cells ?_ | refine wks_cons ?_ ?_ | exact wks_nil | exact wk_nil _ _ _ (.inl rfl) | (exact wk_Q (by omega)) | refine wk_tupL ?_ | refine wk_aggL ?_ | refine ⟨rfl, ?_⟩ | refine ⟨trivial, ?_⟩ | (refine forkD (fun h => ?_) (fun h => ?_)) | (refine forkNe (fun h => ?_) (fun h => ?_)) | (refine forkEq (fun h => ?_) (fun h => ?_)) | refine forkNot ?_ | (refine ⟨vI64 (by omega), ?_⟩) | (refine And.intro (by omega) ?_) | apply And.intro | (exact iEq (by omega)) | (exact vI64 (by omega))
theorem kSameIntsD (a : List Int) (ha : a.length ≤ 4294967296) (H : Heap) : KCall prog F.polynyakit_SameInts [dI a, dI a] H [] (Is (.bool true) H) := by
  refine valK 40 (fun σ => by rw [List.map_cons, List.map_cons, List.map_nil, dI_rn σ 2]) rfl (Eq.mpr (ESameIntsD _ a) ?_) H
  unfold RSameIntsD
  refine forkF (by simp only [bne_self_eq_false, beq_self_eq_true, Bool.and_self, Bool.not_true, Bool.not_false]) ⟨rfl, Nat.zero_le _, ?_, fun _ => rfl, ?_⟩
  · repeat' first | exact (dI_rn _ 0 _).symm | exact trivial | exact rfl | exact wk_refl _ | refine wkO_cells ?_ | refine wks_cons ?_ ?_ | exact wks_nil | exact wk_nil _ _ _ (.inl rfl) | (exact wk_Q (by omega)) | refine wk_tupL ?_ | refine wk_aggL ?_ | refine ⟨rfl, ?_⟩ | refine ⟨trivial, ?_⟩ | (refine forkD (fun h => ?_) (fun h => ?_)) | (refine forkNe (fun h => ?_) (fun h => ?_)) | (refine forkEq (fun h => ?_) (fun h => ?_)) | refine forkNot ?_ | (refine ⟨vI64 (by omega), ?_⟩) | (refine And.intro (by omega) ?_) | apply And.intro | (exact iEq (by omega)) | (exact vI64 (by omega))
  intro x hx
  refine forkD (fun h => ?_) (fun h => rfl)
  have hlt : x < a.length := by omega
  refine ⟨by omega, cell_int0 hlt, by omega, cell_int0 hlt, forkF (by simp only [bne_self_eq_false, beq_self_eq_true, Bool.and_self, Bool.not_true, Bool.not_false]) ⟨vI64 (by omega), x + 1, by omega, by omega, rfl, ?_⟩⟩
  repeat' first | exact (dI_rn _ 0 _).symm | exact trivial | exact rfl | exact wk_refl _ | refine wkO_cells ?_ | refine wks_cons ?_ ?_ | exact wks_nil | exact wk_nil _ _ _ (.inl rfl) | (exact wk_Q (by omega)) | refine wk_tupL ?_ | refine wk_aggL ?_ | refine ⟨rfl, ?_⟩ | refine ⟨trivial, ?_⟩ | (refine forkD (fun h => ?_) (fun h => ?_)) | (refine forkNe (fun h => ?_) (fun h => ?_)) | (refine forkEq (fun h => ?_) (fun h => ?_)) | refine forkNot ?_ | (refine ⟨vI64 (by omega), ?_⟩) | (refine And.intro (by omega) ?_) | apply And.intro | (exact iEq (by omega)) | (exact vI64 (by omega))
theorem cell_intT {xs : List Int} {k : Nat} (h : k < xs.length) : (xs.flatMap intC)[0 + Int.toNat ((k : Nat) : Int) * 1]? = some (.int .i64 (xs.getD k 0)) := by
  have := cell_int h; rw [Int.toNat_natCast]; exact this
theorem kSameIntsB (a : List Int) (ha : a.length ≤ 4294967296) {H : Heap} {id id2 : Nat} {own own2 : Bool} {z z2 : Nat} (hid : H[id]? = some (.cells own z (a.flatMap intC))) (hid2 : H[id2]? = some (.cells own2 z2 (a.flatMap intC))) :
    KCall prog F.polynyakit_SameInts [.slice (some ⟨id, 0, some 2⟩) a.length a.length, .slice (some ⟨id2, 0, some 2⟩) a.length a.length] H [] (Is (.bool true) H) := by
  refine valR (Eq.mpr (ESameIntsB _ a) ?_) (twoCs (plainZ 0 a) (plainZ 0 a)) rfl [id, id2] rfl (twoId hid hid2)
  unfold RSameIntsB
  refine forkF (by simp only [bne_self_eq_false, beq_self_eq_true, Bool.and_self, Bool.not_true, Bool.not_false]) ⟨rfl, Nat.zero_le _, ?_, fun _ => rfl, ?_⟩
  · repeat' first | exact trivial | exact rfl | exact wk_refl _ | refine wkO_cells ?_ | refine wks_cons ?_ ?_ | exact wks_nil | exact wk_nil _ _ _ (.inl rfl) | (exact wk_Q (by omega)) | refine wk_tupL ?_ | refine wk_aggL ?_ | refine ⟨rfl, ?_⟩ | refine ⟨trivial, ?_⟩ | (refine forkD (fun h => ?_) (fun h => ?_)) | (refine forkNe (fun h => ?_) (fun h => ?_)) | (refine forkEq (fun h => ?_) (fun h => ?_)) | refine forkNot ?_ | (refine ⟨vI64 (by omega), ?_⟩) | (refine And.intro (by omega) ?_) | apply And.intro | (exact iEq (by omega)) | (exact vI64 (by omega))
  intro x hx
  refine forkD (fun h => ?_) (fun h => rfl)
  have hlt : x < a.length := by omega
  refine ⟨by omega, cell_intT hlt, by omega, cell_intT hlt, forkF (by simp only [bne_self_eq_false, beq_self_eq_true, Bool.and_self, Bool.not_true, Bool.not_false]) ⟨vI64 (by omega), x + 1, by omega, by omega, rfl, ?_⟩⟩
  repeat' first | exact trivial | exact rfl | exact wk_refl _ | refine wkO_cells ?_ | refine wks_cons ?_ ?_ | exact wks_nil | exact wk_nil _ _ _ (.inl rfl) | (exact wk_Q (by omega)) | refine wk_tupL ?_ | refine wk_aggL ?_ | refine ⟨rfl, ?_⟩ | refine ⟨trivial, ?_⟩ | (refine forkD (fun h => ?_) (fun h => ?_)) | (refine forkNe (fun h => ?_) (fun h => ?_)) | (refine forkEq (fun h => ?_) (fun h => ?_)) | refine forkNot ?_ | (refine ⟨vI64 (by omega), ?_⟩) | (refine And.intro (by omega) ?_) | apply And.intro | (exact iEq (by omega)) | (exact vI64 (by omega))
theorem kReports (l : List Report) (hl : l.length ≤ 4294967296) {H : Heap} {L : Nat} (hL : H.length = L) {id : Nat} {own : Bool} {z : Nat} (hid : H[id]? = some (.cells own z (l.flatMap reportC))) :
    KCall prog F.polynyalaw01_Reports [.slice (some ⟨id, 0, some 2⟩) l.length l.length] H [] (Is (.slice (some ⟨L, 0, some 1⟩) l.length l.length) (H ++ [.cells true 14 (l.flatMap reportC)])) := by
  subst hL
  refine valQ (fun i => .slice (some ⟨i, 0, some 1⟩) l.length l.length) (Eq.mpr (EReports l) ?_) (plainR 0 l) (fun n => plainR n _) rfl (by simp [rn, sgOnly]) (fun j => by simp [rn, sgUp]) hid rfl
  unfold RReports
  refine ⟨rfl, Nat.zero_le _, ?_, fun _ => rfl, ?_⟩
  · repeat' first | exact trivial | exact rfl | exact wk_refl _ | refine wkO_cells ?_ | refine wks_cons ?_ ?_ | exact wks_nil | exact wk_nil _ _ _ (.inl rfl) | (exact wk_Q (by omega)) | refine wk_tupL ?_ | refine wk_aggL ?_ | refine ⟨rfl, ?_⟩ | refine ⟨trivial, ?_⟩ | (refine forkD (fun h => ?_) (fun h => ?_)) | (refine forkNe (fun h => ?_) (fun h => ?_)) | (refine forkEq (fun h => ?_) (fun h => ?_)) | refine forkNot ?_ | (refine ⟨vI64 (by omega), ?_⟩) | (refine And.intro (by omega) ?_) | apply And.intro | (exact iEq (by omega)) | (exact vI64 (by omega))
  intro x hx
  have htl : (List.take x l).length = x := by rw [List.length_take]; omega
  refine forkD (fun h => ?_) (fun h => ?_)
  · have hlt : x < l.length := by omega
    have hs : List.take (x + 1) l = List.take x l ++ [l.getD x zeroR] := by
      rw [List.take_add_one, List.getElem?_eq_getElem hlt, getD_elem hlt]; rfl
    refine ⟨by omega, partRep hlt, ⟨by omega, by decide, ⟨Nat.le_refl _, by rw [flat_len reportC_len, htl]; omega⟩, ⟨by decide, Nat.le_refl _⟩, rfl⟩, rfl, vI64 (by omega), x + 1, by omega, by omega, rfl, ?_⟩
    repeat' first | exact plainR _ _ | (exact congrArg (fun l => some (KObj.cells true 14 l)) (by rw [hs]; exact flat_snoc reportC_len _ (l.getD x zeroR) htl.symm)) | exact trivial | exact rfl | exact wk_refl _ | refine wkO_cells ?_ | refine wks_cons ?_ ?_ | exact wks_nil | exact wk_nil _ _ _ (.inl rfl) | (exact wk_Q (by omega)) | refine wk_tupL ?_ | refine wk_aggL ?_ | refine ⟨rfl, ?_⟩ | refine ⟨trivial, ?_⟩ | (refine forkD (fun h => ?_) (fun h => ?_)) | (refine forkNe (fun h => ?_) (fun h => ?_)) | (refine forkEq (fun h => ?_) (fun h => ?_)) | refine forkNot ?_ | (refine ⟨vI64 (by omega), ?_⟩) | (refine And.intro (by omega) ?_) | apply And.intro | (exact iEq (by omega)) | (exact vI64 (by omega))
  · obtain rfl : x = l.length := by omega
    rw [List.take_length]
    repeat' first | exact plainR _ _ | exact trivial | exact rfl | exact wk_refl _ | refine wkO_cells ?_ | refine wks_cons ?_ ?_ | exact wks_nil | exact wk_nil _ _ _ (.inl rfl) | (exact wk_Q (by omega)) | refine wk_tupL ?_ | refine wk_aggL ?_ | refine ⟨rfl, ?_⟩ | refine ⟨trivial, ?_⟩ | (refine forkD (fun h => ?_) (fun h => ?_)) | (refine forkNe (fun h => ?_) (fun h => ?_)) | (refine forkEq (fun h => ?_) (fun h => ?_)) | refine forkNot ?_ | (refine ⟨vI64 (by omega), ?_⟩) | (refine And.intro (by omega) ?_) | apply And.intro | (exact iEq (by omega)) | (exact vI64 (by omega))
theorem kkept (l : List Report) (hl : l.length ≤ 4294967296) {H : Heap} {id id2 : Nat} {own own2 : Bool} {z z2 : Nat} (hid : H[id]? = some (.cells own z (l.flatMap reportC))) (hid2 : H[id2]? = some (.cells own2 z2 (l.flatMap reportC))) :
    KCall prog F.polynyalaw01_kept [.slice (some ⟨id, 0, some 2⟩) l.length l.length, .slice (some ⟨id2, 0, some 2⟩) l.length l.length] H [] (Is (.bool true) H) := by
  refine valR (Eq.mpr (Ekept _ l) ?_) (twoCs (plainR 0 l) (plainR 0 l)) rfl [id, id2] rfl (twoId hid hid2)
  unfold Rkept
  refine ⟨⟨rfl, trivial⟩, fun H' h1 hd => kReports l hl h1 hd.1, forkF (by simp only [bne_self_eq_false, beq_self_eq_true, Bool.and_self, Bool.not_true, Bool.not_false]) ⟨rfl, Nat.zero_le _, ?_, fun _ => rfl, ?_⟩⟩
  · repeat' first | exact trivial | exact rfl | exact wk_refl _ | refine wkO_cells ?_ | refine wks_cons ?_ ?_ | exact wks_nil | exact wk_nil _ _ _ (.inl rfl) | (exact wk_Q (by omega)) | refine wk_tupL ?_ | refine wk_aggL ?_ | refine ⟨rfl, ?_⟩ | refine ⟨trivial, ?_⟩ | (refine forkD (fun h => ?_) (fun h => ?_)) | (refine forkNe (fun h => ?_) (fun h => ?_)) | (refine forkEq (fun h => ?_) (fun h => ?_)) | refine forkNot ?_ | (refine ⟨vI64 (by omega), ?_⟩) | (refine And.intro (by omega) ?_) | apply And.intro | (exact iEq (by omega)) | (exact vI64 (by omega))
  intro x hx
  refine forkD (fun h => ?_) (fun h => rfl)
  have hlt : x < l.length := by omega
  refine ⟨by omega, partRep hlt, by omega, partRep hlt, forkF (by simp only [bne_self_eq_false, beq_self_eq_true, Bool.and_self, Bool.not_true, Bool.not_false]) ⟨vI64 (by omega), x + 1, by omega, by omega, rfl, ?_⟩⟩
  repeat' first | exact trivial | exact rfl | exact wk_refl _ | refine wkO_cells ?_ | refine wks_cons ?_ ?_ | exact wks_nil | exact wk_nil _ _ _ (.inl rfl) | (exact wk_Q (by omega)) | refine wk_tupL ?_ | refine wk_aggL ?_ | refine ⟨rfl, ?_⟩ | refine ⟨trivial, ?_⟩ | (refine forkD (fun h => ?_) (fun h => ?_)) | (refine forkNe (fun h => ?_) (fun h => ?_)) | (refine forkEq (fun h => ?_) (fun h => ?_)) | refine forkNot ?_ | (refine ⟨vI64 (by omega), ?_⟩) | (refine And.intro (by omega) ?_) | apply And.intro | (exact iEq (by omega)) | (exact vI64 (by omega))
theorem partPair {p : List (Nat × Nat)} {x : Nat} (h : x < p.length) : partA 2 (p.flatMap pairC) (0 + Int.toNat ((x : Nat) : Int) * 2) = some (.agg ⟨pairC (p.getD x (0, 0))⟩) :=
  part_at (f := pairC) (d := (0, 0)) (c := 0) (m := 2) pairC_len h (by rw [Int.toNat_natCast]; omega) (by decide)
theorem fC_len (l : List Report) (m : Rates) (now : Int) : (fConf l m now).1.length ≤ 4096 := by
  rcases Classical.em (errOpen l m now = 0) with h | h
  · rw [fConf_1 h]
    have h1 := (opened h).len
    have h2 := told_len l m now
    have := conf_len (told l m now) l.length
    exact Nat.le_trans this (Nat.le_trans (Nat.mul_le_mul (show l.length ≤ 12 by omega) (show (told l m now).length ≤ 12 by omega)) (by decide))
  · rw [fConf_0 h]; exact Nat.zero_le _
theorem fT_len (l : List Report) (m : Rates) (now : Int) : (fTrust l m now).1.length ≤ 4096 := by
  rcases Classical.em (errOpen l m now = 0) with h | h
  · rw [fTr_1 h]
    have h1 := (opened h).len
    show (trustL _ _).length ≤ _
    rw [trustL_len]; omega
  · rw [fTrust_0 h]; exact Nat.zero_le _
theorem fB_len (l : List Report) (m : Rates) (now : Int) : (fBlame l m now).1.length ≤ 4096 ∧ ∀ s ∈ (fBlame l m now).1, s.length ≤ 12 := by
  rcases Classical.em (errOpen l m now = 0) with h | h
  · rw [fBlame_1 h]
    have h1 := (opened h).len
    have h2 := told_len l m now
    refine ⟨?_, fun s hs => ?_⟩
    · show (blamedL _).length ≤ _
      rw [blamedL_len]; exact Nat.le_trans (agr_len _ _) (pow12 (show (told l m now).length ≤ 12 by omega)).2
    · obtain ⟨x, _, rfl⟩ := mem_blamedL hs
      exact Nat.le_trans (outTo_len ..) (by omega)
  · rw [fBlame_0 h]; exact ⟨Nat.zero_le _, fun s hs => by cases hs⟩
theorem fG_len (l : List Report) (m : Rates) (now : Int) : (fGuilt l m now).1.length ≤ 4096 := by
  rcases Classical.em (errOpen l m now = 0) with h | h
  · rw [fGuilt_1 h]
    have h1 := (opened h).len
    show (guiltTo _ _ _).length ≤ _
    rw [guiltTo_len]; omega
  · rw [fGuilt_0 h]; exact Nat.zero_le _
set_option maxHeartbeats 4000000 in
theorem kReportsLaw (l : List Report) (m : Rates) (now : Int) {H : Heap} {id : Nat} {own : Bool} {z : Nat} (hid : H[id]? = some (.cells own z (l.flatMap reportC))) :
    KCall prog F.polynyalaw01_IceReports [.slice (some ⟨id, 0, some 2⟩) l.length l.length, ratesV m, .int .i64 now] H [] (Is (.bool true) H) := by
  refine valR (Eq.mpr (EIceReports _ l m now) ?_) (one_cs (plainR 0 l)) rfl [id] rfl (one_id hid)
  unfold RIceReports
  have cl := fC_len l m now
  have tl := fT_len l m now
  obtain ⟨bl, be⟩ := fB_len l m now
  have gl := fG_len l m now
  refine forkD (fun h9 => forkD (fun h12 => ⟨trivial, fun H' _ _ => kAwake H', rfl⟩) (fun h12 => forkD (fun h30 => ⟨trivial, fun H' _ _ => kAwake H', rfl⟩) (fun h30 => ?_))) (fun h9 => forkD (fun h30 => ⟨trivial, fun H' _ _ => kAwake H', rfl⟩) (fun h30 => ?_))
  all_goals
    have hl : l.length ≤ 30 := by omega
    have hl2 : l.length ≤ 4294967296 := by omega
    refine ⟨⟨rfl, trivial⟩, fun H' h1 hd => kReports l hl2 h1 hd.1, rfl, Nat.zero_le _, ?_, fun _ => rfl, ?_⟩
    · repeat' first | exact trivial | exact rfl | exact wk_refl _ | refine wkO_cells ?_ | refine wks_cons ?_ ?_ | exact wks_nil | exact wk_nil _ _ _ (.inl rfl) | (exact wk_Q (by omega)) | refine wk_tupL ?_ | refine wk_aggL ?_ | refine ⟨rfl, ?_⟩ | refine ⟨trivial, ?_⟩ | (refine forkD (fun h => ?_) (fun h => ?_)) | (refine forkNe (fun h => ?_) (fun h => ?_)) | (refine forkEq (fun h => ?_) (fun h => ?_)) | refine forkNot ?_ | (refine ⟨vI64 (by omega), ?_⟩) | (refine And.intro (by omega) ?_) | apply And.intro | (exact iEq (by omega)) | (exact vI64 (by omega))
    intro x hx
    refine forkD (fun h => ?_) (fun h => ?_)
    · have hlt : x < l.length := by omega
      refine ⟨by omega, partRep hlt, fTells (l.getD x zeroR) m now, trivial, fun H' _ _ => kTells _ m now H', by omega, partRep hlt, fTells (l.getD x zeroR) m now, trivial, fun H' _ _ => krTells _ m now H', forkF (by simp only [bne_self_eq_false, beq_self_eq_true, Bool.and_self, Bool.not_true, Bool.not_false]) (forkF (by simp only [bne_self_eq_false, beq_self_eq_true, Bool.and_self, Bool.not_true, Bool.not_false]) ⟨vI64 (by omega), x + 1, by omega, by omega, rfl, ?_⟩)⟩
      repeat' first | exact trivial | exact rfl | exact wk_refl _ | refine wkO_cells ?_ | refine wks_cons ?_ ?_ | exact wks_nil | exact wk_nil _ _ _ (.inl rfl) | (exact wk_Q (by omega)) | refine wk_tupL ?_ | refine wk_aggL ?_ | refine ⟨rfl, ?_⟩ | refine ⟨trivial, ?_⟩ | (refine forkD (fun h => ?_) (fun h => ?_)) | (refine forkNe (fun h => ?_) (fun h => ?_)) | (refine forkEq (fun h => ?_) (fun h => ?_)) | refine forkNot ?_ | (refine ⟨vI64 (by omega), ?_⟩) | (refine And.intro (by omega) ?_) | apply And.intro | (exact iEq (by omega)) | (exact vI64 (by omega))
    refine ⟨fFuse l m now, ⟨rfl, trivial⟩, fun H' _ hd => (kFuse l m now hd.1).wkA ⟨wk_QR, wk_refl _, wk_refl _, trivial⟩, fFuse l m now, ⟨rfl, trivial⟩, fun H' _ hd => krFuse l m now hd.1, forkF (by simp only [bne_self_eq_false, beq_self_eq_true, Bool.and_self, Bool.not_true, Bool.not_false]) (forkF (by simp only [bne_self_eq_false, beq_self_eq_true, Bool.and_self, Bool.not_true, Bool.not_false]) ⟨⟨rfl, trivial⟩, fun H' h1 hd => (kConflicts l m now h1 hd.1).wkA ⟨wk_QR, wk_refl _, wk_refl _, trivial⟩, ⟨rfl, trivial⟩, fun H' h1 hd => krConflicts l m now h1 hd.1, forkF (by simp only [bne_self_eq_false, beq_self_eq_true, Bool.and_self, Bool.not_true, Bool.not_false]) (forkF (by simp only [bne_self_eq_false, beq_self_eq_true, Bool.and_self, Bool.not_true, Bool.not_false]) ⟨rfl, Nat.zero_le _, ?_, fun _ => rfl, ?_⟩)⟩)⟩
    · repeat' first | exact trivial | exact rfl | exact wk_refl _ | refine wkO_cells ?_ | refine wks_cons ?_ ?_ | exact wks_nil | exact wk_nil _ _ _ (.inl rfl) | (exact wk_Q (by omega)) | refine wk_tupL ?_ | refine wk_aggL ?_ | refine ⟨rfl, ?_⟩ | refine ⟨trivial, ?_⟩ | (refine forkD (fun h => ?_) (fun h => ?_)) | (refine forkNe (fun h => ?_) (fun h => ?_)) | (refine forkEq (fun h => ?_) (fun h => ?_)) | refine forkNot ?_ | (refine ⟨vI64 (by omega), ?_⟩) | (refine And.intro (by omega) ?_) | apply And.intro | (exact iEq (by omega)) | (exact vI64 (by omega))
    intro y hy
    refine forkD (fun h2 => ?_) (fun h2 => ?_)
    · have hlt : y < (fConf l m now).1.length := by omega
      refine ⟨by omega, partPair hlt, by omega, partPair hlt, forkF (by simp only [bne_self_eq_false, beq_self_eq_true, Bool.and_self, Bool.not_true, Bool.not_false]) ⟨vI64 (by omega), y + 1, by omega, by omega, rfl, ?_⟩⟩
      repeat' first | exact trivial | exact rfl | exact wk_refl _ | refine wkO_cells ?_ | refine wks_cons ?_ ?_ | exact wks_nil | exact wk_nil _ _ _ (.inl rfl) | (exact wk_Q (by omega)) | refine wk_tupL ?_ | refine wk_aggL ?_ | refine ⟨rfl, ?_⟩ | refine ⟨trivial, ?_⟩ | (refine forkD (fun h => ?_) (fun h => ?_)) | (refine forkNe (fun h => ?_) (fun h => ?_)) | (refine forkEq (fun h => ?_) (fun h => ?_)) | refine forkNot ?_ | (refine ⟨vI64 (by omega), ?_⟩) | (refine And.intro (by omega) ?_) | apply And.intro | (exact iEq (by omega)) | (exact vI64 (by omega))
    refine ⟨⟨rfl, trivial⟩, fun H' h1 hd => (kTrust l m now h1 hd.1).wkA ⟨wk_QR, wk_refl _, wk_refl _, trivial⟩, ⟨rfl, trivial⟩, fun H' _ hd => krTrust l m now hd.1, true, trivial, fun H' _ _ => kSameTruths _ (by omega) H', forkF rfl (forkF (by simp only [bne_self_eq_false, beq_self_eq_true, Bool.and_self, Bool.not_true, Bool.not_false]) (forkF (by simp only [bne_self_eq_false, beq_self_eq_true, Bool.and_self, Bool.not_true, Bool.not_false]) ⟨⟨rfl, trivial⟩, fun H' h1 hd => (kBlame l m now h1 hd.1).wkA ⟨wk_QR, wk_refl _, wk_refl _, trivial⟩, ⟨rfl, trivial⟩, fun H' h1 hd => krBlame l m now h1 hd.1, forkF (by simp only [bne_self_eq_false, beq_self_eq_true, Bool.and_self, Bool.not_true, Bool.not_false]) (forkF (by simp only [bne_self_eq_false, beq_self_eq_true, Bool.and_self, Bool.not_true, Bool.not_false]) ⟨rfl, Nat.zero_le _, ?_, fun _ => rfl, ?_⟩)⟩))⟩
    · repeat' first | exact trivial | exact rfl | exact wk_refl _ | refine wkO_cells ?_ | refine wks_cons ?_ ?_ | exact wks_nil | exact wk_nil _ _ _ (.inl rfl) | (exact wk_Q (by omega)) | refine wk_tupL ?_ | refine wk_aggL ?_ | refine ⟨rfl, ?_⟩ | refine ⟨trivial, ?_⟩ | (refine forkD (fun h => ?_) (fun h => ?_)) | (refine forkNe (fun h => ?_) (fun h => ?_)) | (refine forkEq (fun h => ?_) (fun h => ?_)) | refine forkNot ?_ | (refine ⟨vI64 (by omega), ?_⟩) | (refine And.intro (by omega) ?_) | apply And.intro | (exact iEq (by omega)) | (exact vI64 (by omega))
    intro u hu
    refine forkD (fun h3 => ?_) (fun h3 => ?_)
    · have hlt : u < (fBlame l m now).1.length := by omega
      have hb := be _ (getD_memR (d := []) hlt)
      refine ⟨by omega, dIL_at hlt, by omega, dIL_at hlt, true, trivial, fun H' _ _ => kSameIntsD _ (by omega) H', forkF rfl ⟨vI64 (by omega), u + 1, by omega, by omega, rfl, ?_⟩⟩
      repeat' first | exact trivial | exact rfl | exact wk_refl _ | refine wkO_cells ?_ | refine wks_cons ?_ ?_ | exact wks_nil | exact wk_nil _ _ _ (.inl rfl) | (exact wk_Q (by omega)) | refine wk_tupL ?_ | refine wk_aggL ?_ | refine ⟨rfl, ?_⟩ | refine ⟨trivial, ?_⟩ | (refine forkD (fun h => ?_) (fun h => ?_)) | (refine forkNe (fun h => ?_) (fun h => ?_)) | (refine forkEq (fun h => ?_) (fun h => ?_)) | refine forkNot ?_ | (refine ⟨vI64 (by omega), ?_⟩) | (refine And.intro (by omega) ?_) | apply And.intro | (exact iEq (by omega)) | (exact vI64 (by omega))
    exact ⟨⟨rfl, trivial⟩, fun H' h1 hd => (kGuilt l m now h1 hd.1).wkA ⟨wk_QR, wk_refl _, wk_refl _, trivial⟩, ⟨rfl, trivial⟩, fun H' h1 hd => krGuilt l m now h1 hd.1, true, ⟨rfl, rfl, trivial⟩, fun H' _ hd => (kSameIntsB _ (by omega) hd.1 hd.2.1).wkA ⟨wk_refl _, wk_QR, trivial⟩, forkT rfl (forkT (by simp only [bne_self_eq_false, beq_self_eq_true, Bool.and_self, Bool.not_true, Bool.not_false]) ⟨true, ⟨rfl, rfl, trivial⟩, fun H' _ hd => (kkept l hl2 hd.1 hd.2.1).wkA ⟨wk_QR, wk_refl _, trivial⟩, forkT rfl ⟨trivial, fun H' _ _ => kAwake H', rfl⟩⟩)⟩
end
end Go.Proofs.YthcjliffpebjaaaGreat
/- How laws' arguments are read. No condition. -/
namespace Go.Proofs.YthcjliffpebjaaaGreat
set_option linter.unusedSimpArgs false
open Go Go.K Go.ChangeShapes Go.WideShapes Go.ChangeAt Go.RowKit
set_option maxRecDepth 100000
set_option linter.unusedVariables false
noncomputable section
theorem own : ownKnob Tryz.prog.godebug = none := by kernel_rfl
theorem sized : slicesSized Tryz.prog = true := by kernel_rfl
abbrev known (t : TypeId) : Prop := t < Tryz.prog.types.size
theorem kids : Kids Tryz.prog known := kids_rows (by kernel_rfl) (by kernel_rfl)
theorem good_flat {H : Heap} {t : TypeId} {v : Value} (n : Nat) (hu : (match Tryz.prog.underlying t with | some (.struct _) => true | _ => false) = true) (hf : flatI Tryz.prog 6 t = some n) (h : GoodV Tryz.prog H 6 t v) :
    ∃ ns : List Int, v = .agg ⟨ns.map (.int .i64)⟩ ∧ ns.length = n ∧ ∀ x ∈ ns, inI x := by
  unfold GoodV at h
  split at hu
  · rename_i fs e
    rw [e] at h
    obtain ⟨cs, rfl, h⟩ := h
    obtain ⟨ns, rfl, h2, h3⟩ := flatI_good 6 t n cs hf h
    exact ⟨ns, rfl, h2, h3⟩
  · cases hu
theorem good_int {H : Heap} {v : Value} (h : GoodV Tryz.prog H 6 3 v) : ∃ x : Int, v = .int .i64 x ∧ inI x := by
  have hu : Tryz.prog.underlying 3 = some (.int .i64) := by kernel_rfl
  unfold GoodV at h
  rw [hu] at h
  obtain ⟨ns, h1, h2, h3⟩ := flatI_good 6 3 1 [v] (by unfold flatI; rw [hu]) h
  match ns, h2 with
  | [x], _ => exact ⟨x, by simpa using h1, h3 x (by simp)⟩
theorem good_rates {H : Heap} {v : Value} (h : GoodV Tryz.prog H 6 26 v) : ∃ m : Rates, v = ratesV m := by
  obtain ⟨ns, rfl, h2, _⟩ := good_flat 8 (by kernel_rfl) (by kernel_rfl) h
  match ns, h2 with
  | [a1, a2, a3, a4, a5, a6, a7, a8], _ => exact ⟨⟨⟨a1, a2, a3, a4⟩, ⟨a5, a6, a7, a8⟩⟩, rfl⟩
theorem goodL_flat {α : Type} {f : α → List Value} {n t : Nat} (H : Heap) (hf : flatI Tryz.prog 5 t = some n) (hα : ∀ ns : List Int, ns.length = n → ∃ x : α, ns.map (Value.int .i64) = f x) :
    ∀ c, K.Good Tryz.prog H 5 t c → ∃ x : α, c = f x ∧ True := by
  intro c h
  obtain ⟨ns, rfl, h2, _⟩ := flatI_good 5 t n c hf h
  obtain ⟨x, hx⟩ := hα ns h2
  exact ⟨x, hx, trivial⟩
end
end Go.Proofs.YthcjliffpebjaaaGreat
/- Ice: charts: what functions of charts answer. No condition. -/
namespace Go.Proofs.YthcjliffpebjaaaGreat
set_option linter.unusedSimpArgs false
set_option linter.unusedVariables false
open Go Go.K
noncomputable section
structure Chart where
  w : Int
  h : Int
  hour : Int
  cells : List Cell
end
end Go.Proofs.YthcjliffpebjaaaGreat
/- How charts and several lists are read. No condition. -/
namespace Go.Proofs.YthcjliffpebjaaaGreat
set_option linter.unusedSimpArgs false
open Go Go.K Go.ChangeShapes Go.WideShapes Go.ChangeAt Go.RowKit
set_option maxRecDepth 100000
set_option linter.unusedVariables false
noncomputable section
/-- What a slice's cell says: less is said of it: read only. -/
theorem slice_read {α : Type} {f : α → List Value} {H : Heap} {n t e : Nat} {cs : List Value} (hu : Tryz.prog.underlying t = some (.slice e)) (hg : ∀ c, K.Good Tryz.prog H n e c → ∃ x : α, c = f x ∧ True) (h : K.Good Tryz.prog H (n + 1) t cs) :
    ∃ (v : Value) (xs : List α), cs = [v] ∧ xs.length ≤ maxLen ∧ ∀ K : Heap, ∃ (gs : List KObj) (id : Nat) (own : Bool) (z : Nat), wk v (.slice (some ⟨id, 0, some 2⟩) xs.length xs.length) ∧ (H ++ K ++ gs)[id]? = some (.cells own z (xs.flatMap f)) := by
  unfold K.Good at h
  rw [hu] at h
  rcases h with h | h | ⟨id, len, cs', h1, h2, h3, h4, h5⟩
  · exact ⟨_, [], h, by simp [maxLen], fun K => ⟨[.cells false 0 []], (H ++ K).length, false, 0, wk_nil _ _ _ (.inr rfl), by rw [List.getElem?_append_right (Nat.le_refl _)]; simp⟩⟩
  · exact ⟨_, [], h, by simp [maxLen], fun K => ⟨[.cells false 0 []], (H ++ K).length, false, 0, wk_E _ _ _ (.inr rfl), by rw [List.getElem?_append_right (Nat.le_refl _)]; simp⟩⟩
  · obtain ⟨xs, rfl, rfl, _⟩ := goodL_list (f := f) (q := fun _ => True) hg len cs' h5
    refine ⟨_, xs, h1, h4, fun K => ⟨[], id, false, 0, wk_R, ?_⟩⟩
    rw [List.append_nil, List.getElem?_append_left (List.getElem?_eq_some_iff.1 h2).1]; exact h2
theorem goodV_slice {α : Type} {f : α → List Value} {H : Heap} {t e : Nat} {v : Value} (hu : Tryz.prog.underlying t = some (.slice e)) (hg : ∀ c, K.Good Tryz.prog H 5 e c → ∃ x : α, c = f x ∧ True) (h : GoodV Tryz.prog H 6 t v) :
    ∃ xs : List α, xs.length ≤ maxLen ∧ ∀ K : Heap, ∃ (gs : List KObj) (id : Nat) (own : Bool) (z : Nat), wk v (.slice (some ⟨id, 0, some 2⟩) xs.length xs.length) ∧ (H ++ K ++ gs)[id]? = some (.cells own z (xs.flatMap f)) := by
  unfold GoodV at h
  rw [hu] at h
  obtain ⟨v', xs, h1, h2, h3⟩ := slice_read hu hg h
  cases h1
  exact ⟨xs, h2, h3⟩
end
end Go.Proofs.YthcjliffpebjaaaGreat
