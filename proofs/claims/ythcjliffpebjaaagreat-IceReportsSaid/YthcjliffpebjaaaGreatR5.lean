/- Ice: the reference's blamed sets, and guilt. No condition. -/
import Derived.Test.YthcjliffpebjaaaGreatGR1xQ2
namespace Go.Proofs.YthcjliffpebjaaaGreat
open Go Go.K
set_option maxRecDepth 100000
set_option linter.unusedVariables false
set_option linter.unusedSimpArgs false
noncomputable section
attribute [local irreducible] vF hasK popc
theorem dIL_atN {L : List (List Int)} {y : Nat} (hy : y < L.length) : (dIL L)[0 + y * 1]? = some (dI (L.getD y [])) := by
  have := dIL_at hy
  rwa [Int.toNat_natCast] at this
set_option maxHeartbeats 1000000 in
theorem krblamed (l : List Report) (m : Rates) (now : Int) (he : errOpen l m now = 0) {H : Heap} {L : Nat} (hL : H.length = L) {id : Nat} {own : Bool} {z : Nat} (hid : H[id]? = some (.cells own z (l.flatMap reportC))) :
    KCall prog F.polynyaref01_blamed [.slice (some ⟨id, 0, some 2⟩) l.length l.length, ratesV m, .int .i64 now] H []
      (Is (.slice (some ⟨L, 0, some 1⟩) (blamedL (told l m now)).length (blamedL (told l m now)).length) (H ++ [.cells true 1 (dIL (blamedL (told l m now)))])) := by
  subst hL
  refine valQ (fun i => .slice (some ⟨i, 0, some 1⟩) (blamedL (told l m now)).length (blamedL (told l m now)).length) (Eq.mpr (Erblamed l m now) ?_) (plainR 0 l) (fun n => plainDL n _) rfl (by simp [rn, sgOnly]) (fun j => by simp [rn, sgUp]) hid rfl
  unfold Rrblamed
  have hn := (opened he).len
  have hn2 := told_len l m now
  have hr := opened_told he
  have hB := rIns_full hr (by omega)
  have hGo : ∀ b ∈ grtA (told l m now), b.length = l.length ∧ (offTo b b.length).length + maxP (told l m now) = l.length := fun b hb => by
    have := grt_off hr (by omega) hb
    rwa [hn2] at this
  have hGl : (grtA (told l m now)).length ≤ 4096 := by
    have h1 : (grtA (told l m now)).length = (agrA (told l m now)).length := by rw [← grt_agr hr (by omega), List.length_map]
    have h2 := agr_len (told l m now) (2 ^ (told l m now).length)
    have h3 := (pow12 (show (told l m now).length ≤ 12 by omega)).2
    unfold agrA at h1; omega
  have hBl : (blamedL (told l m now)).length = (grtA (told l m now)).length := by rw [← hB, rIns_len (Nat.le_refl _)]
  have gcall : ∀ {H' : Heap} {L : Nat}, H'.length = L → H'[0]? = some (.cells false 0 (l.flatMap reportC)) → _ := fun hl hd => krgreatest l m now he hl hd
  generalize maxP (told l m now) = mp at hGo
  generalize grtA (told l m now) = G at gcall hGo hGl hBl hB ⊢
  refine ⟨⟨rfl, trivial⟩, fun H' hl hd => gcall hl hd.1, rfl, Nat.zero_le _, ?_, fun _ => rfl, ?_⟩
  · repeat' first | exact trivial | exact rfl | exact wk_refl _ | refine wkO_cells ?_ | refine wks_cons ?_ ?_ | exact wks_nil | exact wk_nil _ _ _ (.inl rfl) | (exact wk_Q (by omega)) | refine wk_tupL ?_ | refine wk_aggL ?_ | refine ⟨rfl, ?_⟩ | refine ⟨trivial, ?_⟩ | (refine forkD (fun h => ?_) (fun h => ?_)) | (refine forkNe (fun h => ?_) (fun h => ?_)) | (refine forkEq (fun h => ?_) (fun h => ?_)) | refine forkNot ?_ | (refine ⟨vI64 (by omega), ?_⟩) | (refine And.intro (by omega) ?_) | apply And.intro | (exact iEq (by omega)) | (exact vI64 (by omega))
  intro x hx
  refine ⟨_, rfl, forkD (fun h => ?_) (fun h => ?_)⟩
  · have hlt : x < G.length := by omega
    obtain ⟨hbl, hb⟩ := hGo _ (getD_memR (d := []) hlt)
    have hrs := fun k => @rIns_succ G x k hlt
    rw [hbl] at hrs hb
    have hrl := rIns_len (show x ≤ G.length by omega)
    have hMe : ∀ j, j < x → ((rIns G x).getD j []).length = (offTo (G.getD x []) l.length).length := fun j hj => by
      obtain ⟨b, hb1, hb2⟩ := mem_rIns (getD_memR (d := []) (show j < (rIns G x).length by omega))
      have := (hGo b hb1).2
      rw [hb2]
      omega
    refine ⟨rfl, Nat.zero_le _, ?_, fun _ => rfl, ?_⟩
    · repeat' first | exact trivial | exact rfl | exact wk_refl _ | refine wkO_cells ?_ | refine wks_cons ?_ ?_ | exact wks_nil | exact wk_nil _ _ _ (.inl rfl) | (exact wk_Q (by omega)) | refine wk_tupL ?_ | refine wk_aggL ?_ | refine ⟨rfl, ?_⟩ | refine ⟨trivial, ?_⟩ | (refine forkD (fun h => ?_) (fun h => ?_)) | (refine forkNe (fun h => ?_) (fun h => ?_)) | (refine forkEq (fun h => ?_) (fun h => ?_)) | refine forkNot ?_ | (refine ⟨vI64 (by omega), ?_⟩) | (refine And.intro (by omega) ?_) | apply And.intro | (exact iEq (by omega)) | (exact vI64 (by omega))
    intro y hy
    have hol : (offTo (G.getD x []) y).length ≤ y := by have := off_cnt (G.getD x []) y (by omega); omega
    refine forkD (fun h2 => ?_) (fun h2 => ?_)
    · refine ⟨by omega, dBL_at hlt, by omega, boolAt0 (by omega), forkNot (forkB (fun h3 => ?_) (fun h3 => ?_))⟩
      · have hl1 := off_a h3
        refine ⟨vI64 (by omega), y + 1, by omega, by omega, rfl, ?_⟩
        rw [hl1]
        repeat' first | exact plainZ _ _ | exact trivial | exact rfl | exact wk_refl _ | refine wkO_cells ?_ | refine wks_cons ?_ ?_ | exact wks_nil | exact wk_nil _ _ _ (.inl rfl) | (exact wk_Q (by omega)) | refine wk_tupL ?_ | refine wk_aggL ?_ | refine ⟨rfl, ?_⟩ | refine ⟨trivial, ?_⟩ | (refine forkD (fun h => ?_) (fun h => ?_)) | (refine forkNe (fun h => ?_) (fun h => ?_)) | (refine forkEq (fun h => ?_) (fun h => ?_)) | refine forkNot ?_ | (refine ⟨vI64 (by omega), ?_⟩) | (refine And.intro (by omega) ?_) | apply And.intro | (exact iEq (by omega)) | (exact vI64 (by omega))
      · have hl1 := off_b h3
        have hl2 : (offTo (G.getD x []) (y + 1)).length = (offTo (G.getD x []) y).length + 1 := by rw [hl1, List.length_append]; rfl
        refine ⟨⟨by omega, by decide, ⟨Nat.le_refl _, by rw [flat_len intC_len]; omega⟩, ⟨by decide, Nat.le_refl _⟩, rfl⟩, rfl, vI64 (by omega), y + 1, by omega, by omega, rfl, ?_⟩
        rw [hl2]
        repeat' first | exact plainZ _ _ | (exact congrArg (fun l => some (KObj.cells true 1 l)) (by rw [hl1]; exact flat_snoc intC_len _ ((y : Nat) : Int) rfl)) | exact trivial | exact rfl | exact wk_refl _ | refine wkO_cells ?_ | refine wks_cons ?_ ?_ | exact wks_nil | exact wk_nil _ _ _ (.inl rfl) | (exact wk_Q (by omega)) | refine wk_tupL ?_ | refine wk_aggL ?_ | refine ⟨rfl, ?_⟩ | refine ⟨trivial, ?_⟩ | (refine forkD (fun h => ?_) (fun h => ?_)) | (refine forkNe (fun h => ?_) (fun h => ?_)) | (refine forkEq (fun h => ?_) (fun h => ?_)) | refine forkNot ?_ | (refine ⟨vI64 (by omega), ?_⟩) | (refine And.intro (by omega) ?_) | apply And.intro | (exact iEq (by omega)) | (exact vI64 (by omega))
    · obtain rfl : y = l.length := by omega
      generalize hs : offTo (G.getD x []) l.length = s at hrs hMe hb hol ⊢
      generalize hM : rIns G x = M at hrs hMe hrl ⊢
      have hc0 : List.take (x * 1) (List.drop 0 (dIL M)) ++ List.take (1 * 1) (List.drop 0 [dI s]) = dIL (insAt M s (x - 0)) := by
        have e1 : List.take (x * 1) (List.drop 0 (dIL M)) = dIL M := by rw [List.drop_zero, List.take_of_length_le (by rw [dIL_len]; omega)]
        have e2 : insAt M s (x - 0) = M ++ [s] := by
          show List.take x M ++ s :: List.drop x M = _
          rw [List.take_of_length_le (by omega), List.drop_of_length_le (by omega)]
        rw [e1, e2, dIL_snoc]; rfl
      refine ⟨⟨by omega, by decide, ⟨Nat.le_refl _, by rw [dIL_len]; omega⟩, ⟨Nat.le_refl _, Nat.le_refl _⟩, rfl⟩, rfl, vI64 (by omega), rfl, ⟨Nat.zero_le _, fun j h1 h2 => by omega⟩, ?_, fun _ => rfl, ?_⟩
      · repeat' first | exact (dI_rn _ 0 _).symm | exact plainDL _ _ | (exact congrArg (fun l => some (KObj.cells true 1 l)) hc0) | exact trivial | exact rfl | exact wk_refl _ | refine wkO_cells ?_ | refine wks_cons ?_ ?_ | exact wks_nil | exact wk_nil _ _ _ (.inl rfl) | (exact wk_Q (by omega)) | refine wk_tupL ?_ | refine wk_aggL ?_ | refine ⟨rfl, ?_⟩ | refine ⟨trivial, ?_⟩ | (refine forkD (fun h => ?_) (fun h => ?_)) | (refine forkNe (fun h => ?_) (fun h => ?_)) | (refine forkEq (fun h => ?_) (fun h => ?_)) | refine forkNot ?_ | (refine ⟨vI64 (by omega), ?_⟩) | (refine And.intro (by omega) ?_) | apply And.intro | (exact iEq (by omega)) | (exact vI64 (by omega))
      rintro k ⟨hk, hlow⟩
      have fin : insAt M s (x - k) = rIns G (x + 1) → ((.int .i64 (IntKind.wrap .i64 (((x : Nat) : Int) + 1)) : Value) = .int .i64 (((x : Nat) : Int) + 1)) := fun _ => vI64 (by omega)
      refine forkD (fun h3 => ?_) (fun h3 => ?_)
      · have e : Int.toNat ((((x - k : Nat)) : Int) - 1) = x - k - 1 := by omega
        have g1 := insAt_at (M := M) (s := s) (k := x - k) (by omega)
        have g2 := insAt_pre (M := M) (s := s) (k := x - k) (by omega) (by omega)
        have hil := insAt_len (M := M) (s := s) (k := x - k) (by omega)
        rw [e, g1, g2]
        have la : (dIL (insAt M s (x - k)))[0 + Int.toNat (((x - k : Nat)) : Int) * 1]? = some (dI s) := by rw [dIL_at (by omega), g1]
        have lb : (dIL (insAt M s (x - k)))[0 + (x - k - 1) * 1]? = some (dI (M.getD (x - k - 1) [])) := by rw [dIL_atN (by omega), g2]
        have hme := hMe (x - k - 1) (by omega)
        refine ⟨by omega, la, vI64 (by omega), by omega, lb, _, trivial, fun H' _ _ => krbefore _ _ hme.symm (by omega) H', forkD (fun h4 => ?_) (fun h4 => ?_)⟩
        · have hsw := dIL_swap (M := M) (s := s) (k := x - k) (by omega) (by omega)
          have hset : ∀ (cs : List Value) (i : Nat) (v : Value), (setl cs i [v]).length = cs.length := fun cs i v => List.length_set ..
          refine ⟨vI64 (by omega), vI64 (by omega), by omega, lb, by omega, la, by omega, by rw [dIL_len, hil, Int.toNat_natCast]; omega, rfl, by omega, by rw [hset, dIL_len, hil]; omega, rfl, vI64 (by omega), k + 1, ⟨by omega, fun j h5 h6 => ?_⟩, by omega, rfl, ?_⟩
          · rcases Nat.lt_or_ge j (x - k) with g | g
            · rw [show j = x - k - 1 by omega]; exact h4
            · exact hlow j g h6
          · repeat' first | exact (dI_rn _ 0 _).symm | exact plainDL _ _ | (exact congrArg (fun l => some (KObj.cells true 1 l)) (by rw [Int.toNat_natCast, show 0 + (x - k) * 1 = x - k by omega, show 0 + (x - k - 1) * 1 = x - k - 1 by omega, hsw, show x - (k + 1) = x - k - 1 by omega])) | exact trivial | exact rfl | exact wk_refl _ | refine wkO_cells ?_ | refine wks_cons ?_ ?_ | exact wks_nil | exact wk_nil _ _ _ (.inl rfl) | (exact wk_Q (by omega)) | refine wk_tupL ?_ | refine wk_aggL ?_ | refine ⟨rfl, ?_⟩ | refine ⟨trivial, ?_⟩ | (refine forkD (fun h => ?_) (fun h => ?_)) | (refine forkNe (fun h => ?_) (fun h => ?_)) | (refine forkEq (fun h => ?_) (fun h => ?_)) | refine forkNot ?_ | (refine ⟨vI64 (by omega), ?_⟩) | (refine And.intro (by omega) ?_) | apply And.intro | (exact iEq (by omega)) | (exact vI64 (by omega))
        · have hf := hrs (x - k) (by omega) hlow (.inr h4)
          rw [hf]
          refine ⟨vI64 (by omega), x + 1, by omega, by omega, rfl, ?_⟩
          repeat' first | exact plainDL _ _ | exact trivial | exact rfl | exact wk_refl _ | refine wkO_cells ?_ | refine wks_cons ?_ ?_ | exact wks_nil | exact wk_nil _ _ _ (.inl rfl) | (exact wk_Q (by omega)) | refine wk_tupL ?_ | refine wk_aggL ?_ | refine ⟨rfl, ?_⟩ | refine ⟨trivial, ?_⟩ | (refine forkD (fun h => ?_) (fun h => ?_)) | (refine forkNe (fun h => ?_) (fun h => ?_)) | (refine forkEq (fun h => ?_) (fun h => ?_)) | refine forkNot ?_ | (refine ⟨vI64 (by omega), ?_⟩) | (refine And.intro (by omega) ?_) | apply And.intro | (exact iEq (by omega)) | (exact vI64 (by omega))
      · have hf := hrs (x - k) (by omega) hlow (.inl (by omega))
        rw [hf]
        refine ⟨vI64 (by omega), x + 1, by omega, by omega, rfl, ?_⟩
        repeat' first | exact plainDL _ _ | exact trivial | exact rfl | exact wk_refl _ | refine wkO_cells ?_ | refine wks_cons ?_ ?_ | exact wks_nil | exact wk_nil _ _ _ (.inl rfl) | (exact wk_Q (by omega)) | refine wk_tupL ?_ | refine wk_aggL ?_ | refine ⟨rfl, ?_⟩ | refine ⟨trivial, ?_⟩ | (refine forkD (fun h => ?_) (fun h => ?_)) | (refine forkNe (fun h => ?_) (fun h => ?_)) | (refine forkEq (fun h => ?_) (fun h => ?_)) | refine forkNot ?_ | (refine ⟨vI64 (by omega), ?_⟩) | (refine And.intro (by omega) ?_) | apply And.intro | (exact iEq (by omega)) | (exact vI64 (by omega))
  · obtain rfl : x = G.length := by omega
    exact ⟨rfl, by rw [hBl]; exact wk_refl _, ⟨by rw [hB], plainDL _ _⟩, trivial⟩
theorem krBlame (l : List Report) (m : Rates) (now : Int) {H : Heap} {L : Nat} (hL : H.length = L) {id : Nat} {own : Bool} {z : Nat} (hid : H[id]? = some (.cells own z (l.flatMap reportC))) :
    KCall prog F.polynyaref01_Blame [.slice (some ⟨id, 0, some 2⟩) l.length l.length, ratesV m, .int .i64 now] H []
      (Is (.tuple #[.slice (some ⟨L, 0, some 1⟩) (fBlame l m now).1.length (fBlame l m now).1.length, .int .i64 (fBlame l m now).2]) (H ++ [.cells true 1 (dIL (fBlame l m now).1)])) := by
  subst hL
  refine valQ (fun i => .tuple #[.slice (some ⟨i, 0, some 1⟩) (fBlame l m now).1.length (fBlame l m now).1.length, .int .i64 (fBlame l m now).2]) (Eq.mpr (ErBlame l m now) ?_) (plainR 0 l) (fun n => plainDL n _) rfl (by simp [rn, sgOnly]) (fun j => by simp [rn, sgUp]) hid rfl
  unfold RrBlame
  refine ⟨_, ⟨rfl, trivial⟩, fun H' _ hd => krlisted l m now hd.1, forkNe (fun h0 => ?_) (fun h0 => ?_)⟩
  · rw [fBlame_0 h0]
    repeat' first | exact trivial | exact rfl | exact wk_refl _ | refine wkO_cells ?_ | refine wks_cons ?_ ?_ | exact wks_nil | exact wk_nil _ _ _ (.inl rfl) | (exact wk_Q (by omega)) | refine wk_tupL ?_ | refine wk_aggL ?_ | refine ⟨rfl, ?_⟩ | refine ⟨trivial, ?_⟩ | (refine forkD (fun h => ?_) (fun h => ?_)) | (refine forkNe (fun h => ?_) (fun h => ?_)) | (refine forkEq (fun h => ?_) (fun h => ?_)) | refine forkNot ?_ | (refine ⟨vI64 (by omega), ?_⟩) | (refine And.intro (by omega) ?_) | apply And.intro | (exact iEq (by omega)) | (exact vI64 (by omega))
  · rw [fBlame_1 h0]
    refine ⟨⟨rfl, trivial⟩, fun H' hl hd => krblamed l m now h0 hl hd.1, ?_⟩
    repeat' first | exact plainDL _ _ | exact trivial | exact rfl | exact wk_refl _ | refine wkO_cells ?_ | refine wks_cons ?_ ?_ | exact wks_nil | exact wk_nil _ _ _ (.inl rfl) | (exact wk_Q (by omega)) | refine wk_tupL ?_ | refine wk_aggL ?_ | refine ⟨rfl, ?_⟩ | refine ⟨trivial, ?_⟩ | (refine forkD (fun h => ?_) (fun h => ?_)) | (refine forkNe (fun h => ?_) (fun h => ?_)) | (refine forkEq (fun h => ?_) (fun h => ?_)) | refine forkNot ?_ | (refine ⟨vI64 (by omega), ?_⟩) | (refine And.intro (by omega) ?_) | apply And.intro | (exact iEq (by omega)) | (exact vI64 (by omega))
theorem krGuilt (l : List Report) (m : Rates) (now : Int) {H : Heap} {L : Nat} (hL : H.length = L) {id : Nat} {own : Bool} {z : Nat} (hid : H[id]? = some (.cells own z (l.flatMap reportC))) :
    KCall prog F.polynyaref01_Guilt [.slice (some ⟨id, 0, some 2⟩) l.length l.length, ratesV m, .int .i64 now] H []
      (Is (.tuple #[.slice (some ⟨L, 0, some 1⟩) (fGuilt l m now).1.length (fGuilt l m now).1.length, .int .i64 (fGuilt l m now).2]) (H ++ [.cells true 1 ((fGuilt l m now).1.flatMap intC)])) := by
  subst hL
  refine valQ (fun i => .tuple #[.slice (some ⟨i, 0, some 1⟩) (fGuilt l m now).1.length (fGuilt l m now).1.length, .int .i64 (fGuilt l m now).2]) (Eq.mpr (ErGuilt l m now) ?_) (plainR 0 l) (fun n => plainZ n _) rfl (by simp [rn, sgOnly]) (fun j => by simp [rn, sgUp]) hid rfl
  unfold RrGuilt
  refine ⟨_, ⟨rfl, trivial⟩, fun H' _ hd => krlisted l m now hd.1, forkNe (fun h0 => ?_) (fun h0 => ?_)⟩
  · rw [fGuilt_0 h0]
    repeat' first | exact trivial | exact rfl | exact wk_refl _ | refine wkO_cells ?_ | refine wks_cons ?_ ?_ | exact wks_nil | exact wk_nil _ _ _ (.inl rfl) | (exact wk_Q (by omega)) | refine wk_tupL ?_ | refine wk_aggL ?_ | refine ⟨rfl, ?_⟩ | refine ⟨trivial, ?_⟩ | (refine forkD (fun h => ?_) (fun h => ?_)) | (refine forkNe (fun h => ?_) (fun h => ?_)) | (refine forkEq (fun h => ?_) (fun h => ?_)) | refine forkNot ?_ | (refine ⟨vI64 (by omega), ?_⟩) | (refine And.intro (by omega) ?_) | apply And.intro | (exact iEq (by omega)) | (exact vI64 (by omega))
  have hn := (opened h0).len
  have hn2 := told_len l m now
  have hr := opened_told h0
  refine ⟨⟨rfl, trivial⟩, fun H' hl hd => krblamed l m now h0 hl hd.1, ?_⟩
  have hBl : (blamedL (told l m now)).length ≤ 4096 := by rw [blamedL_len]; exact Nat.le_trans (agr_len _ _) (pow12 (show (told l m now).length ≤ 12 by omega)).2
  have hBe : ∀ s ∈ blamedL (told l m now), s.length ≤ 12 ∧ s.Pairwise (· < ·) := by
    intro s hs
    obtain ⟨x, _, rfl⟩ := mem_blamedL hs
    exact ⟨Nat.le_trans (outTo_len ..) (by omega), outTo_sorted ..⟩
  have hf : fGuilt l m now = (tabP (guiltOf (blamedL (told l m now))) l.length, 0) := by rw [fGuilt_1 h0, guilt_tab]
  rw [hf]
  generalize blamedL (told l m now) = B at hBl hBe ⊢
  have htl : ∀ n, (tabP (guiltOf B) n).length = n := fun n => tabP_len ..
  refine ⟨rfl, Nat.zero_le _, ?_, fun _ => rfl, ?_⟩
  · repeat' first | exact trivial | exact rfl | exact wk_refl _ | refine wkO_cells ?_ | refine wks_cons ?_ ?_ | exact wks_nil | exact wk_nil _ _ _ (.inl rfl) | (exact wk_Q (by omega)) | refine wk_tupL ?_ | refine wk_aggL ?_ | refine ⟨rfl, ?_⟩ | refine ⟨trivial, ?_⟩ | (refine forkD (fun h => ?_) (fun h => ?_)) | (refine forkNe (fun h => ?_) (fun h => ?_)) | (refine forkEq (fun h => ?_) (fun h => ?_)) | refine forkNot ?_ | (refine ⟨vI64 (by omega), ?_⟩) | (refine And.intro (by omega) ?_) | apply And.intro | (exact iEq (by omega)) | (exact vI64 (by omega))
  intro x hx
  refine forkD (fun h => ?_) (fun h => ?_)
  · refine ⟨rfl, Nat.zero_le _, ?_, fun _ => rfl, ?_⟩
    · repeat' first | exact trivial | exact rfl | exact wk_refl _ | refine wkO_cells ?_ | refine wks_cons ?_ ?_ | exact wks_nil | exact wk_nil _ _ _ (.inl rfl) | (exact wk_Q (by omega)) | refine wk_tupL ?_ | refine wk_aggL ?_ | refine ⟨rfl, ?_⟩ | refine ⟨trivial, ?_⟩ | (refine forkD (fun h => ?_) (fun h => ?_)) | (refine forkNe (fun h => ?_) (fun h => ?_)) | (refine forkEq (fun h => ?_) (fun h => ?_)) | refine forkNot ?_ | (refine ⟨vI64 (by omega), ?_⟩) | (refine And.intro (by omega) ?_) | apply And.intro | (exact iEq (by omega)) | (exact vI64 (by omega))
    intro y hy
    have hic := inCnt_le B ((x : Nat) : Int) y
    refine forkD (fun h2 => ?_) (fun h2 => ?_)
    · have hlt2 : y < B.length := by omega
      have hsu := inCnt_succ (i := ((x : Nat) : Int)) hlt2
      obtain ⟨hsl, hso⟩ := hBe _ (getD_memR (d := []) hlt2)
      have hcs := count_sorted hso ((x : Nat) : Int)
      refine ⟨rfl, Nat.zero_le _, ?_, fun _ => rfl, ?_⟩
      · repeat' first | exact trivial | exact rfl | exact wk_refl _ | refine wkO_cells ?_ | refine wks_cons ?_ ?_ | exact wks_nil | exact wk_nil _ _ _ (.inl rfl) | (exact wk_Q (by omega)) | refine wk_tupL ?_ | refine wk_aggL ?_ | refine ⟨rfl, ?_⟩ | refine ⟨trivial, ?_⟩ | (refine forkD (fun h => ?_) (fun h => ?_)) | (refine forkNe (fun h => ?_) (fun h => ?_)) | (refine forkEq (fun h => ?_) (fun h => ?_)) | refine forkNot ?_ | (refine ⟨vI64 (by omega), ?_⟩) | (refine And.intro (by omega) ?_) | apply And.intro | (exact iEq (by omega)) | (exact vI64 (by omega))
      intro z hz
      have hct : List.count ((x : Nat) : Int) (List.take z (B.getD y [])) ≤ z := Nat.le_trans List.count_le_length (by rw [List.length_take]; omega)
      refine ⟨by omega, dIL_at hlt2, forkD (fun h3 => ?_) (fun h3 => ?_)⟩
      · have hz3 : z < (B.getD y []).length := by omega
        have hcu := count_take_succ hz3 ((x : Nat) : Int)
        refine ⟨by omega, dIL_at hlt2, by omega, cell_int0 hz3, forkEq (fun h4 => ?_) (fun h4 => ?_)⟩
        · rw [if_pos h4] at hcu
          refine ⟨vI64 (by omega), vI64 (by omega), z + 1, by omega, by omega, rfl, ?_⟩
          repeat' first | exact trivial | exact rfl | exact wk_refl _ | refine wkO_cells ?_ | refine wks_cons ?_ ?_ | exact wks_nil | exact wk_nil _ _ _ (.inl rfl) | (exact wk_Q (by omega)) | refine wk_tupL ?_ | refine wk_aggL ?_ | refine ⟨rfl, ?_⟩ | refine ⟨trivial, ?_⟩ | (refine forkD (fun h => ?_) (fun h => ?_)) | (refine forkNe (fun h => ?_) (fun h => ?_)) | (refine forkEq (fun h => ?_) (fun h => ?_)) | refine forkNot ?_ | (refine ⟨vI64 (by omega), ?_⟩) | (refine And.intro (by omega) ?_) | apply And.intro | (exact iEq (by omega)) | (exact vI64 (by omega))
        · rw [if_neg h4] at hcu
          refine ⟨vI64 (by omega), z + 1, by omega, by omega, rfl, ?_⟩
          repeat' first | exact trivial | exact rfl | exact wk_refl _ | refine wkO_cells ?_ | refine wks_cons ?_ ?_ | exact wks_nil | exact wk_nil _ _ _ (.inl rfl) | (exact wk_Q (by omega)) | refine wk_tupL ?_ | refine wk_aggL ?_ | refine ⟨rfl, ?_⟩ | refine ⟨trivial, ?_⟩ | (refine forkD (fun h => ?_) (fun h => ?_)) | (refine forkNe (fun h => ?_) (fun h => ?_)) | (refine forkEq (fun h => ?_) (fun h => ?_)) | refine forkNot ?_ | (refine ⟨vI64 (by omega), ?_⟩) | (refine And.intro (by omega) ?_) | apply And.intro | (exact iEq (by omega)) | (exact vI64 (by omega))
      · have hz4 : List.take z (B.getD y []) = B.getD y [] := List.take_of_length_le (by omega)
        rw [hz4]
        refine ⟨vI64 (by omega), y + 1, by omega, by omega, rfl, ?_⟩
        repeat' first | (exact iEq (by rw [hsu, hcs])) | exact trivial | exact rfl | exact wk_refl _ | refine wkO_cells ?_ | refine wks_cons ?_ ?_ | exact wks_nil | exact wk_nil _ _ _ (.inl rfl) | (exact wk_Q (by omega)) | refine wk_tupL ?_ | refine wk_aggL ?_ | refine ⟨rfl, ?_⟩ | refine ⟨trivial, ?_⟩ | (refine forkD (fun h => ?_) (fun h => ?_)) | (refine forkNe (fun h => ?_) (fun h => ?_)) | (refine forkEq (fun h => ?_) (fun h => ?_)) | refine forkNot ?_ | (refine ⟨vI64 (by omega), ?_⟩) | (refine And.intro (by omega) ?_) | apply And.intro | (exact iEq (by omega)) | (exact vI64 (by omega))
    · obtain rfl : y = B.length := by omega
      have app : ∀ v : Int, guiltOf B x = v → List.take (x * 1) (List.drop 0 (List.flatMap intC (tabP (guiltOf B) x))) ++ List.take (1 * 1) (List.drop 0 [Value.int .i64 v]) = List.flatMap intC (tabP (guiltOf B) (x + 1)) := by
        intro v hv
        rw [tabP_succ, hv]
        exact flat_snoc intC_len _ v (htl x).symm
      refine forkD (fun h3 => ⟨vbT (decide_eq_true h3), forkEq (fun h4 => ?_) (fun h4 => ?_)⟩) (fun h3 => ⟨vbF (decide_eq_false h3), ?_⟩)
      · have hg : guiltOf B x = 2 := (if_neg (by omega)).trans (if_pos (by omega))
        refine ⟨⟨by omega, by decide, ⟨Nat.le_refl _, by rw [flat_len intC_len, htl]; omega⟩, ⟨by decide, Nat.le_refl _⟩, rfl⟩, rfl, vI64 (by omega), x + 1, by omega, by omega, rfl, ?_⟩
        repeat' first | exact plainZ _ _ | (exact congrArg (fun l => some (KObj.cells true 1 l)) (app 2 hg)) | exact trivial | exact rfl | exact wk_refl _ | refine wkO_cells ?_ | refine wks_cons ?_ ?_ | exact wks_nil | exact wk_nil _ _ _ (.inl rfl) | (exact wk_Q (by omega)) | refine wk_tupL ?_ | refine wk_aggL ?_ | refine ⟨rfl, ?_⟩ | refine ⟨trivial, ?_⟩ | (refine forkD (fun h => ?_) (fun h => ?_)) | (refine forkNe (fun h => ?_) (fun h => ?_)) | (refine forkEq (fun h => ?_) (fun h => ?_)) | refine forkNot ?_ | (refine ⟨vI64 (by omega), ?_⟩) | (refine And.intro (by omega) ?_) | apply And.intro | (exact iEq (by omega)) | (exact vI64 (by omega))
      · have hg : guiltOf B x = 1 := (if_neg (by omega)).trans (if_neg (by omega))
        refine ⟨⟨by omega, by decide, ⟨Nat.le_refl _, by rw [flat_len intC_len, htl]; omega⟩, ⟨by decide, Nat.le_refl _⟩, rfl⟩, rfl, vI64 (by omega), x + 1, by omega, by omega, rfl, ?_⟩
        repeat' first | exact plainZ _ _ | (exact congrArg (fun l => some (KObj.cells true 1 l)) (app 1 hg)) | exact trivial | exact rfl | exact wk_refl _ | refine wkO_cells ?_ | refine wks_cons ?_ ?_ | exact wks_nil | exact wk_nil _ _ _ (.inl rfl) | (exact wk_Q (by omega)) | refine wk_tupL ?_ | refine wk_aggL ?_ | refine ⟨rfl, ?_⟩ | refine ⟨trivial, ?_⟩ | (refine forkD (fun h => ?_) (fun h => ?_)) | (refine forkNe (fun h => ?_) (fun h => ?_)) | (refine forkEq (fun h => ?_) (fun h => ?_)) | refine forkNot ?_ | (refine ⟨vI64 (by omega), ?_⟩) | (refine And.intro (by omega) ?_) | apply And.intro | (exact iEq (by omega)) | (exact vI64 (by omega))
      · have hg : guiltOf B x = 0 := if_pos (by omega)
        refine ⟨⟨by omega, by decide, ⟨Nat.le_refl _, by rw [flat_len intC_len, htl]; omega⟩, ⟨by decide, Nat.le_refl _⟩, rfl⟩, rfl, vI64 (by omega), x + 1, by omega, by omega, rfl, ?_⟩
        repeat' first | exact plainZ _ _ | (exact congrArg (fun l => some (KObj.cells true 1 l)) (app 0 hg)) | exact trivial | exact rfl | exact wk_refl _ | refine wkO_cells ?_ | refine wks_cons ?_ ?_ | exact wks_nil | exact wk_nil _ _ _ (.inl rfl) | (exact wk_Q (by omega)) | refine wk_tupL ?_ | refine wk_aggL ?_ | refine ⟨rfl, ?_⟩ | refine ⟨trivial, ?_⟩ | (refine forkD (fun h => ?_) (fun h => ?_)) | (refine forkNe (fun h => ?_) (fun h => ?_)) | (refine forkEq (fun h => ?_) (fun h => ?_)) | refine forkNot ?_ | (refine ⟨vI64 (by omega), ?_⟩) | (refine And.intro (by omega) ?_) | apply And.intro | (exact iEq (by omega)) | (exact vI64 (by omega))
  · obtain rfl : x = l.length := by omega
    repeat' first | exact plainZ _ _ | (exact (by rw [htl]; exact wk_refl _)) | exact trivial | exact rfl | exact wk_refl _ | refine wkO_cells ?_ | refine wks_cons ?_ ?_ | exact wks_nil | exact wk_nil _ _ _ (.inl rfl) | (exact wk_Q (by omega)) | refine wk_tupL ?_ | refine wk_aggL ?_ | refine ⟨rfl, ?_⟩ | refine ⟨trivial, ?_⟩ | (refine forkD (fun h => ?_) (fun h => ?_)) | (refine forkNe (fun h => ?_) (fun h => ?_)) | (refine forkEq (fun h => ?_) (fun h => ?_)) | refine forkNot ?_ | (refine ⟨vI64 (by omega), ?_⟩) | (refine And.intro (by omega) ?_) | apply And.intro | (exact iEq (by omega)) | (exact vI64 (by omega))
end
end Go.Proofs.YthcjliffpebjaaaGreat
