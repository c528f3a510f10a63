/- Ice: functions of charts. No condition. -/
import Derived.Test.YthcjliffpebjaaaGreatS8g
import Derived.Test.YthcjliffpebjaaaGreatGS7gxK27
namespace Go.Proofs.YthcjliffpebjaaaGreat
open Go Go.K
set_option maxRecDepth 100000
set_option linter.unusedVariables false
set_option linter.unusedSimpArgs false
noncomputable section
attribute [local irreducible] vF
theorem cellC_len (c : Cell) : (cellC c).length = 8 := rfl
theorem partCell {xs : List Cell} {x : Nat} (h : x < xs.length) : partA 8 (List.flatMap cellC xs) (0 + Int.toNat ((x : Nat) : Int) * 8) = some (.agg ⟨cellC (List.getD xs x zeroC)⟩) :=
  part_at (f := cellC) (d := zeroC) (c := 0) (m := 8) cellC_len h (by rw [Int.toNat_natCast]; omega) (by decide)
theorem plainC (n : Nat) (l : List Cell) : (l.flatMap cellC).all (belowC n) = true := plain_flat (fun _ => rfl) l
theorem plainI (n : Nat) (l : List Ice) : (l.flatMap iceC).all (belowC n) = true := plain_flat (fun _ => rfl) l
theorem two_id {H : Heap} {id id2 : Nat} {own own2 : Bool} {z z2 : Nat} {cs ds : List Value} (h1 : H[id]? = some (.cells own z cs)) (h2 : H[id2]? = some (.cells own2 z2 ds)) : ∀ (k : Nat) (c : List Value), [cs, ds][k]? = some c → ∃ id' own z, [id, id2][k]? = some id' ∧ H[id']? = some (KObj.cells own z c) := by
  intro k c h
  match k with
  | 0 => cases h; exact ⟨id, own, z, rfl, h1⟩
  | 1 => cases h; exact ⟨id2, own2, z2, rfl, h2⟩
theorem two_cs {cs ds : List Value} (h1 : cs.all (belowC 0) = true) (h2 : ds.all (belowC 0) = true) : ∀ c ∈ [cs, ds], c.all (belowC 0) = true := by
  intro c hc
  rcases List.mem_cons.1 hc with rfl | hc
  · exact h1
  · rw [List.mem_singleton.1 hc]; exact h2
theorem kwrongC (xs : List Cell) (hn : xs.length ≤ 2 ^ 30) {H : Heap} {id : Nat} {own : Bool} {z : Nat} (hid : H[id]? = some (.cells own z (xs.flatMap cellC))) :
    KCall prog F.ice_wrong_ice_Cell_ [.slice (some ⟨id, 0, some 2⟩) xs.length xs.length, .func (.func F.ice_CheckCell) #[] #[]] H [] (Is (.int .i64 (errs errCell xs)) H) := by
  refine valR (Eq.mpr (EwrongC _ xs) ?_) (one_cs (plainC 0 xs)) rfl [id] rfl (one_id hid)
  unfold RwrongC
  refine ⟨rfl, ⟨Nat.zero_le _, rfl⟩, ?_, fun _ => rfl, ?_⟩
  · repeat' first
      | exact trivial
      | exact rfl
      | exact wk_refl _
      | refine wkO_cells ?_
      | refine wks_cons ?_ ?_
      | exact wks_nil
      | exact wk_nil _ _ _ (.inl rfl)
      | exact wk_Q (by omega)
      | refine wk_tupL ?_
      | refine wk_aggL ?_
      | refine joinMax ?_ ?_ ?_
      | refine joinMin ?_ ?_ ?_
      | refine toMax ?_
      | refine toMin ?_
      | refine ⟨rfl, ?_⟩
      | refine ⟨trivial, ?_⟩
      | refine forkD (fun h => ?_) (fun h => ?_)
      | refine forkNe (fun h => ?_) (fun h => ?_)
      | refine forkEq (fun h => ?_) (fun h => ?_)
      | refine forkNot ?_
      | refine ⟨vI64 (by omega), ?_⟩
      | refine And.intro (by omega) ?_
      | apply And.intro
      | exact iEq (by omega)
      | exact vI64 (by omega)
      | fail
  rintro x ⟨hx, hsp⟩
  refine forkD (fun h => ?_) (fun h => ?_)
  · have hlt : x < xs.length := by omega
    rw [errs_at (d := zeroC) hlt] at hsp
    refine ⟨by omega, partCell hlt, _, trivial, fun H' _ _ => kCheckCell _ H', ?_⟩
    refine forkNe (fun h1 => ?_) (fun h1 => ?_)
    · rw [hsp, if_neg h1]
    · repeat' first
        | refine ⟨x + 1, ⟨by omega, by rw [hsp, if_pos h1]⟩, by omega, ?_⟩
        | exact trivial
        | exact rfl
        | exact wk_refl _
        | refine wkO_cells ?_
        | refine wks_cons ?_ ?_
        | exact wks_nil
        | exact wk_nil _ _ _ (.inl rfl)
        | exact wk_Q (by omega)
        | refine wk_tupL ?_
        | refine wk_aggL ?_
        | refine joinMax ?_ ?_ ?_
        | refine joinMin ?_ ?_ ?_
        | refine toMax ?_
        | refine toMin ?_
        | refine ⟨rfl, ?_⟩
        | refine ⟨trivial, ?_⟩
        | refine forkD (fun h => ?_) (fun h => ?_)
        | refine forkNe (fun h => ?_) (fun h => ?_)
        | refine forkEq (fun h => ?_) (fun h => ?_)
        | refine forkNot ?_
        | refine ⟨vI64 (by omega), ?_⟩
        | refine And.intro (by omega) ?_
        | apply And.intro
        | exact iEq (by omega)
        | exact vI64 (by omega)
        | fail
  · rw [hsp, show x = xs.length by omega, List.drop_length]; rfl
theorem errChart_1 {w h t : Int} {cs : List Cell} (h0 : ¬ errSize w h t = 0) : errChart w h t cs = errSize w h t := first2_1 h0
theorem errChart_2 {w h t : Int} {cs : List Cell} (h0 : errSize w h t = 0) (h1 : (cs.length : Int) ≠ w * h) : errChart w h t cs = 1 := (first2_2 h0).trans (if_neg h1)
theorem errChart_3 {w h t : Int} {cs : List Cell} (h0 : errSize w h t = 0) (h1 : (cs.length : Int) = w * h) : errChart w h t cs = errs errCell cs := (first2_2 h0).trans (if_pos h1)
theorem size_mul {w h t : Int} (h0 : errSize w h t = 0) : 1 ≤ w * h ∧ w * h ≤ 1024 := by
  obtain ⟨h1, h2, h3, _⟩ := errSize_iff.1 h0
  refine ⟨?_, h3⟩
  have : 1 * 1 ≤ w * h := Int.mul_le_mul h1.1 h2.1 (by omega) (by omega)
  omega
theorem kCheckChart (w h t : Int) (cs : List Cell) {H : Heap} {id : Nat} {own : Bool} {z : Nat} (hid : H[id]? = some (.cells own z (cs.flatMap cellC))) :
    KCall prog F.ice_CheckChart [.agg #[.int .i64 w, .int .i64 h, .int .i64 t, .slice (some ⟨id, 0, some 2⟩) cs.length cs.length]] H [] (Is (.int .i64 (errChart w h t cs)) H) := by
  refine valR (Eq.mpr (ECheckChart _ w h t cs) ?_) (one_cs (plainC 0 cs)) rfl [id] rfl (one_id hid)
  unfold RCheckChart
  refine ⟨_, trivial, fun H' _ _ => ksize _ _ _ H', ?_⟩
  refine forkNe (fun h0 => iEq (errChart_1 h0).symm) (fun h0 => ?_)
  have hm := size_mul h0
  repeat' first
    | refine ⟨_, ⟨rfl, trivial⟩, fun H' _ hd => kwrongC _ (by omega) hd.1, ?_⟩
    | exact iEq (errChart_2 h0 h).symm
    | exact iEq (errChart_3 h0 h).symm
    | exact trivial
    | exact rfl
    | exact wk_refl _
    | refine wkO_cells ?_
    | refine wks_cons ?_ ?_
    | exact wks_nil
    | exact wk_nil _ _ _ (.inl rfl)
    | exact wk_Q (by omega)
    | refine wk_tupL ?_
    | refine wk_aggL ?_
    | refine joinMax ?_ ?_ ?_
    | refine joinMin ?_ ?_ ?_
    | refine toMax ?_
    | refine toMin ?_
    | refine ⟨rfl, ?_⟩
    | refine ⟨trivial, ?_⟩
    | refine forkD (fun h => ?_) (fun h => ?_)
    | refine forkNe (fun h => ?_) (fun h => ?_)
    | refine forkEq (fun h => ?_) (fun h => ?_)
    | refine forkNot ?_
    | refine ⟨vI64 (by omega), ?_⟩
    | refine And.intro (by omega) ?_
    | apply And.intro
    | exact iEq (by omega)
    | exact vI64 (by omega)
    | fail
theorem krCheckChart (w h t : Int) (cs : List Cell) {H : Heap} {id : Nat} {own : Bool} {z : Nat} (hid : H[id]? = some (.cells own z (cs.flatMap cellC))) :
    KCall prog F.polynyaref01_CheckChart [.agg #[.int .i64 w, .int .i64 h, .int .i64 t, .slice (some ⟨id, 0, some 2⟩) cs.length cs.length]] H [] (Is (.int .i64 (errChart w h t cs)) H) := by
  refine valR (Eq.mpr (ErCheckChart _ w h t cs) ?_) (one_cs (plainC 0 cs)) rfl [id] rfl (one_id hid)
  unfold RrCheckChart
  refine ⟨_, trivial, fun H' _ _ => krsides _ _ _ H', ?_⟩
  refine forkNe (fun h0 => iEq (errChart_1 h0).symm) (fun h0 => ?_)
  have hm := size_mul h0
  repeat' first
    | refine ⟨rfl, ⟨Nat.zero_le _, rfl⟩, ?_, fun _ => rfl, ?_⟩
    | exact iEq (errChart_2 h0 h).symm
    | exact trivial
    | exact rfl
    | exact wk_refl _
    | refine wkO_cells ?_
    | refine wks_cons ?_ ?_
    | exact wks_nil
    | exact wk_nil _ _ _ (.inl rfl)
    | exact wk_Q (by omega)
    | refine wk_tupL ?_
    | refine wk_aggL ?_
    | refine joinMax ?_ ?_ ?_
    | refine joinMin ?_ ?_ ?_
    | refine toMax ?_
    | refine toMin ?_
    | refine ⟨rfl, ?_⟩
    | refine ⟨trivial, ?_⟩
    | refine forkD (fun h => ?_) (fun h => ?_)
    | refine forkNe (fun h => ?_) (fun h => ?_)
    | refine forkEq (fun h => ?_) (fun h => ?_)
    | refine forkNot ?_
    | refine ⟨vI64 (by omega), ?_⟩
    | refine And.intro (by omega) ?_
    | apply And.intro
    | exact iEq (by omega)
    | exact vI64 (by omega)
    | fail
  rintro x ⟨hx, he⟩
  refine forkD (fun hl => ?_) (fun hl => ?_)
  · have hlt : x < cs.length := by omega
    rw [errs_at (d := zeroC) hlt] at he
    refine ⟨by omega, partCell hlt, _, trivial, fun H' _ _ => krCheckCell _ H', ?_⟩
    refine forkNe (fun h1 => ?_) (fun h1 => ?_)
    · exact iEq ((errChart_3 h0 h).trans (by rw [he, if_neg h1])).symm
    · repeat' first
        | refine ⟨x + 1, ⟨by omega, by rw [he, if_pos h1]⟩, by omega, ?_⟩
        | exact trivial
        | exact rfl
        | exact wk_refl _
        | refine wkO_cells ?_
        | refine wks_cons ?_ ?_
        | exact wks_nil
        | exact wk_nil _ _ _ (.inl rfl)
        | exact wk_Q (by omega)
        | refine wk_tupL ?_
        | refine wk_aggL ?_
        | refine joinMax ?_ ?_ ?_
        | refine joinMin ?_ ?_ ?_
        | refine toMax ?_
        | refine toMin ?_
        | refine ⟨rfl, ?_⟩
        | refine ⟨trivial, ?_⟩
        | refine forkD (fun h => ?_) (fun h => ?_)
        | refine forkNe (fun h => ?_) (fun h => ?_)
        | refine forkEq (fun h => ?_) (fun h => ?_)
        | refine forkNot ?_
        | refine ⟨vI64 (by omega), ?_⟩
        | refine And.intro (by omega) ?_
        | apply And.intro
        | exact iEq (by omega)
        | exact vI64 (by omega)
        | fail
  · exact iEq ((errChart_3 h0 h).trans (by rw [he, show x = cs.length by omega, List.drop_length]; rfl)).symm
theorem errChart_ok {w h t : Int} {cs : List Cell} (h0 : errChart w h t cs = 0) : sizeOk w h t ∧ (cs.length : Int) = w * h ∧ cs.length ≤ 1024 ∧ ∀ c ∈ cs, rightC c := by
  have h1 : errSize w h t = 0 := by
    rcases Classical.em (errSize w h t = 0) with h1 | h1
    · exact h1
    · rw [errChart_1 h1] at h0; exact h0
  have h2 : (cs.length : Int) = w * h := by
    rcases Classical.em ((cs.length : Int) = w * h) with h2 | h2
    · exact h2
    · rw [errChart_2 h1 h2] at h0; cases h0
  rw [errChart_3 h1 h2] at h0
  have hm := size_mul h1
  exact ⟨errSize_iff.1 h1, h2, by omega, fun c hc => errCell_iff.1 (errs_zero h0 c hc)⟩
theorem right_at {cs : List Cell} (h : ∀ c ∈ cs, rightC c) {k : Nat} (hk : k < cs.length) : rightC (cs.getD k zeroC) := h _ (getD_mem hk)
theorem ansE1 {f : Chart × Int} {e : Int} (hf : f = (zeroChart, e)) : wk (.tuple #[.agg #[.int .i64 0, .int .i64 0, .int .i64 0, .slice none 0 0], .int .i64 e])
    (rn (sg 1 []) 3 (.tuple #[.agg #[.int .i64 f.1.w, .int .i64 f.1.h, .int .i64 f.1.hour, .slice (some ⟨1, 0, some 1⟩) f.1.cells.length f.1.cells.length], .int .i64 f.2])) := by
  subst hf
  exact wk_tupL (wks_cons (wk_aggL (wks_cons (wk_refl _) (wks_cons (wk_refl _) (wks_cons (wk_refl _) (wks_cons (wk_nil _ _ _ (.inl rfl)) wks_nil))))) (wks_cons (wk_refl _) wks_nil))
theorem ansOK1 {f : Chart × Int} {a b c e : Int} {l : List Cell} {x K : Nat} (hf : f = (⟨a, b, c, l⟩, e)) (hx : l.length = x) : wk (.tuple #[.agg #[.int .i64 a, .int .i64 b, .int .i64 c, .slice (some ⟨K, 0, some 1⟩) x x], .int .i64 e])
    (rn (sg 1 [(1, K)]) 3 (.tuple #[.agg #[.int .i64 f.1.w, .int .i64 f.1.h, .int .i64 f.1.hour, .slice (some ⟨1, 0, some 1⟩) f.1.cells.length f.1.cells.length], .int .i64 f.2])) := by
  subst hf; subst hx; exact wk_refl _
theorem ansE2 {f : Chart × Int} {e : Int} (hf : f = (zeroChart, e)) : wk (.tuple #[.agg #[.int .i64 0, .int .i64 0, .int .i64 0, .slice none 0 0], .int .i64 e])
    (rn (sg 2 []) 3 (.tuple #[.agg #[.int .i64 f.1.w, .int .i64 f.1.h, .int .i64 f.1.hour, .slice (some ⟨2, 0, some 1⟩) f.1.cells.length f.1.cells.length], .int .i64 f.2])) := by
  subst hf
  exact wk_tupL (wks_cons (wk_aggL (wks_cons (wk_refl _) (wks_cons (wk_refl _) (wks_cons (wk_refl _) (wks_cons (wk_nil _ _ _ (.inl rfl)) wks_nil))))) (wks_cons (wk_refl _) wks_nil))
theorem ansOK2 {f : Chart × Int} {a b c e : Int} {l : List Cell} {x K : Nat} (hf : f = (⟨a, b, c, l⟩, e)) (hx : l.length = x) : wk (.tuple #[.agg #[.int .i64 a, .int .i64 b, .int .i64 c, .slice (some ⟨K, 0, some 1⟩) x x], .int .i64 e])
    (rn (sg 2 [(2, K)]) 3 (.tuple #[.agg #[.int .i64 f.1.w, .int .i64 f.1.h, .int .i64 f.1.hour, .slice (some ⟨2, 0, some 1⟩) f.1.cells.length f.1.cells.length], .int .i64 f.2])) := by
  subst hf; subst hx; exact wk_refl _
theorem contOK {f : Chart × Int} {a b c e : Int} {l : List Cell} (hf : f = (⟨a, b, c, l⟩, e)) : some (KObj.cells true 8 (l.flatMap cellC)) = some (KObj.cells true 8 (f.1.cells.flatMap cellC)) := by subst hf; rfl
theorem contS {g : Nat → Cell} {x : Nat} : some (KObj.cells true 8 (List.take (x * 8) (List.drop 0 (List.flatMap cellC (tab g x))) ++ List.take (1 * 8) (List.drop 0 (cellC (g x))))) = some (KObj.cells true 8 (List.flatMap cellC (tab g (x + 1)))) := by
  rw [tab_succ]; exact congrArg (fun l => some (KObj.cells true 8 l)) (flat_snoc cellC_len (tab g x) (g x) (tab_len _ _).symm)
theorem appN {g : Nat → Cell} {x : Nat} : x ≤ x ∧ 0 + x * 8 ≤ List.length (List.flatMap cellC (tab g x)) := ⟨Nat.le_refl _, by rw [flat_len cellC_len, tab_len]; omega⟩
theorem fAgeC_1 {w v t n : Int} {cs : List Cell} {m : Rates} (h : ¬ errChart w v t cs = 0) : fAgeC w v t cs m n = (zeroChart, errChart w v t cs) := by unfold fAgeC; rw [first2_1 h, if_neg h]
theorem fAgeC_2 {w v t n : Int} {cs : List Cell} {m : Rates} (h : errChart w v t cs = 0) (k : ¬ errRates m = 0) : fAgeC w v t cs m n = (zeroChart, errRates m) := by unfold fAgeC; rw [first2_2 h, if_neg k]
theorem fAgeC_3 {w v t n : Int} {cs : List Cell} {m : Rates} (h : errChart w v t cs = 0) (k : errRates m = 0) (q : ¬ (0 ≤ n ∧ n ≤ 10000 - t)) : fAgeC w v t cs m n = (zeroChart, 6) := by unfold fAgeC; rw [first2_2 h, if_pos k, if_neg q]
theorem fAgeC_4 {w v t n : Int} {cs : List Cell} {m : Rates} (h : errChart w v t cs = 0) (k : errRates m = 0) (q : 0 ≤ n ∧ n ≤ 10000 - t) : fAgeC w v t cs m n = (⟨w, v, t + n, tab (fun k => ageC (cs.getD k zeroC) m n) cs.length⟩, 0) := by unfold fAgeC; rw [first2_2 h, if_pos k, if_pos q]
theorem valM {f : FuncId} {args : List Value} {css : List (List Value)} {h : Hint} {g : Chart × Int} {k : Nat} (hk : css.length = k) (hc : vF prog msk (dm 0) 100000 true 40 true f args (readsT 0 css) (some []) h (newK (readsT 0 css).n 3 (.tuple #[.agg #[.int .i64 g.1.w, .int .i64 g.1.h, .int .i64 g.1.hour, .slice (some ⟨k, 0, some 1⟩) g.1.cells.length g.1.cells.length], .int .i64 g.2]) [(true, .cells true 8 (g.1.cells.flatMap cellC))]))
    (hcss : ∀ cs ∈ css, cs.all (belowC 0) = true)
    {H : Heap} (ids : List Nat) (hl : ids.length = css.length) (hids : ∀ (k : Nat) (cs : List Value), css[k]? = some cs → ∃ id own z, ids[k]? = some id ∧ H[id]? = some (KObj.cells own z cs)) :
    KCall prog f (args.map (rn (sgR 0 ids) 3)) H [] (Is (.tuple #[.agg #[.int .i64 g.1.w, .int .i64 g.1.h, .int .i64 g.1.hour, .slice (some ⟨H.length, 0, some 1⟩) g.1.cells.length g.1.cells.length], .int .i64 g.2]) (H ++ [.cells true 8 (g.1.cells.flatMap cellC)])) := by
  subst hk
  have := valN hc hcss rfl (by simp [rn, sgOnly]) (by
    show ((rnoOk 3 (.cells true 8 (g.1.cells.flatMap cellC)) && true) && true) = true
    rw [Bool.and_true, Bool.and_true]; exact (rnCl (σ := fun _ => none) (d := 2) (plainC 0 g.1.cells)).2) (congrArg (fun l => [KObj.cells true 8 l]) (rnCl (d := 2) (plainC 0 g.1.cells)).1) ids hl hids
  have e1 : ∀ x : Value, rn (sgUp (0 + css.length) H.length) 3 (.tuple #[.agg #[.int .i64 g.1.w, .int .i64 g.1.h, .int .i64 g.1.hour, .slice (some ⟨css.length, 0, some 1⟩) g.1.cells.length g.1.cells.length], .int .i64 g.2]) = .tuple #[.agg #[.int .i64 g.1.w, .int .i64 g.1.h, .int .i64 g.1.hour, .slice (some ⟨H.length, 0, some 1⟩) g.1.cells.length g.1.cells.length], .int .i64 g.2] := by intro x; simp [rn, sgUp]
  have e2 : (List.map (fun x : Bool × KObj => x.2) [(true, KObj.cells true 8 (g.1.cells.flatMap cellC))]).map (rno (sgUp (0 + css.length) H.length) 3) = [.cells true 8 (g.1.cells.flatMap cellC)] := congrArg (fun l => [KObj.cells true 8 l]) (rnCl (d := 2) (plainC 0 g.1.cells)).1
  rw [e1 undef, e2] at this
  exact this
theorem kAgeChart (w v t : Int) (cs : List Cell) (m : Rates) (n : Int) {H : Heap} {id : Nat} {own : Bool} {z : Nat} {L : Nat} (hL : H.length = L) (hid : H[id]? = some (.cells own z (cs.flatMap cellC))) :
    KCall prog F.ice_AgeChart [.agg #[.int .i64 w, .int .i64 v, .int .i64 t, .slice (some ⟨id, 0, some 2⟩) cs.length cs.length], ratesV m, .int .i64 n] H []
      (Is (.tuple #[.agg #[.int .i64 (fAgeC w v t cs m n).1.w, .int .i64 (fAgeC w v t cs m n).1.h, .int .i64 (fAgeC w v t cs m n).1.hour, .slice (some ⟨L, 0, some 1⟩) (fAgeC w v t cs m n).1.cells.length (fAgeC w v t cs m n).1.cells.length], .int .i64 (fAgeC w v t cs m n).2]) (H ++ [.cells true 8 ((fAgeC w v t cs m n).1.cells.flatMap cellC)])) := by
  subst hL
  refine valM (css := [cs.flatMap cellC]) (g := fAgeC w v t cs m n) rfl (Eq.mpr (EAgeChart w v t cs m n) ?_) (one_cs (plainC 0 cs)) [id] rfl (one_id hid)
  unfold RAgeChart
  refine ⟨_, ⟨rfl, trivial⟩, fun H' _ hd => kCheckChart _ _ _ _ hd.1, _, trivial, fun H' _ _ => kCheckRates _ H', ?_⟩
  refine forkNe (fun h0 => ⟨vbT (bne_iff_ne.2 h0), rfl, ansE1 (fAgeC_1 h0), trivial, trivial⟩) (fun h0 => ?_)
  refine forkNe (fun h1 => ⟨vbT (bne_iff_ne.2 h1), rfl, ansE1 (fAgeC_2 h0 h1), trivial, trivial⟩) (fun h1 => ?_)
  obtain ⟨hs, hl, hb, hr⟩ := errChart_ok h0
  have hm := errRates_iff.1 h1
  have hs3 := hs.2.2.2
  repeat' first
    | exact ansE1 (fAgeC_3 h0 h1 (by omega))
    | refine ⟨rfl, Nat.zero_le _, ?_, fun _ => rfl, ?_⟩
    | exact trivial
    | exact rfl
    | exact wk_refl _
    | refine wkO_cells ?_
    | refine wks_cons ?_ ?_
    | exact wks_nil
    | exact wk_nil _ _ _ (.inl rfl)
    | exact wk_Q (by omega)
    | refine wk_tupL ?_
    | refine wk_aggL ?_
    | refine joinMax ?_ ?_ ?_
    | refine joinMin ?_ ?_ ?_
    | refine toMax ?_
    | refine toMin ?_
    | refine ⟨rfl, ?_⟩
    | refine ⟨trivial, ?_⟩
    | refine forkD (fun h => ?_) (fun h => ?_)
    | refine forkNe (fun h => ?_) (fun h => ?_)
    | refine forkEq (fun h => ?_) (fun h => ?_)
    | refine forkNot ?_
    | refine ⟨vI64 (by omega), ?_⟩
    | refine And.intro (by omega) ?_
    | apply And.intro
    | exact iEq (by omega)
    | exact vI64 (by omega)
    | fail
  intro x hx
  refine forkD (fun hl => ?_) (fun hl => ?_)
  · have hlt : x < cs.length := by omega
    have hc := right_at hr hlt
    repeat' first
      | refine ⟨partCell hlt, ?_⟩
      | refine ⟨_, trivial, fun H' _ _ => kspAged _ _ _ hc hm (by omega) H', ?_⟩
      | refine ⟨⟨by omega, by decide, appN, ⟨by decide, Nat.le_refl _⟩, rfl⟩, rfl, ?_⟩
      | refine ⟨x + 1, by omega, by omega, ?_⟩
      | exact contS
      | exact plainC _ _
      | exact trivial
      | exact rfl
      | exact wk_refl _
      | refine wkO_cells ?_
      | refine wks_cons ?_ ?_
      | exact wks_nil
      | exact wk_nil _ _ _ (.inl rfl)
      | exact wk_Q (by omega)
      | refine wk_tupL ?_
      | refine wk_aggL ?_
      | refine joinMax ?_ ?_ ?_
      | refine joinMin ?_ ?_ ?_
      | refine toMax ?_
      | refine toMin ?_
      | refine ⟨rfl, ?_⟩
      | refine ⟨trivial, ?_⟩
      | refine forkD (fun h => ?_) (fun h => ?_)
      | refine forkNe (fun h => ?_) (fun h => ?_)
      | refine forkEq (fun h => ?_) (fun h => ?_)
      | refine forkNot ?_
      | refine ⟨vI64 (by omega), ?_⟩
      | refine And.intro (by omega) ?_
      | apply And.intro
      | exact iEq (by omega)
      | exact vI64 (by omega)
      | fail
  · obtain rfl : x = cs.length := by omega
    have hf := fAgeC_4 (n := n) h0 h1 (by omega)
    exact ⟨rfl, ansOK1 hf (tab_len _ _), ⟨contOK hf, plainC _ _⟩, trivial⟩
theorem krAgeChart (w v t : Int) (cs : List Cell) (m : Rates) (n : Int) {H : Heap} {id : Nat} {own : Bool} {z : Nat} {L : Nat} (hL : H.length = L) (hid : H[id]? = some (.cells own z (cs.flatMap cellC))) :
    KCall prog F.polynyaref01_AgeChart [.agg #[.int .i64 w, .int .i64 v, .int .i64 t, .slice (some ⟨id, 0, some 2⟩) cs.length cs.length], ratesV m, .int .i64 n] H []
      (Is (.tuple #[.agg #[.int .i64 (fAgeC w v t cs m n).1.w, .int .i64 (fAgeC w v t cs m n).1.h, .int .i64 (fAgeC w v t cs m n).1.hour, .slice (some ⟨L, 0, some 1⟩) (fAgeC w v t cs m n).1.cells.length (fAgeC w v t cs m n).1.cells.length], .int .i64 (fAgeC w v t cs m n).2]) (H ++ [.cells true 8 ((fAgeC w v t cs m n).1.cells.flatMap cellC)])) := by
  subst hL
  refine valM (css := [cs.flatMap cellC]) (g := fAgeC w v t cs m n) rfl (Eq.mpr (ErAgeChart w v t cs m n) ?_) (one_cs (plainC 0 cs)) [id] rfl (one_id hid)
  unfold RrAgeChart
  refine ⟨_, ⟨rfl, trivial⟩, fun H' _ hd => krCheckChart _ _ _ _ hd.1, ?_⟩
  refine forkNe (fun h0 => ⟨rfl, ansE1 (fAgeC_1 h0), trivial, trivial⟩) (fun h0 => ?_)
  refine ⟨_, trivial, fun H' _ _ => krCheckRates _ H', ?_⟩
  refine forkNe (fun h1 => ⟨rfl, ansE1 (fAgeC_2 h0 h1), trivial, trivial⟩) (fun h1 => ?_)
  obtain ⟨hs, hl, hb, hr⟩ := errChart_ok h0
  have hm := errRates_iff.1 h1
  have hs3 := hs.2.2.2
  repeat' first
    | exact ansE1 (fAgeC_3 h0 h1 (by omega))
    | refine ⟨rfl, Nat.zero_le _, ?_, fun _ => rfl, ?_⟩
    | exact trivial
    | exact rfl
    | exact wk_refl _
    | refine wkO_cells ?_
    | refine wks_cons ?_ ?_
    | exact wks_nil
    | exact wk_nil _ _ _ (.inl rfl)
    | exact wk_Q (by omega)
    | refine wk_tupL ?_
    | refine wk_aggL ?_
    | refine joinMax ?_ ?_ ?_
    | refine joinMin ?_ ?_ ?_
    | refine toMax ?_
    | refine toMin ?_
    | refine ⟨rfl, ?_⟩
    | refine ⟨trivial, ?_⟩
    | refine forkD (fun h => ?_) (fun h => ?_)
    | refine forkNe (fun h => ?_) (fun h => ?_)
    | refine forkEq (fun h => ?_) (fun h => ?_)
    | refine forkNot ?_
    | refine ⟨vI64 (by omega), ?_⟩
    | refine And.intro (by omega) ?_
    | apply And.intro
    | exact iEq (by omega)
    | exact vI64 (by omega)
    | fail
  intro x hx
  refine forkD (fun hl => ?_) (fun hl => ?_)
  · have hlt : x < cs.length := by omega
    have hc := right_at hr hlt
    repeat' first
      | refine ⟨partCell hlt, ?_⟩
      | refine ⟨_, trivial, fun H' _ _ => krOlder _ _ _ hc hm (by omega) H', ?_⟩
      | refine ⟨⟨by omega, by decide, appN, ⟨by decide, Nat.le_refl _⟩, rfl⟩, rfl, ?_⟩
      | refine ⟨x + 1, by omega, by omega, ?_⟩
      | exact contS
      | exact plainC _ _
      | exact trivial
      | exact rfl
      | exact wk_refl _
      | refine wkO_cells ?_
      | refine wks_cons ?_ ?_
      | exact wks_nil
      | exact wk_nil _ _ _ (.inl rfl)
      | exact wk_Q (by omega)
      | refine wk_tupL ?_
      | refine wk_aggL ?_
      | refine joinMax ?_ ?_ ?_
      | refine joinMin ?_ ?_ ?_
      | refine toMax ?_
      | refine toMin ?_
      | refine ⟨rfl, ?_⟩
      | refine ⟨trivial, ?_⟩
      | refine forkD (fun h => ?_) (fun h => ?_)
      | refine forkNe (fun h => ?_) (fun h => ?_)
      | refine forkEq (fun h => ?_) (fun h => ?_)
      | refine forkNot ?_
      | refine ⟨vI64 (by omega), ?_⟩
      | refine And.intro (by omega) ?_
      | apply And.intro
      | exact iEq (by omega)
      | exact vI64 (by omega)
      | fail
  · obtain rfl : x = cs.length := by omega
    have hf := fAgeC_4 (n := n) h0 h1 (by omega)
    exact ⟨rfl, ansOK1 hf (tab_len _ _), ⟨contOK hf, plainC _ _⟩, trivial⟩
end
end Go.Proofs.YthcjliffpebjaaaGreat
/- Ice: functions of two charts; fields in charts. No condition. -/
namespace Go.Proofs.YthcjliffpebjaaaGreat
open Go Go.K
set_option maxRecDepth 100000
set_option linter.unusedVariables false
set_option linter.unusedSimpArgs false
noncomputable section
attribute [local irreducible] vF
section
variable {w v t w' v' t' : Int} {cs ds : List Cell}
theorem errPair_1 (h : ¬ errChart w v t cs = 0) : errPair w v t cs w' v' t' ds = errChart w v t cs := by unfold errPair; rw [first2_1 h, if_neg h]
theorem errPair_2 (h : errChart w v t cs = 0) (k : ¬ errChart w' v' t' ds = 0) : errPair w v t cs w' v' t' ds = errChart w' v' t' ds := by unfold errPair; rw [first2_2 h, if_neg k]
theorem errPair_3 (h : errChart w v t cs = 0) (k : errChart w' v' t' ds = 0) (q : ¬ (w = w' ∧ v = v' ∧ t = t')) : errPair w v t cs w' v' t' ds = 1 := by unfold errPair; rw [first2_2 h, if_pos k, if_neg q]
theorem errPair_4 (h : errChart w v t cs = 0) (k : errChart w' v' t' ds = 0) (q : w = w' ∧ v = v' ∧ t = t') : errPair w v t cs w' v' t' ds = 0 := by unfold errPair; rw [first2_2 h, if_pos k, if_pos q]
theorem errPair_ok (h : errPair w v t cs w' v' t' ds = 0) : cs.length = ds.length ∧ cs.length ≤ 1024 ∧ (∀ c ∈ cs, rightC c) ∧ ∀ c ∈ ds, rightC c := by
  rcases Classical.em (errChart w v t cs = 0) with h1 | h1
  · rcases Classical.em (errChart w' v' t' ds = 0) with h2 | h2
    · rcases Classical.em (w = w' ∧ v = v' ∧ t = t') with h3 | h3
      · obtain ⟨a1, a2, a3, a4⟩ := errChart_ok h1
        obtain ⟨b1, b2, b3, b4⟩ := errChart_ok h2
        obtain ⟨rfl, rfl, rfl⟩ := h3
        exact ⟨by omega, a3, a4, b4⟩
      · rw [errPair_3 h1 h2 h3] at h; cases h
    · rw [errPair_2 h1 h2] at h; exact absurd h h2
  · rw [errPair_1 h1] at h; exact absurd h h1
theorem fMeetC_1 (h : ¬ errPair w v t cs w' v' t' ds = 0) : fMeetC w v t cs w' v' t' ds = (zeroChart, errPair w v t cs w' v' t' ds) := by unfold fMeetC; rw [if_neg h]
theorem fMeetC_2 (h : errPair w v t cs w' v' t' ds = 0) (k : ¬ okTo cs ds cs.length) : fMeetC w v t cs w' v' t' ds = (zeroChart, 21) := by unfold fMeetC; rw [if_pos h, if_neg k]
theorem fMeetC_3 (h : errPair w v t cs w' v' t' ds = 0) (k : okTo cs ds cs.length) : fMeetC w v t cs w' v' t' ds = (⟨w, v, t, tab (meetAt cs ds) cs.length⟩, 0) := by unfold fMeetC; rw [if_pos h, if_pos k]
theorem fHullC_1 (h : ¬ errPair w v t cs w' v' t' ds = 0) : fHullC w v t cs w' v' t' ds = (zeroChart, errPair w v t cs w' v' t' ds) := by unfold fHullC; rw [if_neg h]
theorem fHullC_2 (h : errPair w v t cs w' v' t' ds = 0) : fHullC w v t cs w' v' t' ds = (⟨w, v, t, tab (hullAt cs ds) cs.length⟩, 0) := by unfold fHullC; rw [if_pos h]
theorem fInsC_1 (h : ¬ errPair w v t cs w' v' t' ds = 0) : fInsC w v t cs w' v' t' ds = (false, errPair w v t cs w' v' t' ds) := by unfold fInsC; rw [if_neg h]
theorem fInsC_2 (h : errPair w v t cs w' v' t' ds = 0) (k : ¬ insTo cs ds cs.length) : fInsC w v t cs w' v' t' ds = (false, 0) := by unfold fInsC; rw [if_pos h]; simp [k]
theorem fInsC_3 (h : errPair w v t cs w' v' t' ds = 0) (k : insTo cs ds cs.length) : fInsC w v t cs w' v' t' ds = (true, 0) := by unfold fInsC; rw [if_pos h]; simp [k]
theorem fHolds_1 {xs : List Ice} (h : ¬ errChart w v t cs = 0) : fHolds w v t cs xs = (false, errChart w v t cs) := by unfold fHolds; rw [if_neg h]
theorem fHolds_2 {xs : List Ice} (h : errChart w v t cs = 0) (k : ¬ xs.length = cs.length) : fHolds w v t cs xs = (false, 1) := by unfold fHolds; rw [if_pos h, if_neg k]
theorem fHolds_3 {xs : List Ice} (h : errChart w v t cs = 0) (k : xs.length = cs.length) (q : ¬ errs errIce xs = 0) : fHolds w v t cs xs = (false, errs errIce xs) := by unfold fHolds; rw [if_pos h, if_pos k, if_neg q]
theorem fHolds_4 {xs : List Ice} (h : errChart w v t cs = 0) (k : xs.length = cs.length) (q : errs errIce xs = 0) (r : ¬ hasTo cs xs xs.length) : fHolds w v t cs xs = (false, 0) := by unfold fHolds; rw [if_pos h, if_pos k, if_pos q]; simp [r]
theorem fHolds_5 {xs : List Ice} (h : errChart w v t cs = 0) (k : xs.length = cs.length) (q : errs errIce xs = 0) (r : hasTo cs xs xs.length) : fHolds w v t cs xs = (true, 0) := by unfold fHolds; rw [if_pos h, if_pos k, if_pos q]; simp [r]
theorem to_zero {p : Nat → Prop} : ∀ k, k < 0 → p k := fun k h => absurd h (Nat.not_lt_zero k)
theorem to_succ {p : Nat → Prop} {n : Nat} (h : ∀ k, k < n → p k) (hn : p n) : ∀ k, k < n + 1 → p k := by
  intro k hk
  rcases Nat.lt_or_ge k n with h1 | h1
  · exact h k h1
  · obtain rfl : k = n := by omega
    exact hn
end
theorem kpair (w v t : Int) (cs : List Cell) (w' v' t' : Int) (ds : List Cell) {H : Heap} {id id2 : Nat} {own own2 : Bool} {z z2 : Nat} (hid : H[id]? = some (.cells own z (cs.flatMap cellC))) (hid2 : H[id2]? = some (.cells own2 z2 (ds.flatMap cellC))) :
    KCall prog F.ice_pair [.agg #[.int .i64 w, .int .i64 v, .int .i64 t, .slice (some ⟨id, 0, some 2⟩) cs.length cs.length], .agg #[.int .i64 w', .int .i64 v', .int .i64 t', .slice (some ⟨id2, 0, some 2⟩) ds.length ds.length]] H [] (Is (.int .i64 (errPair w v t cs w' v' t' ds)) H) := by
  refine valR (Eq.mpr (Epair _ w v t cs w' v' t' ds) ?_) (two_cs (plainC 0 cs) (plainC 0 ds)) rfl [id, id2] rfl (two_id hid hid2)
  unfold Rpair
  repeat' first
    | refine ⟨_, ⟨rfl, trivial⟩, fun H' _ hd => kCheckChart _ _ _ _ hd.1, ?_⟩
    | refine forkNe (fun h => ?_) (fun h => ?_)
    | refine ⟨vbT (bne_iff_ne.2 h), ?_⟩
    | exact iEq (errPair_1 h).symm
    | exact iEq (errPair_2 ‹_› h).symm
    | exact iEq (errPair_3 ‹_› ‹_› (fun q => by omega)).symm
    | exact iEq (errPair_4 ‹_› ‹_› ⟨‹_›, ‹_›, ‹_›⟩).symm
    | fail
theorem krboth (w v t : Int) (cs : List Cell) (w' v' t' : Int) (ds : List Cell) {H : Heap} {id id2 : Nat} {own own2 : Bool} {z z2 : Nat} (hid : H[id]? = some (.cells own z (cs.flatMap cellC))) (hid2 : H[id2]? = some (.cells own2 z2 (ds.flatMap cellC))) :
    KCall prog F.polynyaref01_both [.agg #[.int .i64 w, .int .i64 v, .int .i64 t, .slice (some ⟨id, 0, some 2⟩) cs.length cs.length], .agg #[.int .i64 w', .int .i64 v', .int .i64 t', .slice (some ⟨id2, 0, some 2⟩) ds.length ds.length]] H [] (Is (.int .i64 (errPair w v t cs w' v' t' ds)) H) := by
  refine valR (Eq.mpr (Eboth _ w v t cs w' v' t' ds) ?_) (two_cs (plainC 0 cs) (plainC 0 ds)) rfl [id, id2] rfl (two_id hid hid2)
  unfold Rboth
  repeat' first
    | refine ⟨_, ⟨rfl, trivial⟩, fun H' _ hd => krCheckChart _ _ _ _ hd.1, ?_⟩
    | refine forkNe (fun h => ?_) (fun h => ?_)
    | refine ⟨vbT (bne_iff_ne.2 h), ?_⟩
    | exact iEq (errPair_1 h).symm
    | exact iEq (errPair_2 ‹_› h).symm
    | exact iEq (errPair_3 ‹_› ‹_› (fun q => by omega)).symm
    | exact iEq (errPair_4 ‹_› ‹_› ⟨‹_›, ‹_›, ‹_›⟩).symm
    | fail
theorem kMeetCharts (w v t : Int) (cs : List Cell) (w' v' t' : Int) (ds : List Cell) {H : Heap} {id id2 : Nat} {own own2 : Bool} {z z2 : Nat} {L : Nat} (hL : H.length = L) (hid : H[id]? = some (.cells own z (cs.flatMap cellC))) (hid2 : H[id2]? = some (.cells own2 z2 (ds.flatMap cellC))) :
    KCall prog F.ice_MeetCharts [.agg #[.int .i64 w, .int .i64 v, .int .i64 t, .slice (some ⟨id, 0, some 2⟩) cs.length cs.length], .agg #[.int .i64 w', .int .i64 v', .int .i64 t', .slice (some ⟨id2, 0, some 2⟩) ds.length ds.length]] H [] (Is (.tuple #[.agg #[.int .i64 (fMeetC w v t cs w' v' t' ds).1.w, .int .i64 (fMeetC w v t cs w' v' t' ds).1.h, .int .i64 (fMeetC w v t cs w' v' t' ds).1.hour, .slice (some ⟨L, 0, some 1⟩) (fMeetC w v t cs w' v' t' ds).1.cells.length (fMeetC w v t cs w' v' t' ds).1.cells.length], .int .i64 (fMeetC w v t cs w' v' t' ds).2]) (H ++ [.cells true 8 ((fMeetC w v t cs w' v' t' ds).1.cells.flatMap cellC)])) := by
  subst hL
  refine valM (css := [cs.flatMap cellC, ds.flatMap cellC]) (g := fMeetC w v t cs w' v' t' ds) rfl (Eq.mpr (EMeetCharts w v t cs w' v' t' ds) ?_) (two_cs (plainC 0 cs) (plainC 0 ds)) [id, id2] rfl (two_id hid hid2)
  unfold RMeetCharts
  refine ⟨_, ⟨rfl, rfl, trivial⟩, fun H' _ hd => kpair _ _ _ _ _ _ _ _ hd.1 hd.2.1, ?_⟩
  refine forkNe (fun h0 => ⟨rfl, ansE2 (fMeetC_1 h0), trivial, trivial⟩) (fun h0 => ?_)
  obtain ⟨hle, hb, hr, hr2⟩ := errPair_ok h0
  repeat' first
    | refine ⟨rfl, ⟨Nat.zero_le _, to_zero⟩, ?_, fun _ => rfl, ?_⟩
    | exact trivial
    | exact rfl
    | exact wk_refl _
    | refine wkO_cells ?_
    | refine wks_cons ?_ ?_
    | exact wks_nil
    | exact wk_nil _ _ _ (.inl rfl)
    | exact wk_Q (by omega)
    | refine wk_tupL ?_
    | refine wk_aggL ?_
    | refine joinMax ?_ ?_ ?_
    | refine joinMin ?_ ?_ ?_
    | refine toMax ?_
    | refine toMin ?_
    | refine ⟨rfl, ?_⟩
    | refine ⟨trivial, ?_⟩
    | refine forkD (fun h => ?_) (fun h => ?_)
    | refine forkNe (fun h => ?_) (fun h => ?_)
    | refine forkEq (fun h => ?_) (fun h => ?_)
    | refine forkNot ?_
    | refine ⟨vI64 (by omega), ?_⟩
    | refine And.intro (by omega) ?_
    | apply And.intro
    | exact iEq (by omega)
    | exact vI64 (by omega)
    | fail
  rintro x ⟨hx, ho⟩
  refine forkD (fun hl => ?_) (fun hl => ?_)
  · have hlt : x < cs.length := by omega
    have hlt2 : x < ds.length := by omega
    have hc := right_at hr hlt
    have hc2 := right_at hr2 hlt2
    repeat' first
      | refine ⟨(_, _), trivial, fun H' _ _ => kspMeet _ _ H', ?_⟩
      | refine forkNot (forkD (fun hk => ?_) (fun hk => ?_))
      | exact ansE2 (fMeetC_2 h0 (fun q => hk (q _ hlt)))
      | refine ⟨x + 1, ⟨by omega, to_succ ho hk⟩, by omega, ?_⟩
      | refine ⟨partCell hlt, ?_⟩
      | refine ⟨partCell hlt2, ?_⟩
      | refine ⟨⟨by omega, by decide, appN, ⟨by decide, Nat.le_refl _⟩, rfl⟩, rfl, ?_⟩
      | exact contS
      | exact plainC _ _
      | exact trivial
      | exact rfl
      | exact wk_refl _
      | refine wkO_cells ?_
      | refine wks_cons ?_ ?_
      | exact wks_nil
      | exact wk_nil _ _ _ (.inl rfl)
      | exact wk_Q (by omega)
      | refine wk_tupL ?_
      | refine wk_aggL ?_
      | refine joinMax ?_ ?_ ?_
      | refine joinMin ?_ ?_ ?_
      | refine toMax ?_
      | refine toMin ?_
      | refine ⟨rfl, ?_⟩
      | refine ⟨trivial, ?_⟩
      | refine forkD (fun h => ?_) (fun h => ?_)
      | refine forkNe (fun h => ?_) (fun h => ?_)
      | refine forkEq (fun h => ?_) (fun h => ?_)
      | refine forkNot ?_
      | refine ⟨vI64 (by omega), ?_⟩
      | refine And.intro (by omega) ?_
      | apply And.intro
      | exact iEq (by omega)
      | exact vI64 (by omega)
      | fail
  · obtain rfl : x = cs.length := by omega
    have hf := fMeetC_3 h0 ho
    exact ⟨rfl, ansOK2 hf (tab_len _ _), ⟨contOK hf, plainC _ _⟩, trivial⟩
theorem krMeetCharts (w v t : Int) (cs : List Cell) (w' v' t' : Int) (ds : List Cell) {H : Heap} {id id2 : Nat} {own own2 : Bool} {z z2 : Nat} {L : Nat} (hL : H.length = L) (hid : H[id]? = some (.cells own z (cs.flatMap cellC))) (hid2 : H[id2]? = some (.cells own2 z2 (ds.flatMap cellC))) :
    KCall prog F.polynyaref01_MeetCharts [.agg #[.int .i64 w, .int .i64 v, .int .i64 t, .slice (some ⟨id, 0, some 2⟩) cs.length cs.length], .agg #[.int .i64 w', .int .i64 v', .int .i64 t', .slice (some ⟨id2, 0, some 2⟩) ds.length ds.length]] H [] (Is (.tuple #[.agg #[.int .i64 (fMeetC w v t cs w' v' t' ds).1.w, .int .i64 (fMeetC w v t cs w' v' t' ds).1.h, .int .i64 (fMeetC w v t cs w' v' t' ds).1.hour, .slice (some ⟨L, 0, some 1⟩) (fMeetC w v t cs w' v' t' ds).1.cells.length (fMeetC w v t cs w' v' t' ds).1.cells.length], .int .i64 (fMeetC w v t cs w' v' t' ds).2]) (H ++ [.cells true 8 ((fMeetC w v t cs w' v' t' ds).1.cells.flatMap cellC)])) := by
  subst hL
  refine valM (css := [cs.flatMap cellC, ds.flatMap cellC]) (g := fMeetC w v t cs w' v' t' ds) rfl (Eq.mpr (ErMeetCharts w v t cs w' v' t' ds) ?_) (two_cs (plainC 0 cs) (plainC 0 ds)) [id, id2] rfl (two_id hid hid2)
  unfold RrMeetCharts
  refine ⟨_, ⟨rfl, rfl, trivial⟩, fun H' _ hd => krboth _ _ _ _ _ _ _ _ hd.1 hd.2.1, ?_⟩
  refine forkNe (fun h0 => ⟨rfl, ansE2 (fMeetC_1 h0), trivial, trivial⟩) (fun h0 => ?_)
  obtain ⟨hle, hb, hr, hr2⟩ := errPair_ok h0
  repeat' first
    | refine ⟨rfl, ⟨Nat.zero_le _, to_zero⟩, ?_, fun _ => rfl, ?_⟩
    | exact trivial
    | exact rfl
    | exact wk_refl _
    | refine wkO_cells ?_
    | refine wks_cons ?_ ?_
    | exact wks_nil
    | exact wk_nil _ _ _ (.inl rfl)
    | exact wk_Q (by omega)
    | refine wk_tupL ?_
    | refine wk_aggL ?_
    | refine joinMax ?_ ?_ ?_
    | refine joinMin ?_ ?_ ?_
    | refine toMax ?_
    | refine toMin ?_
    | refine ⟨rfl, ?_⟩
    | refine ⟨trivial, ?_⟩
    | refine forkD (fun h => ?_) (fun h => ?_)
    | refine forkNe (fun h => ?_) (fun h => ?_)
    | refine forkEq (fun h => ?_) (fun h => ?_)
    | refine forkNot ?_
    | refine ⟨vI64 (by omega), ?_⟩
    | refine And.intro (by omega) ?_
    | apply And.intro
    | exact iEq (by omega)
    | exact vI64 (by omega)
    | fail
  rintro x ⟨hx, ho⟩
  refine forkD (fun hl => ?_) (fun hl => ?_)
  · have hlt : x < cs.length := by omega
    have hlt2 : x < ds.length := by omega
    have hc := right_at hr hlt
    have hc2 := right_at hr2 hlt2
    repeat' first
      | refine ⟨_, trivial, fun H' _ _ => krApart _ _ hc hc2 H', ?_⟩
      | refine ⟨_, trivial, fun H' _ _ => krCommon _ _ H', ?_⟩
      | refine forkNot (forkD (fun hk => ?_) (fun hk => ?_))
      | exact ansE2 (fMeetC_2 h0 (fun q => hk (q _ hlt)))
      | refine ⟨x + 1, ⟨by omega, to_succ ho hk⟩, by omega, ?_⟩
      | refine ⟨partCell hlt, ?_⟩
      | refine ⟨partCell hlt2, ?_⟩
      | refine ⟨⟨by omega, by decide, appN, ⟨by decide, Nat.le_refl _⟩, rfl⟩, rfl, ?_⟩
      | exact contS
      | exact plainC _ _
      | exact trivial
      | exact rfl
      | exact wk_refl _
      | refine wkO_cells ?_
      | refine wks_cons ?_ ?_
      | exact wks_nil
      | exact wk_nil _ _ _ (.inl rfl)
      | exact wk_Q (by omega)
      | refine wk_tupL ?_
      | refine wk_aggL ?_
      | refine joinMax ?_ ?_ ?_
      | refine joinMin ?_ ?_ ?_
      | refine toMax ?_
      | refine toMin ?_
      | refine ⟨rfl, ?_⟩
      | refine ⟨trivial, ?_⟩
      | refine forkD (fun h => ?_) (fun h => ?_)
      | refine forkNe (fun h => ?_) (fun h => ?_)
      | refine forkEq (fun h => ?_) (fun h => ?_)
      | refine forkNot ?_
      | refine ⟨vI64 (by omega), ?_⟩
      | refine And.intro (by omega) ?_
      | apply And.intro
      | exact iEq (by omega)
      | exact vI64 (by omega)
      | fail
  · obtain rfl : x = cs.length := by omega
    have hf := fMeetC_3 h0 ho
    exact ⟨rfl, ansOK2 hf (tab_len _ _), ⟨contOK hf, plainC _ _⟩, trivial⟩
theorem kHullCharts (w v t : Int) (cs : List Cell) (w' v' t' : Int) (ds : List Cell) {H : Heap} {id id2 : Nat} {own own2 : Bool} {z z2 : Nat} {L : Nat} (hL : H.length = L) (hid : H[id]? = some (.cells own z (cs.flatMap cellC))) (hid2 : H[id2]? = some (.cells own2 z2 (ds.flatMap cellC))) :
    KCall prog F.ice_HullCharts [.agg #[.int .i64 w, .int .i64 v, .int .i64 t, .slice (some ⟨id, 0, some 2⟩) cs.length cs.length], .agg #[.int .i64 w', .int .i64 v', .int .i64 t', .slice (some ⟨id2, 0, some 2⟩) ds.length ds.length]] H [] (Is (.tuple #[.agg #[.int .i64 (fHullC w v t cs w' v' t' ds).1.w, .int .i64 (fHullC w v t cs w' v' t' ds).1.h, .int .i64 (fHullC w v t cs w' v' t' ds).1.hour, .slice (some ⟨L, 0, some 1⟩) (fHullC w v t cs w' v' t' ds).1.cells.length (fHullC w v t cs w' v' t' ds).1.cells.length], .int .i64 (fHullC w v t cs w' v' t' ds).2]) (H ++ [.cells true 8 ((fHullC w v t cs w' v' t' ds).1.cells.flatMap cellC)])) := by
  subst hL
  refine valM (css := [cs.flatMap cellC, ds.flatMap cellC]) (g := fHullC w v t cs w' v' t' ds) rfl (Eq.mpr (EHullCharts w v t cs w' v' t' ds) ?_) (two_cs (plainC 0 cs) (plainC 0 ds)) [id, id2] rfl (two_id hid hid2)
  unfold RHullCharts
  refine ⟨_, ⟨rfl, rfl, trivial⟩, fun H' _ hd => kpair _ _ _ _ _ _ _ _ hd.1 hd.2.1, ?_⟩
  refine forkNe (fun h0 => ⟨rfl, ansE2 (fHullC_1 h0), trivial, trivial⟩) (fun h0 => ?_)
  obtain ⟨hle, hb, hr, hr2⟩ := errPair_ok h0
  repeat' first
    | refine ⟨rfl, Nat.zero_le _, ?_, fun _ => rfl, ?_⟩
    | exact trivial
    | exact rfl
    | exact wk_refl _
    | refine wkO_cells ?_
    | refine wks_cons ?_ ?_
    | exact wks_nil
    | exact wk_nil _ _ _ (.inl rfl)
    | exact wk_Q (by omega)
    | refine wk_tupL ?_
    | refine wk_aggL ?_
    | refine joinMax ?_ ?_ ?_
    | refine joinMin ?_ ?_ ?_
    | refine toMax ?_
    | refine toMin ?_
    | refine ⟨rfl, ?_⟩
    | refine ⟨trivial, ?_⟩
    | refine forkD (fun h => ?_) (fun h => ?_)
    | refine forkNe (fun h => ?_) (fun h => ?_)
    | refine forkEq (fun h => ?_) (fun h => ?_)
    | refine forkNot ?_
    | refine ⟨vI64 (by omega), ?_⟩
    | refine And.intro (by omega) ?_
    | apply And.intro
    | exact iEq (by omega)
    | exact vI64 (by omega)
    | fail
  intro x hx
  refine forkD (fun hl => ?_) (fun hl => ?_)
  · have hlt : x < cs.length := by omega
    have hlt2 : x < ds.length := by omega
    have hc := right_at hr hlt
    have hc2 := right_at hr2 hlt2
    repeat' first
      | refine ⟨_, trivial, fun H' _ _ => kspHull _ _ H', ?_⟩
      | refine ⟨x + 1, by omega, by omega, ?_⟩
      | refine ⟨partCell hlt, ?_⟩
      | refine ⟨partCell hlt2, ?_⟩
      | refine ⟨⟨by omega, by decide, appN, ⟨by decide, Nat.le_refl _⟩, rfl⟩, rfl, ?_⟩
      | exact contS
      | exact plainC _ _
      | exact trivial
      | exact rfl
      | exact wk_refl _
      | refine wkO_cells ?_
      | refine wks_cons ?_ ?_
      | exact wks_nil
      | exact wk_nil _ _ _ (.inl rfl)
      | exact wk_Q (by omega)
      | refine wk_tupL ?_
      | refine wk_aggL ?_
      | refine joinMax ?_ ?_ ?_
      | refine joinMin ?_ ?_ ?_
      | refine toMax ?_
      | refine toMin ?_
      | refine ⟨rfl, ?_⟩
      | refine ⟨trivial, ?_⟩
      | refine forkD (fun h => ?_) (fun h => ?_)
      | refine forkNe (fun h => ?_) (fun h => ?_)
      | refine forkEq (fun h => ?_) (fun h => ?_)
      | refine forkNot ?_
      | refine ⟨vI64 (by omega), ?_⟩
      | refine And.intro (by omega) ?_
      | apply And.intro
      | exact iEq (by omega)
      | exact vI64 (by omega)
      | fail
  · obtain rfl : x = cs.length := by omega
    have hf := fHullC_2 h0
    exact ⟨rfl, ansOK2 hf (tab_len _ _), ⟨contOK hf, plainC _ _⟩, trivial⟩
theorem krHullCharts (w v t : Int) (cs : List Cell) (w' v' t' : Int) (ds : List Cell) {H : Heap} {id id2 : Nat} {own own2 : Bool} {z z2 : Nat} {L : Nat} (hL : H.length = L) (hid : H[id]? = some (.cells own z (cs.flatMap cellC))) (hid2 : H[id2]? = some (.cells own2 z2 (ds.flatMap cellC))) :
    KCall prog F.polynyaref01_HullCharts [.agg #[.int .i64 w, .int .i64 v, .int .i64 t, .slice (some ⟨id, 0, some 2⟩) cs.length cs.length], .agg #[.int .i64 w', .int .i64 v', .int .i64 t', .slice (some ⟨id2, 0, some 2⟩) ds.length ds.length]] H [] (Is (.tuple #[.agg #[.int .i64 (fHullC w v t cs w' v' t' ds).1.w, .int .i64 (fHullC w v t cs w' v' t' ds).1.h, .int .i64 (fHullC w v t cs w' v' t' ds).1.hour, .slice (some ⟨L, 0, some 1⟩) (fHullC w v t cs w' v' t' ds).1.cells.length (fHullC w v t cs w' v' t' ds).1.cells.length], .int .i64 (fHullC w v t cs w' v' t' ds).2]) (H ++ [.cells true 8 ((fHullC w v t cs w' v' t' ds).1.cells.flatMap cellC)])) := by
  subst hL
  refine valM (css := [cs.flatMap cellC, ds.flatMap cellC]) (g := fHullC w v t cs w' v' t' ds) rfl (Eq.mpr (ErHullCharts w v t cs w' v' t' ds) ?_) (two_cs (plainC 0 cs) (plainC 0 ds)) [id, id2] rfl (two_id hid hid2)
  unfold RrHullCharts
  refine ⟨_, ⟨rfl, rfl, trivial⟩, fun H' _ hd => krboth _ _ _ _ _ _ _ _ hd.1 hd.2.1, ?_⟩
  refine forkNe (fun h0 => ⟨rfl, ansE2 (fHullC_1 h0), trivial, trivial⟩) (fun h0 => ?_)
  obtain ⟨hle, hb, hr, hr2⟩ := errPair_ok h0
  repeat' first
    | refine ⟨rfl, Nat.zero_le _, ?_, fun _ => rfl, ?_⟩
    | exact trivial
    | exact rfl
    | exact wk_refl _
    | refine wkO_cells ?_
    | refine wks_cons ?_ ?_
    | exact wks_nil
    | exact wk_nil _ _ _ (.inl rfl)
    | exact wk_Q (by omega)
    | refine wk_tupL ?_
    | refine wk_aggL ?_
    | refine joinMax ?_ ?_ ?_
    | refine joinMin ?_ ?_ ?_
    | refine toMax ?_
    | refine toMin ?_
    | refine ⟨rfl, ?_⟩
    | refine ⟨trivial, ?_⟩
    | refine forkD (fun h => ?_) (fun h => ?_)
    | refine forkNe (fun h => ?_) (fun h => ?_)
    | refine forkEq (fun h => ?_) (fun h => ?_)
    | refine forkNot ?_
    | refine ⟨vI64 (by omega), ?_⟩
    | refine And.intro (by omega) ?_
    | apply And.intro
    | exact iEq (by omega)
    | exact vI64 (by omega)
    | fail
  intro x hx
  refine forkD (fun hl => ?_) (fun hl => ?_)
  · have hlt : x < cs.length := by omega
    have hlt2 : x < ds.length := by omega
    have hc := right_at hr hlt
    have hc2 := right_at hr2 hlt2
    repeat' first
      | refine ⟨_, trivial, fun H' _ _ => krCover _ _ H', ?_⟩
      | refine ⟨x + 1, by omega, by omega, ?_⟩
      | refine ⟨partCell hlt, ?_⟩
      | refine ⟨partCell hlt2, ?_⟩
      | refine ⟨⟨by omega, by decide, appN, ⟨by decide, Nat.le_refl _⟩, rfl⟩, rfl, ?_⟩
      | exact contS
      | exact plainC _ _
      | exact trivial
      | exact rfl
      | exact wk_refl _
      | refine wkO_cells ?_
      | refine wks_cons ?_ ?_
      | exact wks_nil
      | exact wk_nil _ _ _ (.inl rfl)
      | exact wk_Q (by omega)
      | refine wk_tupL ?_
      | refine wk_aggL ?_
      | refine joinMax ?_ ?_ ?_
      | refine joinMin ?_ ?_ ?_
      | refine toMax ?_
      | refine toMin ?_
      | refine ⟨rfl, ?_⟩
      | refine ⟨trivial, ?_⟩
      | refine forkD (fun h => ?_) (fun h => ?_)
      | refine forkNe (fun h => ?_) (fun h => ?_)
      | refine forkEq (fun h => ?_) (fun h => ?_)
      | refine forkNot ?_
      | refine ⟨vI64 (by omega), ?_⟩
      | refine And.intro (by omega) ?_
      | apply And.intro
      | exact iEq (by omega)
      | exact vI64 (by omega)
      | fail
  · obtain rfl : x = cs.length := by omega
    have hf := fHullC_2 h0
    exact ⟨rfl, ansOK2 hf (tab_len _ _), ⟨contOK hf, plainC _ _⟩, trivial⟩
theorem kInsideChart (w v t : Int) (cs : List Cell) (w' v' t' : Int) (ds : List Cell) {H : Heap} {id id2 : Nat} {own own2 : Bool} {z z2 : Nat} (hid : H[id]? = some (.cells own z (cs.flatMap cellC))) (hid2 : H[id2]? = some (.cells own2 z2 (ds.flatMap cellC))) :
    KCall prog F.ice_InsideChart [.agg #[.int .i64 w, .int .i64 v, .int .i64 t, .slice (some ⟨id, 0, some 2⟩) cs.length cs.length], .agg #[.int .i64 w', .int .i64 v', .int .i64 t', .slice (some ⟨id2, 0, some 2⟩) ds.length ds.length]] H [] (Is (.tuple #[.bool (fInsC w v t cs w' v' t' ds).1, .int .i64 (fInsC w v t cs w' v' t' ds).2]) H) := by
  refine valR (Eq.mpr (EInsideChart _ w v t cs w' v' t' ds) ?_) (two_cs (plainC 0 cs) (plainC 0 ds)) rfl [id, id2] rfl (two_id hid hid2)
  unfold RInsideChart
  refine ⟨_, ⟨rfl, rfl, trivial⟩, fun H' _ hd => kpair _ _ _ _ _ _ _ _ hd.1 hd.2.1, ?_⟩
  refine forkNe (fun h0 => tupB (fInsC_1 h0)) (fun h0 => ?_)
  obtain ⟨hle, hb, hr, hr2⟩ := errPair_ok h0
  repeat' first
    | refine ⟨rfl, ⟨Nat.zero_le _, to_zero⟩, ?_, fun _ => rfl, ?_⟩
    | exact trivial
    | exact rfl
    | exact wk_refl _
    | refine wkO_cells ?_
    | refine wks_cons ?_ ?_
    | exact wks_nil
    | exact wk_nil _ _ _ (.inl rfl)
    | exact wk_Q (by omega)
    | refine wk_tupL ?_
    | refine wk_aggL ?_
    | refine joinMax ?_ ?_ ?_
    | refine joinMin ?_ ?_ ?_
    | refine toMax ?_
    | refine toMin ?_
    | refine ⟨rfl, ?_⟩
    | refine ⟨trivial, ?_⟩
    | refine forkD (fun h => ?_) (fun h => ?_)
    | refine forkNe (fun h => ?_) (fun h => ?_)
    | refine forkEq (fun h => ?_) (fun h => ?_)
    | refine forkNot ?_
    | refine ⟨vI64 (by omega), ?_⟩
    | refine And.intro (by omega) ?_
    | apply And.intro
    | exact iEq (by omega)
    | exact vI64 (by omega)
    | fail
  rintro x ⟨hx, ho⟩
  refine forkD (fun hl => ?_) (fun hl => ?_)
  · have hlt : x < cs.length := by omega
    have hlt2 : x < ds.length := by omega
    have hc := right_at hr hlt
    repeat' first
      | refine ⟨partCell hlt, ?_⟩
      | refine ⟨partCell hlt2, ?_⟩
      | refine ⟨_, trivial, fun H' _ _ => kspIns _ _ H', ?_⟩
      | refine forkNot (forkD (fun hk => ?_) (fun hk => ?_))
      | exact tupB (fInsC_2 h0 (fun q => hk (q _ hlt)))
      | refine ⟨x + 1, ⟨by omega, to_succ ho hk⟩, by omega, ?_⟩
      | exact trivial
      | exact rfl
      | exact wk_refl _
      | refine wkO_cells ?_
      | refine wks_cons ?_ ?_
      | exact wks_nil
      | exact wk_nil _ _ _ (.inl rfl)
      | exact wk_Q (by omega)
      | refine wk_tupL ?_
      | refine wk_aggL ?_
      | refine joinMax ?_ ?_ ?_
      | refine joinMin ?_ ?_ ?_
      | refine toMax ?_
      | refine toMin ?_
      | refine ⟨rfl, ?_⟩
      | refine ⟨trivial, ?_⟩
      | refine forkD (fun h => ?_) (fun h => ?_)
      | refine forkNe (fun h => ?_) (fun h => ?_)
      | refine forkEq (fun h => ?_) (fun h => ?_)
      | refine forkNot ?_
      | refine ⟨vI64 (by omega), ?_⟩
      | refine And.intro (by omega) ?_
      | apply And.intro
      | exact iEq (by omega)
      | exact vI64 (by omega)
      | fail
  · obtain rfl : x = cs.length := by omega
    exact tupB (fInsC_3 h0 ho)
theorem krInsideChart (w v t : Int) (cs : List Cell) (w' v' t' : Int) (ds : List Cell) {H : Heap} {id id2 : Nat} {own own2 : Bool} {z z2 : Nat} (hid : H[id]? = some (.cells own z (cs.flatMap cellC))) (hid2 : H[id2]? = some (.cells own2 z2 (ds.flatMap cellC))) :
    KCall prog F.polynyaref01_InsideChart [.agg #[.int .i64 w, .int .i64 v, .int .i64 t, .slice (some ⟨id, 0, some 2⟩) cs.length cs.length], .agg #[.int .i64 w', .int .i64 v', .int .i64 t', .slice (some ⟨id2, 0, some 2⟩) ds.length ds.length]] H [] (Is (.tuple #[.bool (fInsC w v t cs w' v' t' ds).1, .int .i64 (fInsC w v t cs w' v' t' ds).2]) H) := by
  refine valR (Eq.mpr (ErInsideChart _ w v t cs w' v' t' ds) ?_) (two_cs (plainC 0 cs) (plainC 0 ds)) rfl [id, id2] rfl (two_id hid hid2)
  unfold RrInsideChart
  refine ⟨_, ⟨rfl, rfl, trivial⟩, fun H' _ hd => krboth _ _ _ _ _ _ _ _ hd.1 hd.2.1, ?_⟩
  refine forkNe (fun h0 => tupB (fInsC_1 h0)) (fun h0 => ?_)
  obtain ⟨hle, hb, hr, hr2⟩ := errPair_ok h0
  repeat' first
    | refine ⟨rfl, ⟨Nat.zero_le _, to_zero⟩, ?_, fun _ => rfl, ?_⟩
    | exact trivial
    | exact rfl
    | exact wk_refl _
    | refine wkO_cells ?_
    | refine wks_cons ?_ ?_
    | exact wks_nil
    | exact wk_nil _ _ _ (.inl rfl)
    | exact wk_Q (by omega)
    | refine wk_tupL ?_
    | refine wk_aggL ?_
    | refine joinMax ?_ ?_ ?_
    | refine joinMin ?_ ?_ ?_
    | refine toMax ?_
    | refine toMin ?_
    | refine ⟨rfl, ?_⟩
    | refine ⟨trivial, ?_⟩
    | refine forkD (fun h => ?_) (fun h => ?_)
    | refine forkNe (fun h => ?_) (fun h => ?_)
    | refine forkEq (fun h => ?_) (fun h => ?_)
    | refine forkNot ?_
    | refine ⟨vI64 (by omega), ?_⟩
    | refine And.intro (by omega) ?_
    | apply And.intro
    | exact iEq (by omega)
    | exact vI64 (by omega)
    | fail
  rintro x ⟨hx, ho⟩
  refine forkD (fun hl => ?_) (fun hl => ?_)
  · have hlt : x < cs.length := by omega
    have hlt2 : x < ds.length := by omega
    have hc := right_at hr hlt
    repeat' first
      | refine ⟨partCell hlt, ?_⟩
      | refine ⟨partCell hlt2, ?_⟩
      | refine ⟨_, trivial, fun H' _ _ => krwithin _ _ hc H', ?_⟩
      | refine forkNot (forkD (fun hk => ?_) (fun hk => ?_))
      | exact tupB (fInsC_2 h0 (fun q => hk (q _ hlt)))
      | refine ⟨x + 1, ⟨by omega, to_succ ho hk⟩, by omega, ?_⟩
      | exact trivial
      | exact rfl
      | exact wk_refl _
      | refine wkO_cells ?_
      | refine wks_cons ?_ ?_
      | exact wks_nil
      | exact wk_nil _ _ _ (.inl rfl)
      | exact wk_Q (by omega)
      | refine wk_tupL ?_
      | refine wk_aggL ?_
      | refine joinMax ?_ ?_ ?_
      | refine joinMin ?_ ?_ ?_
      | refine toMax ?_
      | refine toMin ?_
      | refine ⟨rfl, ?_⟩
      | refine ⟨trivial, ?_⟩
      | refine forkD (fun h => ?_) (fun h => ?_)
      | refine forkNe (fun h => ?_) (fun h => ?_)
      | refine forkEq (fun h => ?_) (fun h => ?_)
      | refine forkNot ?_
      | refine ⟨vI64 (by omega), ?_⟩
      | refine And.intro (by omega) ?_
      | apply And.intro
      | exact iEq (by omega)
      | exact vI64 (by omega)
      | fail
  · obtain rfl : x = cs.length := by omega
    exact tupB (fInsC_3 h0 ho)
theorem kHolds (w v t : Int) (cs : List Cell) (xs : List Ice) {H : Heap} {id id2 : Nat} {own own2 : Bool} {z z2 : Nat} (hid : H[id]? = some (.cells own z (cs.flatMap cellC))) (hid2 : H[id2]? = some (.cells own2 z2 (xs.flatMap iceC))) :
    KCall prog F.ice_Holds [.agg #[.int .i64 w, .int .i64 v, .int .i64 t, .slice (some ⟨id, 0, some 2⟩) cs.length cs.length], .slice (some ⟨id2, 0, some 2⟩) xs.length xs.length] H [] (Is (.tuple #[.bool (fHolds w v t cs xs).1, .int .i64 (fHolds w v t cs xs).2]) H) := by
  refine valR (Eq.mpr (EHolds _ w v t cs xs) ?_) (two_cs (plainC 0 cs) (plainI 0 xs)) rfl [id, id2] rfl (two_id hid hid2)
  unfold RHolds
  refine ⟨_, ⟨rfl, trivial⟩, fun H' _ hd => kCheckChart _ _ _ _ hd.1, ?_⟩
  refine forkNe (fun h0 => tupB (fHolds_1 h0)) (fun h0 => ?_)
  refine forkNe (fun h1 => tupB (fHolds_2 h0 (by omega))) (fun h1 => ?_)
  replace h1 : xs.length = cs.length := by omega
  obtain ⟨hs, hle, hb, hr⟩ := errChart_ok h0
  refine ⟨_, ⟨rfl, trivial⟩, fun H' _ hd => kwrongI _ (by omega) hd.1, ?_⟩
  refine forkNe (fun h2 => tupB (fHolds_3 h0 h1 h2)) (fun h2 => ?_)
  repeat' first
    | refine ⟨rfl, ⟨Nat.zero_le _, to_zero⟩, ?_, fun _ => rfl, ?_⟩
    | exact trivial
    | exact rfl
    | exact wk_refl _
    | refine wkO_cells ?_
    | refine wks_cons ?_ ?_
    | exact wks_nil
    | exact wk_nil _ _ _ (.inl rfl)
    | exact wk_Q (by omega)
    | refine wk_tupL ?_
    | refine wk_aggL ?_
    | refine joinMax ?_ ?_ ?_
    | refine joinMin ?_ ?_ ?_
    | refine toMax ?_
    | refine toMin ?_
    | refine ⟨rfl, ?_⟩
    | refine ⟨trivial, ?_⟩
    | refine forkD (fun h => ?_) (fun h => ?_)
    | refine forkNe (fun h => ?_) (fun h => ?_)
    | refine forkEq (fun h => ?_) (fun h => ?_)
    | refine forkNot ?_
    | refine ⟨vI64 (by omega), ?_⟩
    | refine And.intro (by omega) ?_
    | apply And.intro
    | exact iEq (by omega)
    | exact vI64 (by omega)
    | fail
  rintro x ⟨hx, ho⟩
  refine forkD (fun hl => ?_) (fun hl => ?_)
  · have hlt : x < xs.length := by omega
    have hlt2 : x < cs.length := by omega
    repeat' first
      | refine ⟨partIce hlt, ?_⟩
      | refine ⟨partCell hlt2, ?_⟩
      | refine ⟨_, trivial, fun H' _ _ => kspHas _ _ H', ?_⟩
      | refine forkNot (forkD (fun hk => ?_) (fun hk => ?_))
      | exact tupB (fHolds_4 h0 h1 h2 (fun q => hk (q _ hlt)))
      | refine ⟨x + 1, ⟨by omega, to_succ ho hk⟩, by omega, ?_⟩
      | exact trivial
      | exact rfl
      | exact wk_refl _
      | refine wkO_cells ?_
      | refine wks_cons ?_ ?_
      | exact wks_nil
      | exact wk_nil _ _ _ (.inl rfl)
      | exact wk_Q (by omega)
      | refine wk_tupL ?_
      | refine wk_aggL ?_
      | refine joinMax ?_ ?_ ?_
      | refine joinMin ?_ ?_ ?_
      | refine toMax ?_
      | refine toMin ?_
      | refine ⟨rfl, ?_⟩
      | refine ⟨trivial, ?_⟩
      | refine forkD (fun h => ?_) (fun h => ?_)
      | refine forkNe (fun h => ?_) (fun h => ?_)
      | refine forkEq (fun h => ?_) (fun h => ?_)
      | refine forkNot ?_
      | refine ⟨vI64 (by omega), ?_⟩
      | refine And.intro (by omega) ?_
      | apply And.intro
      | exact iEq (by omega)
      | exact vI64 (by omega)
      | fail
  · obtain rfl : x = xs.length := by omega
    exact tupB (fHolds_5 h0 h1 h2 ho)
theorem krHolds (w v t : Int) (cs : List Cell) (xs : List Ice) {H : Heap} {id id2 : Nat} {own own2 : Bool} {z z2 : Nat} (hid : H[id]? = some (.cells own z (cs.flatMap cellC))) (hid2 : H[id2]? = some (.cells own2 z2 (xs.flatMap iceC))) :
    KCall prog F.polynyaref01_Holds [.agg #[.int .i64 w, .int .i64 v, .int .i64 t, .slice (some ⟨id, 0, some 2⟩) cs.length cs.length], .slice (some ⟨id2, 0, some 2⟩) xs.length xs.length] H [] (Is (.tuple #[.bool (fHolds w v t cs xs).1, .int .i64 (fHolds w v t cs xs).2]) H) := by
  refine valR (Eq.mpr (ErHolds _ w v t cs xs) ?_) (two_cs (plainC 0 cs) (plainI 0 xs)) rfl [id, id2] rfl (two_id hid hid2)
  unfold RrHolds
  refine ⟨_, ⟨rfl, trivial⟩, fun H' _ hd => krCheckChart _ _ _ _ hd.1, ?_⟩
  refine forkNe (fun h0 => tupB (fHolds_1 h0)) (fun h0 => ?_)
  refine forkNe (fun h1 => tupB (fHolds_2 h0 (by omega))) (fun h1 => ?_)
  replace h1 : xs.length = cs.length := by omega
  obtain ⟨hs, hle, hb, hr⟩ := errChart_ok h0
  repeat' first
    | refine ⟨rfl, ⟨Nat.zero_le _, rfl⟩, ?_, fun _ => rfl, ?_⟩
    | exact trivial
    | exact rfl
    | exact wk_refl _
    | refine wkO_cells ?_
    | refine wks_cons ?_ ?_
    | exact wks_nil
    | exact wk_nil _ _ _ (.inl rfl)
    | exact wk_Q (by omega)
    | refine wk_tupL ?_
    | refine wk_aggL ?_
    | refine joinMax ?_ ?_ ?_
    | refine joinMin ?_ ?_ ?_
    | refine toMax ?_
    | refine toMin ?_
    | refine ⟨rfl, ?_⟩
    | refine ⟨trivial, ?_⟩
    | refine forkD (fun h => ?_) (fun h => ?_)
    | refine forkNe (fun h => ?_) (fun h => ?_)
    | refine forkEq (fun h => ?_) (fun h => ?_)
    | refine forkNot ?_
    | refine ⟨vI64 (by omega), ?_⟩
    | refine And.intro (by omega) ?_
    | apply And.intro
    | exact iEq (by omega)
    | exact vI64 (by omega)
    | fail
  rintro y ⟨hy, he⟩
  refine forkD (fun hl => ?_) (fun hl => ?_)
  · have hlt : y < xs.length := by omega
    rw [errs_at (d := zeroI) hlt] at he
    refine ⟨by omega, partIce hlt, _, trivial, fun H' _ _ => krCheckIce _ H', ?_⟩
    refine forkNe (fun g => ?_) (fun g => ?_)
    · rw [if_neg g] at he
      exact tupB ((fHolds_3 h0 h1 (by rw [he]; exact g)).trans (by rw [he]))
    · repeat' first
        | refine ⟨y + 1, ⟨by omega, by rw [he, if_pos g]⟩, by omega, ?_⟩
        | exact trivial
        | exact rfl
        | exact wk_refl _
        | refine wkO_cells ?_
        | refine wks_cons ?_ ?_
        | exact wks_nil
        | exact wk_nil _ _ _ (.inl rfl)
        | exact wk_Q (by omega)
        | refine wk_tupL ?_
        | refine wk_aggL ?_
        | refine joinMax ?_ ?_ ?_
        | refine joinMin ?_ ?_ ?_
        | refine toMax ?_
        | refine toMin ?_
        | refine ⟨rfl, ?_⟩
        | refine ⟨trivial, ?_⟩
        | refine forkD (fun h => ?_) (fun h => ?_)
        | refine forkNe (fun h => ?_) (fun h => ?_)
        | refine forkEq (fun h => ?_) (fun h => ?_)
        | refine forkNot ?_
        | refine ⟨vI64 (by omega), ?_⟩
        | refine And.intro (by omega) ?_
        | apply And.intro
        | exact iEq (by omega)
        | exact vI64 (by omega)
        | fail
  obtain rfl : y = xs.length := by omega
  rw [List.drop_length] at he
  have h2 : errs errIce xs = 0 := he
  repeat' first
    | refine ⟨rfl, ⟨Nat.zero_le _, to_zero⟩, ?_, fun _ => rfl, ?_⟩
    | exact trivial
    | exact rfl
    | exact wk_refl _
    | refine wkO_cells ?_
    | refine wks_cons ?_ ?_
    | exact wks_nil
    | exact wk_nil _ _ _ (.inl rfl)
    | exact wk_Q (by omega)
    | refine wk_tupL ?_
    | refine wk_aggL ?_
    | refine joinMax ?_ ?_ ?_
    | refine joinMin ?_ ?_ ?_
    | refine toMax ?_
    | refine toMin ?_
    | refine ⟨rfl, ?_⟩
    | refine ⟨trivial, ?_⟩
    | refine forkD (fun h => ?_) (fun h => ?_)
    | refine forkNe (fun h => ?_) (fun h => ?_)
    | refine forkEq (fun h => ?_) (fun h => ?_)
    | refine forkNot ?_
    | refine ⟨vI64 (by omega), ?_⟩
    | refine And.intro (by omega) ?_
    | apply And.intro
    | exact iEq (by omega)
    | exact vI64 (by omega)
    | fail
  rintro x ⟨hx, ho⟩
  refine forkD (fun hl => ?_) (fun hl => ?_)
  · have hlt : x < xs.length := by omega
    have hlt2 : x < cs.length := by omega
    repeat' first
      | refine ⟨partIce hlt, ?_⟩
      | refine ⟨partCell hlt2, ?_⟩
      | refine ⟨_, trivial, fun H' _ _ => krContains _ _ H', ?_⟩
      | refine forkNot (forkD (fun hk => ?_) (fun hk => ?_))
      | exact tupB (fHolds_4 h0 h1 h2 (fun q => hk (q _ hlt)))
      | refine ⟨x + 1, ⟨by omega, to_succ ho hk⟩, by omega, ?_⟩
      | exact trivial
      | exact rfl
      | exact wk_refl _
      | refine wkO_cells ?_
      | refine wks_cons ?_ ?_
      | exact wks_nil
      | exact wk_nil _ _ _ (.inl rfl)
      | exact wk_Q (by omega)
      | refine wk_tupL ?_
      | refine wk_aggL ?_
      | refine joinMax ?_ ?_ ?_
      | refine joinMin ?_ ?_ ?_
      | refine toMax ?_
      | refine toMin ?_
      | refine ⟨rfl, ?_⟩
      | refine ⟨trivial, ?_⟩
      | refine forkD (fun h => ?_) (fun h => ?_)
      | refine forkNe (fun h => ?_) (fun h => ?_)
      | refine forkEq (fun h => ?_) (fun h => ?_)
      | refine forkNot ?_
      | refine ⟨vI64 (by omega), ?_⟩
      | refine And.intro (by omega) ?_
      | apply And.intro
      | exact iEq (by omega)
      | exact vI64 (by omega)
      | fail
  · obtain rfl : x = xs.length := by omega
    exact tupB (fHolds_5 h0 h1 h2 ho)
end
end Go.Proofs.YthcjliffpebjaaaGreat
/- Ice: a chart made of the reference's; charts compared. No condition. -/
namespace Go.Proofs.YthcjliffpebjaaaGreat
open Go Go.K
set_option maxRecDepth 100000
set_option linter.unusedVariables false
set_option linter.unusedSimpArgs false
noncomputable section
attribute [local irreducible] vF
theorem kChart (w v t : Int) (cs : List Cell) (hn : cs.length ≤ 2 ^ 30) {H : Heap} {id : Nat} {own : Bool} {z : Nat} {L : Nat} (hL : H.length = L) (hid : H[id]? = some (.cells own z (cs.flatMap cellC))) :
    KCall prog F.polynyalaw01_Chart [.agg #[.int .i64 w, .int .i64 v, .int .i64 t, .slice (some ⟨id, 0, some 2⟩) cs.length cs.length]] H []
      (Is (.agg #[.int .i64 w, .int .i64 v, .int .i64 t, .slice (some ⟨L, 0, some 1⟩) cs.length cs.length]) (H ++ [.cells true 8 (cs.flatMap cellC)])) := by
  subst hL
  have key := fun hc => valN (css := [cs.flatMap cellC]) (new := [(true, .cells true 8 (cs.flatMap cellC))]) (v := .agg #[.int .i64 w, .int .i64 v, .int .i64 t, .slice (some ⟨1, 0, some 1⟩) cs.length cs.length]) (Eq.mpr (EChart w v t cs) hc) (one_cs (plainC 0 cs)) rfl (by simp [rn, sgOnly]) (by
    show ((rnoOk 3 (.cells true 8 (cs.flatMap cellC)) && true) && true) = true
    rw [Bool.and_true, Bool.and_true]; exact (rnCl (σ := fun _ => none) (d := 2) (plainC 0 cs)).2) (congrArg (fun l => [KObj.cells true 8 l]) (rnCl (d := 2) (plainC 0 cs)).1) (H := H) [id] rfl (one_id hid)
  have e1 : rn (sgUp (0 + [cs.flatMap cellC].length) H.length) 3 (.agg #[.int .i64 w, .int .i64 v, .int .i64 t, .slice (some ⟨1, 0, some 1⟩) cs.length cs.length]) = .agg #[.int .i64 w, .int .i64 v, .int .i64 t, .slice (some ⟨H.length, 0, some 1⟩) cs.length cs.length] := by simp [rn, sgUp]
  have e2 : (List.map (fun x : Bool × KObj => x.2) [(true, KObj.cells true 8 (cs.flatMap cellC))]).map (rno (sgUp (0 + [cs.flatMap cellC].length) H.length) 3) = [.cells true 8 (cs.flatMap cellC)] := congrArg (fun l => [KObj.cells true 8 l]) (rnCl (d := 2) (plainC 0 cs)).1
  rw [e1, e2] at key
  refine key ?_
  unfold RChart
  repeat' first
    | refine ⟨rfl, Nat.zero_le _, ?_, fun _ => rfl, ?_⟩
    | exact trivial
    | exact rfl
    | exact wk_refl _
    | refine wkO_cells ?_
    | refine wks_cons ?_ ?_
    | exact wks_nil
    | exact wk_nil _ _ _ (.inl rfl)
    | exact wk_Q (by omega)
    | refine wk_tupL ?_
    | refine wk_aggL ?_
    | refine joinMax ?_ ?_ ?_
    | refine joinMin ?_ ?_ ?_
    | refine toMax ?_
    | refine toMin ?_
    | refine ⟨rfl, ?_⟩
    | refine ⟨trivial, ?_⟩
    | refine forkD (fun h => ?_) (fun h => ?_)
    | refine forkNe (fun h => ?_) (fun h => ?_)
    | refine forkEq (fun h => ?_) (fun h => ?_)
    | refine forkNot ?_
    | refine ⟨vI64 (by omega), ?_⟩
    | refine And.intro (by omega) ?_
    | apply And.intro
    | exact iEq (by omega)
    | exact vI64 (by omega)
    | fail
  intro x hx
  refine forkD (fun hl => ?_) (fun hl => ?_)
  · have hlt : x < cs.length := by omega
    have htl : (cs.take x).length = x := by rw [List.length_take]; omega
    repeat' first
      | refine ⟨partCell hlt, ?_⟩
      | refine ⟨⟨by omega, by decide, ⟨Nat.le_refl _, by rw [flat_len cellC_len, htl]; omega⟩, ⟨by decide, Nat.le_refl _⟩, rfl⟩, rfl, ?_⟩
      | refine ⟨x + 1, by omega, by omega, ?_⟩
      | exact (by rw [take_at (d := zeroC) hlt]; exact congrArg (fun l => some (KObj.cells true 8 l)) (flat_snoc cellC_len (cs.take x) (cs.getD x zeroC) htl.symm))
      | exact plainC _ _
      | exact trivial
      | exact rfl
      | exact wk_refl _
      | refine wkO_cells ?_
      | refine wks_cons ?_ ?_
      | exact wks_nil
      | exact wk_nil _ _ _ (.inl rfl)
      | exact wk_Q (by omega)
      | refine wk_tupL ?_
      | refine wk_aggL ?_
      | refine joinMax ?_ ?_ ?_
      | refine joinMin ?_ ?_ ?_
      | refine toMax ?_
      | refine toMin ?_
      | refine ⟨rfl, ?_⟩
      | refine ⟨trivial, ?_⟩
      | refine forkD (fun h => ?_) (fun h => ?_)
      | refine forkNe (fun h => ?_) (fun h => ?_)
      | refine forkEq (fun h => ?_) (fun h => ?_)
      | refine forkNot ?_
      | refine ⟨vI64 (by omega), ?_⟩
      | refine And.intro (by omega) ?_
      | apply And.intro
      | exact iEq (by omega)
      | exact vI64 (by omega)
      | fail
  · obtain rfl : x = cs.length := by omega
    exact ⟨rfl, wk_refl _, ⟨by rw [List.take_length], plainC _ _⟩, trivial⟩
theorem kSame (w v t : Int) (cs : List Cell) (hn : cs.length ≤ 2 ^ 30) {H : Heap} {id id2 : Nat} {own own2 : Bool} {z z2 : Nat} (hid : H[id]? = some (.cells own z (cs.flatMap cellC))) (hid2 : H[id2]? = some (.cells own2 z2 (cs.flatMap cellC))) :
    KCall prog F.polynyalaw01_Same [.agg #[.int .i64 w, .int .i64 v, .int .i64 t, .slice (some ⟨id, 0, some 2⟩) cs.length cs.length], .agg #[.int .i64 w, .int .i64 v, .int .i64 t, .slice (some ⟨id2, 0, some 2⟩) cs.length cs.length]] H [] (Is (.bool true) H) := by
  refine valR (Eq.mpr (ESame _ w v t cs) ?_) (two_cs (plainC 0 cs) (plainC 0 cs)) rfl [id, id2] rfl (two_id hid hid2)
  unfold RSame
  repeat' first
    | refine forkF (by simp only [bne_self_eq_false, BEq.rfl, Bool.and_self, Bool.not_true]) ?_
    | refine ⟨rfl, Nat.zero_le _, ?_, fun _ => rfl, ?_⟩
    | exact trivial
    | exact rfl
    | exact wk_refl _
    | refine wkO_cells ?_
    | refine wks_cons ?_ ?_
    | exact wks_nil
    | exact wk_nil _ _ _ (.inl rfl)
    | exact wk_Q (by omega)
    | refine wk_tupL ?_
    | refine wk_aggL ?_
    | refine joinMax ?_ ?_ ?_
    | refine joinMin ?_ ?_ ?_
    | refine toMax ?_
    | refine toMin ?_
    | refine ⟨rfl, ?_⟩
    | refine ⟨trivial, ?_⟩
    | refine forkD (fun h => ?_) (fun h => ?_)
    | refine forkNe (fun h => ?_) (fun h => ?_)
    | refine forkEq (fun h => ?_) (fun h => ?_)
    | refine forkNot ?_
    | refine ⟨vI64 (by omega), ?_⟩
    | refine And.intro (by omega) ?_
    | apply And.intro
    | exact iEq (by omega)
    | exact vI64 (by omega)
    | fail
  intro x hx
  refine forkD (fun hl => ?_) (fun hl => ?_)
  · have hlt : x < cs.length := by omega
    repeat' first
      | refine ⟨partCell hlt, ?_⟩
      | refine forkF (by simp only [bne_self_eq_false, BEq.rfl, Bool.and_self, Bool.not_true]) ?_
      | refine ⟨x + 1, by omega, by omega, ?_⟩
      | exact trivial
      | exact rfl
      | exact wk_refl _
      | refine wkO_cells ?_
      | refine wks_cons ?_ ?_
      | exact wks_nil
      | exact wk_nil _ _ _ (.inl rfl)
      | exact wk_Q (by omega)
      | refine wk_tupL ?_
      | refine wk_aggL ?_
      | refine joinMax ?_ ?_ ?_
      | refine joinMin ?_ ?_ ?_
      | refine toMax ?_
      | refine toMin ?_
      | refine ⟨rfl, ?_⟩
      | refine ⟨trivial, ?_⟩
      | refine forkD (fun h => ?_) (fun h => ?_)
      | refine forkNe (fun h => ?_) (fun h => ?_)
      | refine forkEq (fun h => ?_) (fun h => ?_)
      | refine forkNot ?_
      | refine ⟨vI64 (by omega), ?_⟩
      | refine And.intro (by omega) ?_
      | apply And.intro
      | exact iEq (by omega)
      | exact vI64 (by omega)
      | fail
  · rfl
end
end Go.Proofs.YthcjliffpebjaaaGreat
/- What is to be shown of functions. Printed by a program. No condition. -/
namespace Go.Proofs.YthcjliffpebjaaaGreat
set_option linter.unusedSimpArgs false
open Go Go.K
set_option maxRecDepth 100000
set_option linter.unusedVariables false
noncomputable section
def RCharts (sp : Value) (w h t : Int) (cs : List Cell) (w' h' t' : Int) (ds : List Cell) (xs : List Ice) (m : Rates) (n : Int) : Prop :=
  (((decide ((200 : Int) < (((List.length cs) : Nat) : Int))) = true → ((True) ∧ (∀ H' : Heap, H'.length = 6 → (True) → KCall prog 9 [] H' [] (Is (.bool true) H')) ∧ (.bool true : Value) = sp)) ∧ ((decide ((200 : Int) < (((List.length cs) : Nat) : Int))) = false → (((decide ((200 : Int) < (((List.length ds) : Nat) : Int))) = true → ((True) ∧ (∀ H' : Heap, H'.length = 6 → (True) → KCall prog 9 [] H' [] (Is (.bool true) H')) ∧ (.bool true : Value) = sp)) ∧ ((decide ((200 : Int) < (((List.length ds) : Nat) : Int))) = false → (((decide ((300 : Int) < (((List.length xs) : Nat) : Int))) = true → ((True) ∧ (∀ H' : Heap, H'.length = 6 → (True) → KCall prog 9 [] H' [] (Is (.bool true) H')) ∧ (.bool true : Value) = sp)) ∧ ((decide ((300 : Int) < (((List.length xs) : Nat) : Int))) = false → (((some (.cells false 0 (List.flatMap cellC cs) : KObj) = some (.cells false 0 (List.flatMap cellC cs) : KObj)) ∧ True) ∧ (∀ H' : Heap, H'.length = 8 → (H'[0]? = some (.cells false 0 (List.flatMap cellC cs) : KObj) ∧ True) → KCall prog 48 [.agg #[.int .i64 w, .int .i64 h, .int .i64 t, .slice (some ⟨0, 0, some 2⟩) (List.length cs) (List.length cs)]] H' [] (Is (.agg #[.int .i64 w, .int .i64 h, .int .i64 t, .slice (some ⟨8, 0, some 1⟩) (List.length cs) (List.length cs)]) (H' ++ [(.cells true 8 (List.flatMap cellC cs) : KObj)]))) ∧ (((some (.cells false 0 (List.flatMap cellC ds) : KObj) = some (.cells false 0 (List.flatMap cellC ds) : KObj)) ∧ True) ∧ (∀ H' : Heap, H'.length = 9 → (H'[1]? = some (.cells false 0 (List.flatMap cellC ds) : KObj) ∧ True) → KCall prog 48 [.agg #[.int .i64 w', .int .i64 h', .int .i64 t', .slice (some ⟨1, 0, some 2⟩) (List.length ds) (List.length ds)]] H' [] (Is (.agg #[.int .i64 w', .int .i64 h', .int .i64 t', .slice (some ⟨9, 0, some 1⟩) (List.length ds) (List.length ds)]) (H' ++ [(.cells true 8 (List.flatMap cellC ds) : KObj)]))) ∧ (∃ r2 : Int, (((some (.cells true 8 (List.flatMap cellC cs) : KObj) = some (.cells true 8 (List.flatMap cellC cs) : KObj)) ∧ True) ∧ (∀ H' : Heap, H'.length = 10 → (H'[8]? = some (.cells true 8 (List.flatMap cellC cs) : KObj) ∧ True) → KCall prog 49 [.agg #[.int .i64 w, .int .i64 h, .int .i64 t, .slice (some ⟨8, 0, some 1⟩) (List.length cs) (List.length cs)]] H' [] (Is (.int .i64 r2) H')) ∧ (∃ r3 : Int, (((some (.cells false 0 (List.flatMap cellC cs) : KObj) = some (.cells false 0 (List.flatMap cellC cs) : KObj)) ∧ True) ∧ (∀ H' : Heap, H'.length = 10 → (H'[0]? = some (.cells false 0 (List.flatMap cellC cs) : KObj) ∧ True) → KCall prog 50 [.agg #[.int .i64 w, .int .i64 h, .int .i64 t, .slice (some ⟨0, 0, some 2⟩) (List.length cs) (List.length cs)]] H' [] (Is (.int .i64 r3) H')) ∧ ((((r2 : Int) != r3) = true → (.bool false : Value) = sp) ∧ (((r2 : Int) != r3) = false → (∃ r4 : Chart × Int, (((some (.cells true 8 (List.flatMap cellC cs) : KObj) = some (.cells true 8 (List.flatMap cellC cs) : KObj)) ∧ True) ∧ (∀ H' : Heap, H'.length = 11 → (H'[8]? = some (.cells true 8 (List.flatMap cellC cs) : KObj) ∧ True) → KCall prog 51 [.agg #[.int .i64 w, .int .i64 h, .int .i64 t, .slice (some ⟨8, 0, some 1⟩) (List.length cs) (List.length cs)], .agg #[.int .i64 m.up.conc, .int .i64 m.up.thick, .int .i64 m.up.ridge, .int .i64 m.up.press, .int .i64 m.down.conc, .int .i64 m.down.thick, .int .i64 m.down.ridge, .int .i64 m.down.press], .int .i64 n] H' [] (Is (.tuple #[.agg #[.int .i64 r4.1.w, .int .i64 r4.1.h, .int .i64 r4.1.hour, .slice (some ⟨11, 0, some 1⟩) (List.length r4.1.cells) (List.length r4.1.cells)], .int .i64 r4.2]) (H' ++ [(.cells true 8 (List.flatMap cellC r4.1.cells) : KObj)]))) ∧ (∃ r5 : Chart × Int, (((some (.cells false 0 (List.flatMap cellC cs) : KObj) = some (.cells false 0 (List.flatMap cellC cs) : KObj)) ∧ True) ∧ (∀ H' : Heap, H'.length = 12 → (H'[0]? = some (.cells false 0 (List.flatMap cellC cs) : KObj) ∧ True) → KCall prog 52 [.agg #[.int .i64 w, .int .i64 h, .int .i64 t, .slice (some ⟨0, 0, some 2⟩) (List.length cs) (List.length cs)], .agg #[.int .i64 m.up.conc, .int .i64 m.up.thick, .int .i64 m.up.ridge, .int .i64 m.up.press, .int .i64 m.down.conc, .int .i64 m.down.thick, .int .i64 m.down.ridge, .int .i64 m.down.press], .int .i64 n] H' [] (Is (.tuple #[.agg #[.int .i64 r5.1.w, .int .i64 r5.1.h, .int .i64 r5.1.hour, .slice (some ⟨12, 0, some 1⟩) (List.length r5.1.cells) (List.length r5.1.cells)], .int .i64 r5.2]) (H' ++ [(.cells true 8 (List.flatMap cellC r5.1.cells) : KObj)]))) ∧ (((some (.cells true 8 (List.flatMap cellC r4.1.cells) : KObj) = some (.cells true 8 (List.flatMap cellC r4.1.cells) : KObj)) ∧ (some (.cells true 8 (List.flatMap cellC r5.1.cells) : KObj) = some (.cells true 8 (List.flatMap cellC r5.1.cells) : KObj)) ∧ True) ∧ (∀ H' : Heap, H'.length = 14 → (H'[11]? = some (.cells true 8 (List.flatMap cellC r4.1.cells) : KObj) ∧ H'[12]? = some (.cells true 8 (List.flatMap cellC r5.1.cells) : KObj) ∧ True) → KCall prog 53 [.agg #[.int .i64 r4.1.w, .int .i64 r4.1.h, .int .i64 r4.1.hour, .slice (some ⟨11, 0, some 1⟩) (List.length r4.1.cells) (List.length r4.1.cells)], .agg #[.int .i64 r5.1.w, .int .i64 r5.1.h, .int .i64 r5.1.hour, .slice (some ⟨12, 0, some 1⟩) (List.length r5.1.cells) (List.length r5.1.cells)]] H' [] (Is (.bool true) H')) ∧ ((((r4.2 : Int) != r5.2) = true → (.bool false : Value) = sp) ∧ (((r4.2 : Int) != r5.2) = false → (∃ r7 : Chart × Int, (((some (.cells true 8 (List.flatMap cellC cs) : KObj) = some (.cells true 8 (List.flatMap cellC cs) : KObj)) ∧ (some (.cells true 8 (List.flatMap cellC ds) : KObj) = some (.cells true 8 (List.flatMap cellC ds) : KObj)) ∧ True) ∧ (∀ H' : Heap, H'.length = 14 → (H'[8]? = some (.cells true 8 (List.flatMap cellC cs) : KObj) ∧ H'[9]? = some (.cells true 8 (List.flatMap cellC ds) : KObj) ∧ True) → KCall prog 54 [.agg #[.int .i64 w, .int .i64 h, .int .i64 t, .slice (some ⟨8, 0, some 1⟩) (List.length cs) (List.length cs)], .agg #[.int .i64 w', .int .i64 h', .int .i64 t', .slice (some ⟨9, 0, some 1⟩) (List.length ds) (List.length ds)]] H' [] (Is (.tuple #[.agg #[.int .i64 r7.1.w, .int .i64 r7.1.h, .int .i64 r7.1.hour, .slice (some ⟨14, 0, some 1⟩) (List.length r7.1.cells) (List.length r7.1.cells)], .int .i64 r7.2]) (H' ++ [(.cells true 8 (List.flatMap cellC r7.1.cells) : KObj)]))) ∧ (∃ r8 : Chart × Int, (((some (.cells false 0 (List.flatMap cellC cs) : KObj) = some (.cells false 0 (List.flatMap cellC cs) : KObj)) ∧ (some (.cells false 0 (List.flatMap cellC ds) : KObj) = some (.cells false 0 (List.flatMap cellC ds) : KObj)) ∧ True) ∧ (∀ H' : Heap, H'.length = 15 → (H'[0]? = some (.cells false 0 (List.flatMap cellC cs) : KObj) ∧ H'[1]? = some (.cells false 0 (List.flatMap cellC ds) : KObj) ∧ True) → KCall prog 55 [.agg #[.int .i64 w, .int .i64 h, .int .i64 t, .slice (some ⟨0, 0, some 2⟩) (List.length cs) (List.length cs)], .agg #[.int .i64 w', .int .i64 h', .int .i64 t', .slice (some ⟨1, 0, some 2⟩) (List.length ds) (List.length ds)]] H' [] (Is (.tuple #[.agg #[.int .i64 r8.1.w, .int .i64 r8.1.h, .int .i64 r8.1.hour, .slice (some ⟨15, 0, some 1⟩) (List.length r8.1.cells) (List.length r8.1.cells)], .int .i64 r8.2]) (H' ++ [(.cells true 8 (List.flatMap cellC r8.1.cells) : KObj)]))) ∧ (((some (.cells true 8 (List.flatMap cellC r7.1.cells) : KObj) = some (.cells true 8 (List.flatMap cellC r7.1.cells) : KObj)) ∧ (some (.cells true 8 (List.flatMap cellC r8.1.cells) : KObj) = some (.cells true 8 (List.flatMap cellC r8.1.cells) : KObj)) ∧ True) ∧ (∀ H' : Heap, H'.length = 16 → (H'[14]? = some (.cells true 8 (List.flatMap cellC r7.1.cells) : KObj) ∧ H'[15]? = some (.cells true 8 (List.flatMap cellC r8.1.cells) : KObj) ∧ True) → KCall prog 53 [.agg #[.int .i64 r7.1.w, .int .i64 r7.1.h, .int .i64 r7.1.hour, .slice (some ⟨14, 0, some 1⟩) (List.length r7.1.cells) (List.length r7.1.cells)], .agg #[.int .i64 r8.1.w, .int .i64 r8.1.h, .int .i64 r8.1.hour, .slice (some ⟨15, 0, some 1⟩) (List.length r8.1.cells) (List.length r8.1.cells)]] H' [] (Is (.bool true) H')) ∧ ((((r7.2 : Int) != r8.2) = true → (.bool false : Value) = sp) ∧ (((r7.2 : Int) != r8.2) = false → (true = true ∧ ((0, r7.1.cells).1 ≤ List.length r7.1.cells ∧ List.length (0, r7.1.cells).2 = List.length r7.1.cells) ∧ (true = true ∧ ((.int .i64 0 : Value) = .int .i64 (((0, r7.1.cells).1 : Nat) : Int) ∧ wk (.slice (some ⟨2, 0, some 2⟩) (List.length xs) (List.length xs) : Value) (.slice (some ⟨2, 0, some 2⟩) (List.length xs) (List.length xs) : Value) ∧ (.pointer (some ⟨3, 0, none⟩) : Value) = .pointer (some ⟨3, 0, none⟩) ∧ (.pointer (some ⟨4, 0, none⟩) : Value) = .pointer (some ⟨4, 0, none⟩) ∧ (.bool false : Value) = .bool false ∧ (.pointer (some ⟨6, 0, none⟩) : Value) = .pointer (some ⟨6, 0, none⟩) ∧ (.pointer (some ⟨7, 0, none⟩) : Value) = .pointer (some ⟨7, 0, none⟩) ∧ (.pointer (some ⟨10, 0, none⟩) : Value) = .pointer (some ⟨10, 0, none⟩) ∧ (.pointer (some ⟨13, 0, none⟩) : Value) = .pointer (some ⟨13, 0, none⟩) ∧ (.int .i64 r7.2 : Value) = .int .i64 r7.2 ∧ (.int .i64 r8.2 : Value) = .int .i64 r8.2 ∧ True) ∧ ((some (.cells true 8 (List.flatMap cellC r7.1.cells) : KObj) = some (.cells true 8 (List.flatMap cellC (0, r7.1.cells).2) : KObj) ∧ belowO 16 (.cells true 8 (List.flatMap cellC (0, r7.1.cells).2) : KObj) = true) ∧ True) ∧ (True) ∧ (True)) ∧ (∀ x10 : Nat × List Cell, true = true) ∧ ∀ x10 : Nat × List Cell, (x10.1 ≤ List.length r7.1.cells ∧ List.length x10.2 = List.length r7.1.cells) → (((decide ((((x10.1 : Nat) : Int) : Int) < (((List.length r7.1.cells) : Nat) : Int))) = true → (((0 : Int) ≤ ((x10.1 : Nat) : Int) ∧ (((x10.1 : Nat) : Int) : Int) < (((List.length r7.1.cells) : Nat) : Int)) ∧ (((0 + Int.toNat ((x10.1 : Nat) : Int) * 8) + 8 ≤ List.length (List.flatMap cellC x10.2)) ∧ true = true ∧ ((.int .i64 (IntKind.wrap .i64 (((x10.1 : Nat) : Int) + 1)) : Value) = .int .i64 (((x10.1 : Nat) : Int) + 1) ∧ (∃ x10' : Nat × List Cell, (x10'.1 ≤ List.length r7.1.cells ∧ List.length x10'.2 = List.length r7.1.cells) ∧ (List.length r7.1.cells - x10'.1) < (List.length r7.1.cells - x10.1) ∧ true = true ∧ ((.int .i64 (((x10.1 : Nat) : Int) + 1) : Value) = .int .i64 ((x10'.1 : Nat) : Int) ∧ wk (.slice (some ⟨2, 0, some 2⟩) (List.length xs) (List.length xs) : Value) (.slice (some ⟨2, 0, some 2⟩) (List.length xs) (List.length xs) : Value) ∧ (.pointer (some ⟨3, 0, none⟩) : Value) = .pointer (some ⟨3, 0, none⟩) ∧ (.pointer (some ⟨4, 0, none⟩) : Value) = .pointer (some ⟨4, 0, none⟩) ∧ (.bool false : Value) = .bool false ∧ (.pointer (some ⟨6, 0, none⟩) : Value) = .pointer (some ⟨6, 0, none⟩) ∧ (.pointer (some ⟨7, 0, none⟩) : Value) = .pointer (some ⟨7, 0, none⟩) ∧ (.pointer (some ⟨10, 0, none⟩) : Value) = .pointer (some ⟨10, 0, none⟩) ∧ (.pointer (some ⟨13, 0, none⟩) : Value) = .pointer (some ⟨13, 0, none⟩) ∧ (.int .i64 r7.2 : Value) = .int .i64 r7.2 ∧ (.int .i64 r8.2 : Value) = .int .i64 r8.2 ∧ True) ∧ ((some (.cells true 8 (setl (List.flatMap cellC x10.2) (0 + Int.toNat ((x10.1 : Nat) : Int) * 8) [.int .i64 0, .int .i64 0, .int .i64 0, .int .i64 0, .int .i64 0, .int .i64 0, .int .i64 0, .int .i64 0]) : KObj) = some (.cells true 8 (List.flatMap cellC x10'.2) : KObj) ∧ belowO 16 (.cells true 8 (List.flatMap cellC x10'.2) : KObj) = true) ∧ True) ∧ (True) ∧ (True)))))) ∧ ((decide ((((x10.1 : Nat) : Int) : Int) < (((List.length r7.1.cells) : Nat) : Int))) = false → (∃ r11 : Chart × Int, (((some (.cells true 8 (List.flatMap cellC cs) : KObj) = some (.cells true 8 (List.flatMap cellC cs) : KObj)) ∧ (some (.cells true 8 (List.flatMap cellC ds) : KObj) = some (.cells true 8 (List.flatMap cellC ds) : KObj)) ∧ True) ∧ (∀ H' : Heap, H'.length = 16 → (H'[8]? = some (.cells true 8 (List.flatMap cellC cs) : KObj) ∧ H'[9]? = some (.cells true 8 (List.flatMap cellC ds) : KObj) ∧ True) → KCall prog 56 [.agg #[.int .i64 w, .int .i64 h, .int .i64 t, .slice (some ⟨8, 0, some 1⟩) (List.length cs) (List.length cs)], .agg #[.int .i64 w', .int .i64 h', .int .i64 t', .slice (some ⟨9, 0, some 1⟩) (List.length ds) (List.length ds)]] H' [] (Is (.tuple #[.agg #[.int .i64 r11.1.w, .int .i64 r11.1.h, .int .i64 r11.1.hour, .slice (some ⟨16, 0, some 1⟩) (List.length r11.1.cells) (List.length r11.1.cells)], .int .i64 r11.2]) (H' ++ [(.cells true 8 (List.flatMap cellC r11.1.cells) : KObj)]))) ∧ (∃ r12 : Chart × Int, (((some (.cells false 0 (List.flatMap cellC cs) : KObj) = some (.cells false 0 (List.flatMap cellC cs) : KObj)) ∧ (some (.cells false 0 (List.flatMap cellC ds) : KObj) = some (.cells false 0 (List.flatMap cellC ds) : KObj)) ∧ True) ∧ (∀ H' : Heap, H'.length = 17 → (H'[0]? = some (.cells false 0 (List.flatMap cellC cs) : KObj) ∧ H'[1]? = some (.cells false 0 (List.flatMap cellC ds) : KObj) ∧ True) → KCall prog 57 [.agg #[.int .i64 w, .int .i64 h, .int .i64 t, .slice (some ⟨0, 0, some 2⟩) (List.length cs) (List.length cs)], .agg #[.int .i64 w', .int .i64 h', .int .i64 t', .slice (some ⟨1, 0, some 2⟩) (List.length ds) (List.length ds)]] H' [] (Is (.tuple #[.agg #[.int .i64 r12.1.w, .int .i64 r12.1.h, .int .i64 r12.1.hour, .slice (some ⟨17, 0, some 1⟩) (List.length r12.1.cells) (List.length r12.1.cells)], .int .i64 r12.2]) (H' ++ [(.cells true 8 (List.flatMap cellC r12.1.cells) : KObj)]))) ∧ (((some (.cells true 8 (List.flatMap cellC r11.1.cells) : KObj) = some (.cells true 8 (List.flatMap cellC r11.1.cells) : KObj)) ∧ (some (.cells true 8 (List.flatMap cellC r12.1.cells) : KObj) = some (.cells true 8 (List.flatMap cellC r12.1.cells) : KObj)) ∧ True) ∧ (∀ H' : Heap, H'.length = 18 → (H'[16]? = some (.cells true 8 (List.flatMap cellC r11.1.cells) : KObj) ∧ H'[17]? = some (.cells true 8 (List.flatMap cellC r12.1.cells) : KObj) ∧ True) → KCall prog 53 [.agg #[.int .i64 r11.1.w, .int .i64 r11.1.h, .int .i64 r11.1.hour, .slice (some ⟨16, 0, some 1⟩) (List.length r11.1.cells) (List.length r11.1.cells)], .agg #[.int .i64 r12.1.w, .int .i64 r12.1.h, .int .i64 r12.1.hour, .slice (some ⟨17, 0, some 1⟩) (List.length r12.1.cells) (List.length r12.1.cells)]] H' [] (Is (.bool true) H')) ∧ ((((r11.2 : Int) != r12.2) = true → (.bool false : Value) = sp) ∧ (((r11.2 : Int) != r12.2) = false → (true = true ∧ ((0, r11.1.cells).1 ≤ List.length r11.1.cells ∧ List.length (0, r11.1.cells).2 = List.length r11.1.cells) ∧ (true = true ∧ ((.int .i64 0 : Value) = .int .i64 (((0, r11.1.cells).1 : Nat) : Int) ∧ (.pointer (some ⟨10, 0, none⟩) : Value) = .pointer (some ⟨10, 0, none⟩) ∧ (.pointer (some ⟨7, 0, none⟩) : Value) = .pointer (some ⟨7, 0, none⟩) ∧ (.pointer (some ⟨6, 0, none⟩) : Value) = .pointer (some ⟨6, 0, none⟩) ∧ (.bool false : Value) = .bool false ∧ (.pointer (some ⟨4, 0, none⟩) : Value) = .pointer (some ⟨4, 0, none⟩) ∧ (.pointer (some ⟨3, 0, none⟩) : Value) = .pointer (some ⟨3, 0, none⟩) ∧ wk (.slice (some ⟨2, 0, some 2⟩) (List.length xs) (List.length xs) : Value) (.slice (some ⟨2, 0, some 2⟩) (List.length xs) (List.length xs) : Value) ∧ (.int .i64 r11.2 : Value) = .int .i64 r11.2 ∧ (.int .i64 r12.2 : Value) = .int .i64 r12.2 ∧ True) ∧ ((some (.cells true 8 (List.flatMap cellC r11.1.cells) : KObj) = some (.cells true 8 (List.flatMap cellC (0, r11.1.cells).2) : KObj) ∧ belowO 18 (.cells true 8 (List.flatMap cellC (0, r11.1.cells).2) : KObj) = true) ∧ True) ∧ (True) ∧ (True)) ∧ (∀ x14 : Nat × List Cell, true = true) ∧ ∀ x14 : Nat × List Cell, (x14.1 ≤ List.length r11.1.cells ∧ List.length x14.2 = List.length r11.1.cells) → (((decide ((((x14.1 : Nat) : Int) : Int) < (((List.length r11.1.cells) : Nat) : Int))) = true → (((0 : Int) ≤ ((x14.1 : Nat) : Int) ∧ (((x14.1 : Nat) : Int) : Int) < (((List.length r11.1.cells) : Nat) : Int)) ∧ (((0 + Int.toNat ((x14.1 : Nat) : Int) * 8) + 8 ≤ List.length (List.flatMap cellC x14.2)) ∧ true = true ∧ ((.int .i64 (IntKind.wrap .i64 (((x14.1 : Nat) : Int) + 1)) : Value) = .int .i64 (((x14.1 : Nat) : Int) + 1) ∧ (∃ x14' : Nat × List Cell, (x14'.1 ≤ List.length r11.1.cells ∧ List.length x14'.2 = List.length r11.1.cells) ∧ (List.length r11.1.cells - x14'.1) < (List.length r11.1.cells - x14.1) ∧ true = true ∧ ((.int .i64 (((x14.1 : Nat) : Int) + 1) : Value) = .int .i64 ((x14'.1 : Nat) : Int) ∧ (.pointer (some ⟨10, 0, none⟩) : Value) = .pointer (some ⟨10, 0, none⟩) ∧ (.pointer (some ⟨7, 0, none⟩) : Value) = .pointer (some ⟨7, 0, none⟩) ∧ (.pointer (some ⟨6, 0, none⟩) : Value) = .pointer (some ⟨6, 0, none⟩) ∧ (.bool false : Value) = .bool false ∧ (.pointer (some ⟨4, 0, none⟩) : Value) = .pointer (some ⟨4, 0, none⟩) ∧ (.pointer (some ⟨3, 0, none⟩) : Value) = .pointer (some ⟨3, 0, none⟩) ∧ wk (.slice (some ⟨2, 0, some 2⟩) (List.length xs) (List.length xs) : Value) (.slice (some ⟨2, 0, some 2⟩) (List.length xs) (List.length xs) : Value) ∧ (.int .i64 r11.2 : Value) = .int .i64 r11.2 ∧ (.int .i64 r12.2 : Value) = .int .i64 r12.2 ∧ True) ∧ ((some (.cells true 8 (setl (List.flatMap cellC x14.2) (0 + Int.toNat ((x14.1 : Nat) : Int) * 8) [.int .i64 0, .int .i64 0, .int .i64 0, .int .i64 0, .int .i64 0, .int .i64 0, .int .i64 0, .int .i64 0]) : KObj) = some (.cells true 8 (List.flatMap cellC x14'.2) : KObj) ∧ belowO 18 (.cells true 8 (List.flatMap cellC x14'.2) : KObj) = true) ∧ True) ∧ (True) ∧ (True)))))) ∧ ((decide ((((x14.1 : Nat) : Int) : Int) < (((List.length r11.1.cells) : Nat) : Int))) = false → (∃ r15 : Bool × Int, (((some (.cells true 8 (List.flatMap cellC cs) : KObj) = some (.cells true 8 (List.flatMap cellC cs) : KObj)) ∧ (some (.cells true 8 (List.flatMap cellC ds) : KObj) = some (.cells true 8 (List.flatMap cellC ds) : KObj)) ∧ True) ∧ (∀ H' : Heap, H'.length = 18 → (H'[8]? = some (.cells true 8 (List.flatMap cellC cs) : KObj) ∧ H'[9]? = some (.cells true 8 (List.flatMap cellC ds) : KObj) ∧ True) → KCall prog 58 [.agg #[.int .i64 w, .int .i64 h, .int .i64 t, .slice (some ⟨8, 0, some 1⟩) (List.length cs) (List.length cs)], .agg #[.int .i64 w', .int .i64 h', .int .i64 t', .slice (some ⟨9, 0, some 1⟩) (List.length ds) (List.length ds)]] H' [] (Is (.tuple #[.bool r15.1, .int .i64 r15.2]) H')) ∧ (∃ r16 : Bool × Int, (((some (.cells false 0 (List.flatMap cellC cs) : KObj) = some (.cells false 0 (List.flatMap cellC cs) : KObj)) ∧ (some (.cells false 0 (List.flatMap cellC ds) : KObj) = some (.cells false 0 (List.flatMap cellC ds) : KObj)) ∧ True) ∧ (∀ H' : Heap, H'.length = 18 → (H'[0]? = some (.cells false 0 (List.flatMap cellC cs) : KObj) ∧ H'[1]? = some (.cells false 0 (List.flatMap cellC ds) : KObj) ∧ True) → KCall prog 59 [.agg #[.int .i64 w, .int .i64 h, .int .i64 t, .slice (some ⟨0, 0, some 2⟩) (List.length cs) (List.length cs)], .agg #[.int .i64 w', .int .i64 h', .int .i64 t', .slice (some ⟨1, 0, some 2⟩) (List.length ds) (List.length ds)]] H' [] (Is (.tuple #[.bool r16.1, .int .i64 r16.2]) H')) ∧ (((!(r15.1 == r16.1)) = true → (.bool false : Value) = sp) ∧ ((!(r15.1 == r16.1)) = false → ((((r15.2 : Int) != r16.2) = true → (.bool false : Value) = sp) ∧ (((r15.2 : Int) != r16.2) = false → (((some (.cells false 0 (List.flatMap iceC xs) : KObj) = some (.cells false 0 (List.flatMap iceC xs) : KObj)) ∧ True) ∧ (∀ H' : Heap, H'.length = 18 → (H'[2]? = some (.cells false 0 (List.flatMap iceC xs) : KObj) ∧ True) → KCall prog 45 [.slice (some ⟨2, 0, some 2⟩) (List.length xs) (List.length xs)] H' [] (Is (.slice (some ⟨18, 0, some 1⟩) (List.length xs) (List.length xs)) (H' ++ [(.cells true 4 (List.flatMap iceC xs) : KObj)]))) ∧ (∃ r18 : Bool × Int, (((some (.cells true 8 (List.flatMap cellC cs) : KObj) = some (.cells true 8 (List.flatMap cellC cs) : KObj)) ∧ (some (.cells true 4 (List.flatMap iceC xs) : KObj) = some (.cells true 4 (List.flatMap iceC xs) : KObj)) ∧ True) ∧ (∀ H' : Heap, H'.length = 19 → (H'[8]? = some (.cells true 8 (List.flatMap cellC cs) : KObj) ∧ H'[18]? = some (.cells true 4 (List.flatMap iceC xs) : KObj) ∧ True) → KCall prog 60 [.agg #[.int .i64 w, .int .i64 h, .int .i64 t, .slice (some ⟨8, 0, some 1⟩) (List.length cs) (List.length cs)], .slice (some ⟨18, 0, some 1⟩) (List.length xs) (List.length xs)] H' [] (Is (.tuple #[.bool r18.1, .int .i64 r18.2]) H')) ∧ (∃ r19 : Bool × Int, (((some (.cells false 0 (List.flatMap cellC cs) : KObj) = some (.cells false 0 (List.flatMap cellC cs) : KObj)) ∧ (some (.cells false 0 (List.flatMap iceC xs) : KObj) = some (.cells false 0 (List.flatMap iceC xs) : KObj)) ∧ True) ∧ (∀ H' : Heap, H'.length = 19 → (H'[0]? = some (.cells false 0 (List.flatMap cellC cs) : KObj) ∧ H'[2]? = some (.cells false 0 (List.flatMap iceC xs) : KObj) ∧ True) → KCall prog 61 [.agg #[.int .i64 w, .int .i64 h, .int .i64 t, .slice (some ⟨0, 0, some 2⟩) (List.length cs) (List.length cs)], .slice (some ⟨2, 0, some 2⟩) (List.length xs) (List.length xs)] H' [] (Is (.tuple #[.bool r19.1, .int .i64 r19.2]) H')) ∧ (((r18.1 == r19.1) = true → ((((r18.2 : Int) == r19.2) = true → (((some (.cells true 8 (List.flatMap cellC cs) : KObj) = some (.cells true 8 (List.flatMap cellC cs) : KObj)) ∧ (some (.cells false 0 (List.flatMap cellC cs) : KObj) = some (.cells false 0 (List.flatMap cellC cs) : KObj)) ∧ True) ∧ (∀ H' : Heap, H'.length = 19 → (H'[8]? = some (.cells true 8 (List.flatMap cellC cs) : KObj) ∧ H'[0]? = some (.cells false 0 (List.flatMap cellC cs) : KObj) ∧ True) → KCall prog 53 [.agg #[.int .i64 w, .int .i64 h, .int .i64 t, .slice (some ⟨8, 0, some 1⟩) (List.length cs) (List.length cs)], .agg #[.int .i64 w, .int .i64 h, .int .i64 t, .slice (some ⟨0, 0, some 2⟩) (List.length cs) (List.length cs)]] H' [] (Is (.bool true) H')) ∧ (((some (.cells true 8 (List.flatMap cellC ds) : KObj) = some (.cells true 8 (List.flatMap cellC ds) : KObj)) ∧ (some (.cells false 0 (List.flatMap cellC ds) : KObj) = some (.cells false 0 (List.flatMap cellC ds) : KObj)) ∧ True) ∧ (∀ H' : Heap, H'.length = 19 → (H'[9]? = some (.cells true 8 (List.flatMap cellC ds) : KObj) ∧ H'[1]? = some (.cells false 0 (List.flatMap cellC ds) : KObj) ∧ True) → KCall prog 53 [.agg #[.int .i64 w', .int .i64 h', .int .i64 t', .slice (some ⟨9, 0, some 1⟩) (List.length ds) (List.length ds)], .agg #[.int .i64 w', .int .i64 h', .int .i64 t', .slice (some ⟨1, 0, some 2⟩) (List.length ds) (List.length ds)]] H' [] (Is (.bool true) H')) ∧ ((True) ∧ (∀ H' : Heap, H'.length = 19 → (True) → KCall prog 9 [] H' [] (Is (.bool true) H')) ∧ (.bool true : Value) = sp)))) ∧ (((r18.2 : Int) == r19.2) = false → (.bool false : Value) = sp))) ∧ ((r18.1 == r19.1) = false → (.bool false : Value) = sp))))))))))))))))))))))))))))))))))))))))))))))))))))))))
theorem ECharts (sp : Value) (w h t : Int) (cs : List Cell) (w' h' t' : Int) (ds : List Cell) (xs : List Ice) (m : Rates) (n : Int) : vF prog msk (dm 0) 100000 true 40 true 5 [.agg #[.int .i64 w, .int .i64 h, .int .i64 t, .slice (some ⟨0, 0, some 2⟩) (List.length cs) (List.length cs)], .agg #[.int .i64 w', .int .i64 h', .int .i64 t', .slice (some ⟨1, 0, some 2⟩) (List.length ds) (List.length ds)], .slice (some ⟨2, 0, some 2⟩) (List.length xs) (List.length xs), .agg #[.int .i64 m.up.conc, .int .i64 m.up.thick, .int .i64 m.up.ridge, .int .i64 m.up.press, .int .i64 m.down.conc, .int .i64 m.down.thick, .int .i64 m.down.ridge, .int .i64 m.down.press], .int .i64 n] (readsT 0 [cs.flatMap cellC, ds.flatMap cellC, xs.flatMap iceC]) (some [])
  (.go 8 (.gfork (.go 3 (.ans [] (.bool true) [] (.auto))) (.go 5 (.gfork (.go 1 (.ans [] (.bool true) [] (.auto))) (.go 3 (.fork (.ans [] (.bool true) [] (.auto)) (.go 3 (.ans [(0, .cells false 0 (List.flatMap cellC cs))] (.agg #[.int .i64 w, .int .i64 h, .int .i64 t, .slice (some ⟨8, 0, some 1⟩) (List.length cs) (List.length cs)]) [.cells true 8 (List.flatMap cellC cs)] (.ans [(1, .cells false 0 (List.flatMap cellC ds))] (.agg #[.int .i64 w', .int .i64 h', .int .i64 t', .slice (some ⟨9, 0, some 1⟩) (List.length ds) (List.length ds)]) [.cells true 8 (List.flatMap cellC ds)] (.go 3 (.bind (Int) (fun r2 => .ans [(8, .cells true 8 (List.flatMap cellC cs))] (.int .i64 r2) [] (.bind (Int) (fun r3 => .ans [(0, .cells false 0 (List.flatMap cellC cs))] (.int .i64 r3) [] (.go 0 (.fork (.auto) (.go 12 (.bind (Chart × Int) (fun r4 => .ans [(8, .cells true 8 (List.flatMap cellC cs))] (.tuple #[.agg #[.int .i64 r4.1.w, .int .i64 r4.1.h, .int .i64 r4.1.hour, .slice (some ⟨11, 0, some 1⟩) (List.length r4.1.cells) (List.length r4.1.cells)], .int .i64 r4.2]) [.cells true 8 (List.flatMap cellC r4.1.cells)] (.go 7 (.bind (Chart × Int) (fun r5 => .ans [(0, .cells false 0 (List.flatMap cellC cs))] (.tuple #[.agg #[.int .i64 r5.1.w, .int .i64 r5.1.h, .int .i64 r5.1.hour, .slice (some ⟨12, 0, some 1⟩) (List.length r5.1.cells) (List.length r5.1.cells)], .int .i64 r5.2]) [.cells true 8 (List.flatMap cellC r5.1.cells)] (.go 7 (.ans [(11, .cells true 8 (List.flatMap cellC r4.1.cells)), (12, .cells true 8 (List.flatMap cellC r5.1.cells))] (.bool true) [] (.go 5 (.fork (.auto) (.go 1 (.bind (Chart × Int) (fun r7 => .ans [(8, .cells true 8 (List.flatMap cellC cs)), (9, .cells true 8 (List.flatMap cellC ds))] (.tuple #[.agg #[.int .i64 r7.1.w, .int .i64 r7.1.h, .int .i64 r7.1.hour, .slice (some ⟨14, 0, some 1⟩) (List.length r7.1.cells) (List.length r7.1.cells)], .int .i64 r7.2]) [.cells true 8 (List.flatMap cellC r7.1.cells)] (.go 6 (.bind (Chart × Int) (fun r8 => .ans [(0, .cells false 0 (List.flatMap cellC cs)), (1, .cells false 0 (List.flatMap cellC ds))] (.tuple #[.agg #[.int .i64 r8.1.w, .int .i64 r8.1.h, .int .i64 r8.1.hour, .slice (some ⟨15, 0, some 1⟩) (List.length r8.1.cells) (List.length r8.1.cells)], .int .i64 r8.2]) [.cells true 8 (List.flatMap cellC r8.1.cells)] (.go 6 (.ans [(14, .cells true 8 (List.flatMap cellC r7.1.cells)), (15, .cells true 8 (List.flatMap cellC r8.1.cells))] (.bool true) [] (.go 5 (.fork (.auto) (.go 0 (.inv 3 (Nat × List Cell) ((0, r7.1.cells)) [] [14] (fun x10 => [(17, .int .i64 ((x10.1 : Nat) : Int)), (2, .slice (some ⟨2, 0, some 2⟩) (List.length xs) (List.length xs)), (5, .pointer (some ⟨3, 0, none⟩)), (6, .pointer (some ⟨4, 0, none⟩)), (10, .bool false), (11, .pointer (some ⟨6, 0, none⟩)), (12, .pointer (some ⟨7, 0, none⟩)), (13, .pointer (some ⟨10, 0, none⟩)), (15, .pointer (some ⟨13, 0, none⟩)), (14, .int .i64 r7.2), (16, .int .i64 r8.2)]) (fun x10 => [(14, true, .cells true 8 (List.flatMap cellC x10.2))]) (fun x10 => []) (fun x10 => []) (fun x10 => (x10.1 ≤ List.length r7.1.cells ∧ List.length x10.2 = List.length r7.1.cells)) (fun x10 => (List.length r7.1.cells - x10.1)) (fun x10 => .go 4 (.fork (.go 3 (.need (.need (.go 1 (.slot 98 (.int .i64 (((x10.1 : Nat) : Int) + 1)) (.go 0 (.again []))))))) (.go 1 (.bind (Chart × Int) (fun r11 => .ans [(8, .cells true 8 (List.flatMap cellC cs)), (9, .cells true 8 (List.flatMap cellC ds))] (.tuple #[.agg #[.int .i64 r11.1.w, .int .i64 r11.1.h, .int .i64 r11.1.hour, .slice (some ⟨16, 0, some 1⟩) (List.length r11.1.cells) (List.length r11.1.cells)], .int .i64 r11.2]) [.cells true 8 (List.flatMap cellC r11.1.cells)] (.go 6 (.bind (Chart × Int) (fun r12 => .ans [(0, .cells false 0 (List.flatMap cellC cs)), (1, .cells false 0 (List.flatMap cellC ds))] (.tuple #[.agg #[.int .i64 r12.1.w, .int .i64 r12.1.h, .int .i64 r12.1.hour, .slice (some ⟨17, 0, some 1⟩) (List.length r12.1.cells) (List.length r12.1.cells)], .int .i64 r12.2]) [.cells true 8 (List.flatMap cellC r12.1.cells)] (.go 6 (.ans [(16, .cells true 8 (List.flatMap cellC r11.1.cells)), (17, .cells true 8 (List.flatMap cellC r12.1.cells))] (.bool true) [] (.go 5 (.fork (.auto) (.go 0 (.inv 3 (Nat × List Cell) ((0, r11.1.cells)) [] [16] (fun x14 => [(18, .int .i64 ((x14.1 : Nat) : Int)), (13, .pointer (some ⟨10, 0, none⟩)), (12, .pointer (some ⟨7, 0, none⟩)), (11, .pointer (some ⟨6, 0, none⟩)), (10, .bool false), (6, .pointer (some ⟨4, 0, none⟩)), (5, .pointer (some ⟨3, 0, none⟩)), (2, .slice (some ⟨2, 0, some 2⟩) (List.length xs) (List.length xs)), (14, .int .i64 r11.2), (16, .int .i64 r12.2)]) (fun x14 => [(16, true, .cells true 8 (List.flatMap cellC x14.2))]) (fun x14 => []) (fun x14 => []) (fun x14 => (x14.1 ≤ List.length r11.1.cells ∧ List.length x14.2 = List.length r11.1.cells)) (fun x14 => (List.length r11.1.cells - x14.1)) (fun x14 => .go 4 (.fork (.go 3 (.need (.need (.go 1 (.slot 131 (.int .i64 (((x14.1 : Nat) : Int) + 1)) (.go 0 (.again []))))))) (.go 1 (.bind (Bool × Int) (fun r15 => .ans [(8, .cells true 8 (List.flatMap cellC cs)), (9, .cells true 8 (List.flatMap cellC ds))] (.tuple #[.bool r15.1, .int .i64 r15.2]) [] (.go 6 (.bind (Bool × Int) (fun r16 => .ans [(0, .cells false 0 (List.flatMap cellC cs)), (1, .cells false 0 (List.flatMap cellC ds))] (.tuple #[.bool r16.1, .int .i64 r16.2]) [] (.go 8 (.gfork (.auto) (.go 3 (.fork (.auto) (.go 0 (.ans [(2, .cells false 0 (List.flatMap iceC xs))] (.slice (some ⟨18, 0, some 1⟩) (List.length xs) (List.length xs)) [.cells true 4 (List.flatMap iceC xs)] (.go 2 (.bind (Bool × Int) (fun r18 => .ans [(8, .cells true 8 (List.flatMap cellC cs)), (18, .cells true 4 (List.flatMap iceC xs))] (.tuple #[.bool r18.1, .int .i64 r18.2]) [] (.go 6 (.bind (Bool × Int) (fun r19 => .ans [(0, .cells false 0 (List.flatMap cellC cs)), (2, .cells false 0 (List.flatMap iceC xs))] (.tuple #[.bool r19.1, .int .i64 r19.2]) [] (.go 8 (.gfork (.go 4 (.gfork (.go 1 (.ans [(8, .cells true 8 (List.flatMap cellC cs)), (0, .cells false 0 (List.flatMap cellC cs))] (.bool true) [] (.go 3 (.ans [(9, .cells true 8 (List.flatMap cellC ds)), (1, .cells false 0 (List.flatMap cellC ds))] (.bool true) [] (.go 1 (.ans [] (.bool true) [] (.auto))))))) (.auto))) (.auto)))))))))))))))))))))))))))))))))))))))))))))))))))))))))))))))))))))))))))
  (fun v _ _ => v = sp) = RCharts sp w h t cs w' h' t' ds xs m n := by kernel_rfl
end
end Go.Proofs.YthcjliffpebjaaaGreat
