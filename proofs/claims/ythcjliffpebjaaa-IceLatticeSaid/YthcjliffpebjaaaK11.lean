/- Store, append, copy. No condition. -/
import Derived.Test.YthcjliffpebjaaaK10
import Derived.Deep.AppendSrc
namespace Go.K
open Go
set_option linter.unusedVariables false
variable {P : Program} {w : World} {ρ : Ren} {H : Heap}

theorem setl_get (vs : List Value) : ∀ (l : List Value) (k i : Nat), k + vs.length ≤ l.length → (setl l k vs)[i]? = if k ≤ i ∧ i < k + vs.length then vs[i - k]? else l[i]? := by
  induction vs with
  | nil => intro l k i h; simp [setl]; intro h1 h2; omega
  | cons v vs ih =>
    intro l k i h
    simp only [setl]
    rw [ih _ _ _ (by simp at h ⊢; omega)]
    simp at h
    by_cases h1 : i = k
    · subst h1
      rw [if_neg (by omega), if_pos (by simp)]
      rw [List.getElem?_set_self (by omega)]
      simp
    · rw [List.getElem?_set_ne (Ne.symm h1)]
      by_cases h2 : k + 1 ≤ i ∧ i < k + 1 + vs.length
      · rw [if_pos h2, if_pos (by simp; omega)]
        rw [show i - k = (i - (k + 1)) + 1 by omega]
        simp
      · rw [if_neg h2, if_neg (by simp; omega)]

/-- Rows of cells, one a shifted part of the other; the same cells written in both. -/
theorem rows_setl {cs vs vs' : List Value} {cs' : Array Value} {s off : Nat} (h : ∀ (i : Nat) (v : Value), cs[i]? = some v → ∃ v' : Value, cs'[i + s]? = some v' ∧ VR ρ v v')
    (hv : VRl ρ vs vs') (hle : off + vs.length ≤ cs.length) (hle' : off + s + vs'.length ≤ cs'.size) :
    ∀ (i : Nat) (v : Value), (setl cs off vs)[i]? = some v → ∃ v' : Value, (⟨setl cs'.toList (off + s) vs'⟩ : Array Value)[i + s]? = some v' ∧ VR ρ v v' := by
  intro i v hi
  rw [setl_get _ _ _ _ hle] at hi
  have e : (⟨setl cs'.toList (off + s) vs'⟩ : Array Value)[i + s]? = (setl cs'.toList (off + s) vs')[i + s]? := by simp
  rw [e, setl_get _ _ _ _ (by simpa using hle')]
  have hl := hv.1
  split at hi
  · rename_i hc
    rw [if_pos (by omega)]
    obtain ⟨v', h1, h2⟩ := hv.get hi
    exact ⟨v', by rw [show i + s - (off + s) = i - off by omega]; exact h1, h2⟩
  · rename_i hc
    rw [if_neg (by omega)]
    obtain ⟨v', h1, h2⟩ := h i v hi
    exact ⟨v', by simpa using h1, h2⟩

theorem kstore_sim {B base : Nat} {M : List Nat} {t : TypeId} {a a' x x' : Value} {H' : Heap} {wr : List Nat} (h : kstore P t a x H = some (H', wr)) (hr : Rel P B ρ H w) (ha : VR ρ a a') (hx : VR ρ x x')
    (hM : ∀ id ∈ wr, id < base → id ∈ M) : ∃ w', (Instr.storeAt t a' x').run P w = .ok () w' ∧ Post P B base M ρ H w ρ H' w' := by
  unfold kstore at h
  split at h
  · rename_i id off
    split at h
    · rename_i z cs hid
      cases hn : ksize P t with
      | none => simp [hn] at h
      | some n =>
        simp only [hn] at h
        split at h
        · rename_i hc
          obtain ⟨c1, c2, c3⟩ := hc
          cases h
          cases ha with
          | @ptr _ _ r hρ =>
            obtain ⟨e1, e2, cs', ty, fz, hb, hnz, hfz, hcs⟩ := hr.obj id r _ hρ hid
            obtain rfl : fz = (0, 0) := hfz rfl
            have hxc := hx.cells (nt_of_one c3)
            have hxl : x'.cells.toList.length = n := by rw [← hxc.1]; exact c1
            have hle' : off + r.s + n ≤ cs'.size ∨ n = 0 := rows_extract hcs c2
            rcases Nat.eq_zero_or_pos n with h0 | h0
            · subst h0
              have hx0 : x'.cells.toList = [] := List.length_eq_zero_iff.1 hxl
              have hx0' : x.cells.toList = [] := List.length_eq_zero_iff.1 c1
              refine ⟨w.putObj r.b (.cells cs' ty (0, 0)), ?_, ?_⟩
              · simp only [Instr.storeAt, Instr.sureAddr, storeVar, Sem.run_bind, Sem.run_pure, Result.andThen_ok, run_size hn]
                rw [Sem.run_ite, if_neg (by simpa using hxl)]
                simp [hx0, storeCells, putObj_self hb]
              · rw [hx0']
                refine Post.put hr hρ hid rfl (by rw [hb]; rfl) ?_ (fun hlt => hM id (by simp) hlt)
                exact ⟨e1, e2, cs', ty, (0, 0), putObj_lt hb, hnz, fun _ => rfl, hcs⟩
            · have hle2 : off + r.s + n ≤ cs'.size := by rcases hle' with h | h; exact h; omega
              refine ⟨w.putObj r.b (.cells ⟨setl cs'.toList (off + r.s) x'.cells.toList⟩ ty (0, 0)), ?_, Post.put hr hρ hid rfl (by rw [hb]; rfl) ?_ (fun hlt => hM id (by simp) hlt)⟩
              · simp only [Instr.storeAt, Instr.sureAddr, storeVar, Sem.run_bind, Sem.run_pure, Result.andThen_ok, run_size hn]
                rw [Sem.run_ite, if_neg (by have : x'.cells.size = n := by simpa using hxl
                                            simp [this])]
                have hrun := run_storeCells (P := P) (b := r.b) (off := off + r.s) x'.cells.toList 0 cs' w hb (VRl.oneCell hxc c3) (by rw [hxl]; omega)
                simpa using hrun
              · refine ⟨e1, e2, _, ty, (0, 0), putObj_lt hb, by rw [← hnz]; simp [setl_length], fun _ => rfl, ?_⟩
                exact rows_setl hcs hxc (by omega) (by omega)
        · simp at h
    · simp at h
  · simp at h


theorem run_append_room' (t tx ty e : TypeId) (i : TypeInfo) (ht : P.underlying t = some (.slice e)) (hi : P.info? e = some i) (b off sLen sCap : Nat) (x : Value) (n : Nat) (news : List Value) (hs : Src P i.size tx x n news w)
    (hroom : sLen + n ≤ sCap) {cs : Array Value} {ety : TypeId} (hb : w.heap[b]? = some (.cells cs ety (0, 0))) (hle : off + sLen * i.size + news.length ≤ cs.size) :
    (Builtin.append_ #[t, tx] ty #[.slice (some ⟨b, off, none⟩) sLen sCap, x]).run P w = .ok (.slice (some ⟨b, off, none⟩) (sLen + n) sCap) (w.putObj b (.cells ⟨setl cs.toList (off + sLen * i.size) news⟩ ety (0, 0))) := by
  have hst := run_storeCells (P := P) (off := off + sLen * i.size) news 0 cs w hb (by rw [List.all_eq_true]; exact hs.one) (by simpa using hle)
  simp only [Nat.add_zero] at hst
  rcases hs.kind with ⟨e', hk⟩ | hk <;> simp [Builtin.append_, run_underlying ht, run_underlying hk, sizeOf, typeInfo, hi, hs.len, hroom, hs.cells, addr_add, hst]

theorem rel_at {B : Nat} (hr : Rel P B ρ H w) (id : Nat) : ObjAt ρ H w id := fun r o h1 h2 => hr.obj id r o h1 h2

theorem kappend_sim {B base : Nat} {M : List Nat} {t u : TypeId} {s s' x x' v : Value} {H' : Heap} {wr : List Nat} (h : kappend P t s x H = some (v, H', wr)) (hu : ∃ e, P.underlying u = some (.slice e)) (hr : Rel P B ρ H w)
    (hs : VR ρ s s') (hx : VR ρ x x') (hM : ∀ id ∈ wr, id < base → id ∈ M) (hob : base ≤ H.length) (ty : TypeId) :
    ∃ v' w' ρ', (Builtin.append_ #[t, u] ty #[s', x']).run P w = .ok v' w' ∧ VR ρ' v v' ∧ Post P B base M ρ H w ρ' H' w' := by
  obtain ⟨e0, hu⟩ := hu
  unfold kappend at h
  split at h
  · rename_i el sb len cap xb m xc hut
    split at h
    · rename_i n by_ hsz hby
      have hsz' : ksize P el = some (n + 1) := hsz
      obtain ⟨i, hi, hisz, hir⟩ := run_info hsz' w
      have hib : i.bytes = by_ := by
        unfold kbytes at hby; rw [hi] at hby; simpa using hby
      split at h
      · rename_i hbd
        obtain ⟨hb1, hb2, hb3⟩ := hbd
        have hneed : len + m ≤ 2 ^ 44 := Nat.le_trans (Nat.le_mul_of_pos_right _ hb2) hb1
        -- the appended slice
        obtain ⟨x'l, x'c, hx'⟩ : ∃ a c, x' = .slice a m c := by cases hx <;> exact ⟨_, _, rfl⟩
        obtain ⟨s'l, s'c, hs', hsc⟩ : ∃ a c, s' = .slice a len c ∧ cap ≤ c := by
          cases hs with
          | sliceNil => exact ⟨_, _, rfl, Nat.le_refl _⟩
          | slice _ _ hc _ => exact ⟨_, _, rfl, hc⟩
          | slice0 => exact ⟨_, _, rfl, Nat.le_refl _⟩
          | sliceE => exact ⟨_, _, rfl, Nat.le_refl _⟩
        split at h
        · rename_i hm0
          subst hm0
          cases h
          have hlc : len ≤ s'c := by
            cases hs with
            | sliceNil => omega
            | slice _ hl hc _ => cases hs'; omega
            | slice0 => omega
            | sliceE => omega
          have hx0 : ∀ w : World, (Builtin.firstCells (n + 1) 0 x').run P w = .ok #[] w := by
            intro w; rw [hx']; cases x'l <;> simp [Builtin.firstCells, loadCells, loadCellsFrom]
          refine ⟨s', w, ρ, ?_, hs, Post.refl hr⟩
          rw [hs', hx']
          rw [hx'] at hx0
          cases s'l <;> simp [Builtin.append_, run_und hut, run_und hu, run_size hsz', Builtin.lenOf, hlc, hx0, storeCells]
        · rename_i hm0
          cases hold : kcells P (n + 1) len (.slice sb len cap) H with
          | none => simp [hold] at h
          | some old =>
            cases hnew : kcells P (n + 1) m (.slice xb m xc) H with
            | none => simp [hold, hnew] at h
            | some new =>
              cases hz : kzero P el with
              | none => simp [hold, hnew, hz] at h
              | some z =>
                simp only [hold, hnew, hz] at h
                split at h
                · rename_i hzl
                  obtain ⟨hzl, hone⟩ := hzl
                  obtain ⟨hzr, hzc⟩ := run_kzero hz w
                  have hiz : i.zero = some z := by
                    simp [zeroValue, typeInfo, hi] at hzr
                    cases hq : i.zero with
                    | none => simp [hq] at hzr
                    | some z' => simp [hq] at hzr; rw [hzr]
                  obtain ⟨new', hn1, hn2⟩ := kcells_sim (w := w) hnew hx (rel_at hr)
                  obtain ⟨new2, hn3, hn4⟩ := kcells_sim (w := w.drew) hnew hx (rel_at hr.drew)
                  obtain ⟨old', ho1, ho2⟩ := kcells_sim (w := w.drew) hold hs (rel_at hr.drew)
                  have hnl : ∀ {k : Nat} {y : Value} {c : List Value}, kcells P (n + 1) k y H = some c → c.length = k * (n + 1) := by
                    intro k y c hc
                    unfold kcells at hc
                    split at hc
                    · split at hc
                      · rename_i h0; cases hc; simp [h0]
                      · simp at hc
                    · split at hc
                      · split at hc
                        · rename_i hle; cases hc; simp; omega
                        · simp at hc
                      · simp at hc
                    · simp at hc
                  have hsame : new2 = new' := by
                    have : ∀ (k : Nat) (y : Value) (w : World) (c : Array Value), (Builtin.firstCells (n + 1) k y).run P w = .ok c w → (Builtin.firstCells (n + 1) k y).run P w.drew = .ok c w.drew := by
                      intro k y w c hc
                      unfold Builtin.firstCells at hc ⊢
                      split at hc
                      · rename_i a _ _
                        revert hc
                        unfold loadCells
                        have gen : ∀ (k i : Nat) (acc : Array Value), (loadCellsFrom a i k acc).run P w = .ok c w → (loadCellsFrom a i k acc).run P w.drew = .ok c w.drew := by
                          intro k
                          induction k with
                          | zero => intro i acc hq; simp [loadCellsFrom] at hq ⊢; exact hq
                          | succ k ih =>
                            intro i acc hq
                            simp only [loadCellsFrom, Sem.run_bind, run_load] at hq ⊢
                            have hcd : w.drew.cell? (a.add i) = w.cell? (a.add i) := rfl
                            rw [hcd]
                            cases hce : w.cell? (a.add i) with
                            | some v => rw [hce] at hq; simp only [Result.andThen_ok] at hq ⊢; exact ih _ _ hq
                            | none =>
                              rw [hce] at hq
                              cases hf : w.farLoad P (a.add i) (Mode.plain == Mode.atomic) with
                              | error e => simp [hf] at hq
                              | ok p =>
                                have hfd : w.drew.farLoad P (a.add i) (Mode.plain == Mode.atomic) = w.farLoad P (a.add i) (Mode.plain == Mode.atomic) := rfl
                                rw [hfd, hf]
                                rw [hf] at hq
                                simp only [Result.andThen_ok] at hq ⊢; exact ih _ _ hq
                        exact gen _ _ _
                      · simp at hc ⊢; exact hc
                      · simp at hc ⊢; exact hc
                      · simp at hc
                    have h1 := this _ _ _ _ hn1
                    rw [hn3] at h1
                    simpa using h1
                  subst hsame
                  have hnewl := hnl hnew
                  have holdl := hnl hold
                  have hl1 := hn2.1
                  have hl2 := ho2.1
                  have hsrc : Src P i.size u x' m new2.toList w := by
                    refine ⟨.inl ⟨e0, hu⟩, fun w' => by rw [hx']; rfl, by rw [hisz]; simpa using hn1, by rw [hisz]; simpa using hn3, by rw [hisz]; omega, ?_⟩
                    have := VRl.oneCell hn2 hone
                    rw [List.all_eq_true] at this
                    exact this
                  -- the new row that growth makes
                  have grow : ∀ (bs : Option Addr) (c' : Nat), s' = .slice bs len c' → c' < len + m → ∀ (H1 : Heap), H1.length = H.length → Post P B base M ρ H w ρ H1 w →
                      ∃ v' w' ρ', (Builtin.append_ #[t, u] ty #[s', x']).run P w = .ok v' w' ∧ VR ρ' (.slice (some ⟨H.length, 0, none⟩) (len + m) (len + m)) v' ∧ Post P B base M ρ H w ρ' (H1 ++ [.cells true (n + 1) (old ++ new)]) w' := by
                    intro bs c' hbs hlt H1 hH1 hp
                    have hnc := nextslicecap_le (old := c') (need := len + m) hlt
                    have hg := run_append_grow_src w t u ty el i z hut hi hiz bs len c' old'.toList (by rw [hisz, ← hbs]; simpa using ho1) x' m new2.toList hsrc hlt (by omega) (by
                      rw [hib]
                      have h1 : Builtin.nextslicecap (len + m) c' * by_ ≤ (2 * (len + m)) * by_ := Nat.mul_le_mul_right _ hnc
                      rw [Nat.mul_assoc] at h1
                      omega)
                    have hge := grownCap_ge w (len + m) c' el
                    have hrow : VRl ρ (old ++ new) (old'.toList ++ new2.toList) := VRl.append ho2 hn2
                    have hzs : z.cells.size = n + 1 := by simpa using hzl
                    have hd := hp.trans (Post.drew (base := base) (M := M) hp.rel)
                    have hcs : ((old'.toList ++ new2.toList).toArray ++ Builtin.zeroCells z.cells (grownCap w (len + m) c' el - (len + m))).size = grownCap w (len + m) c' el * (n + 1) := by
                      simp only [Array.size_append, List.size_toArray, List.length_append, size_zeroCells, hzs]
                      rw [← hl2, ← hl1, holdl, hnewl, ← Nat.add_mul, ← Nat.add_mul]
                      congr 1; omega
                    refine ⟨_, _, ρ.set H.length ⟨w.heap.size, 0, grownCap w (len + m) c' el * (n + 1), n + 1, true⟩, by rw [hbs]; exact hg, ?_, ?_⟩
                    · have := VR.slice (ρ := ρ.set H.length ⟨w.heap.size, 0, grownCap w (len + m) c' el * (n + 1), n + 1, true⟩) (id := H.length) (o := 0) (len := len + m) (cap := len + m) (cap' := grownCap w (len + m) c' el) (Ren.set_same _ _ _) (Nat.le_refl _) hge (fun _ _ => by simp)
                      simpa using this
                    · refine hd.trans ?_
                      have hno : ρ H.length = none := by
                        cases hq : ρ H.length with
                        | none => rfl
                        | some r => exact absurd (hr.dom _ _ hq) (Nat.lt_irrefl _)
                      have hnew := ObjRel.newCells' (ρ := ρ) (w := w.drew) (id := H.length) (z := n + 1) (cs := old ++ new) (cs' := (old'.toList ++ new2.toList).toArray ++ Builtin.zeroCells z.cells (grownCap w (len + m) c' el - (len + m))) (ty := el) hno (by
                        intro k v hv
                        obtain ⟨v', g1, g2⟩ := hrow.get hv
                        refine ⟨v', ?_, g2⟩
                        have hk := (List.getElem?_eq_some_iff.1 g1).1
                        rw [Array.getElem?_append_left (by simpa using hk)]
                        simpa using g1)
                      rw [hcs] at hnew
                      have := Post.alloc (base := base) (M := M) hd.rel (ri := ⟨w.heap.size, 0, grownCap w (len + m) c' el * (n + 1), n + 1, true⟩) rfl (by rw [hH1]; exact hob) (by rw [hH1]; exact hnew)
                      rw [hH1] at this
                      exact this
                  cases hs with
                  | sliceE => simp at h
                  | sliceNil =>
                    cases h
                    exact grow none 0 rfl (by omega) H rfl (Post.refl hr)
                  | @slice id off r _ _ c' hρ hl hc hroom =>
                    simp only at h
                    split at h
                    · rename_i zz cs hid
                      split at h
                      · rename_i hzz
                        subst hzz
                        cases h
                        have hMid : id < base → id ∈ M := fun hlt => hM id (by simp) hlt
                        rcases Nat.lt_or_ge c' (len + m) with hlt | hge
                        · exact grow _ c' rfl hlt (H.set id .dead) (by simp) (Post.kill hr hρ hid rfl hMid)
                        · obtain ⟨e1, e2, cs', ety, fz, hb, hnz, hfz, hcs⟩ := hr.obj id r _ hρ hid
                          obtain rfl : fz = (0, 0) := hfz rfl
                          have hrm := hroom e1.symm (by rw [← e2]; omega)
                          rw [← e2] at hrm
                          have hmul : (len + m) * (n + 1) ≤ c' * (n + 1) := Nat.mul_le_mul_right _ hge
                          rw [Nat.add_mul] at hmul
                          have hn2l : new2.toList.length = m * (n + 1) := by rw [← hl1]; exact hnewl
                          have hrun := run_append_room' (w := w) t u ty el i hut hi r.b (off + r.s) len c' x' m new2.toList hsrc hge hb (by rw [hisz]; omega)
                          rw [hisz] at hrun
                          refine ⟨_, _, ρ.set H.length ⟨r.b, off + r.s, r.n, r.z, true⟩, hrun, ?_, Post.move hr hρ hid rfl rfl hob ?_ hMid⟩
                          · have := VR.slice (ρ := ρ.set H.length ⟨r.b, off + r.s, r.n, r.z, true⟩) (id := H.length) (o := 0) (len := len + m) (cap := len + m) (cap' := c') (Ren.set_same _ _ _) (Nat.le_refl _) hge (fun _ _ => by
                              simp only
                              rw [← e2]
                              omega)
                            simpa using this
                          · have hno : ρ H.length = none := by
                              cases hq : ρ H.length with
                              | none => rfl
                              | some r => exact absurd (hr.dom _ _ hq) (Nat.lt_irrefl _)
                            refine ⟨rfl, e2, _, ety, (0, 0), putObj_lt hb, by simp [setl_length]; exact hnz, fun _ => rfl, ?_⟩
                            intro k v hv
                            have hk := (List.getElem?_eq_some_iff.1 hv).1
                            simp only [List.length_append, holdl, hnewl] at hk
                            have e : (⟨setl cs'.toList (off + r.s + len * (n + 1)) new2.toList⟩ : Array Value)[k + (off + r.s)]? = (setl cs'.toList (off + r.s + len * (n + 1)) new2.toList)[k + (off + r.s)]? := by simp
                            rw [e, setl_get _ _ _ _ (by rw [hn2l]; simp only [Array.length_toList]; omega)]
                            rcases Nat.lt_or_ge k (len * (n + 1)) with hk1 | hk1
                            · rw [if_neg (by omega)]
                              rw [List.getElem?_append_left (by rw [holdl]; exact hk1)] at hv
                              have hold2 := hold
                              unfold kcells at hold2
                              simp only [hid] at hold2
                              split at hold2
                              · cases hold2
                                rw [List.getElem?_take, if_pos hk1, List.getElem?_drop] at hv
                                obtain ⟨v', g1, g2⟩ := hcs _ _ hv
                                exact ⟨v', by rw [show k + (off + r.s) = off + k + r.s by omega]; simpa using g1, g2.mono (Ren.le_set hno)⟩
                              · simp at hold2
                            · rw [if_pos ⟨by omega, by rw [hn2l]; omega⟩]
                              rw [List.getElem?_append_right (by rw [holdl]; exact hk1), holdl] at hv
                              obtain ⟨v', g1, g2⟩ := hn2.get hv
                              exact ⟨v', by rw [show k + (off + r.s) - (off + r.s + len * (n + 1)) = k - len * (n + 1) by omega]; exact g1, g2.mono (Ren.le_set hno)⟩
                      · simp at h
                    · simp at h
                  | @slice0 id off r o' hρ =>
                    simp only at h
                    split at h
                    · rename_i zz cs hid
                      split at h
                      · cases h
                        exact grow _ 0 rfl (by omega) (H.set id .dead) (by simp) (Post.kill hr hρ hid rfl (fun hlt => hM id (by simp) hlt))
                      · simp at h
                    · simp at h
                · simp at h
      · simp at h
    · simp at h
  · simp at h
end Go.K
