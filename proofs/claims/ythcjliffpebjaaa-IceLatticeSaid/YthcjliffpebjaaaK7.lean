/- Pure operations together, continued. No condition. -/
import Derived.Test.YthcjliffpebjaaaK6
namespace Go.K
open Go
set_option linter.unusedVariables false
variable {P : Program} {w : World} {ρ : Ren} {H : Heap}

theorem kun_sim {op : UnOp} {x x' v : Value} (h : kun op x = some v) (hx : VR ρ x x') (w : World) : (Op.unary op x').run P w = .ok v w ∧ VR ρ v v := by
  unfold kun at h
  split at h
  · cases hx; cases h; exact ⟨rfl, .int _ _⟩
  · cases hx; cases h; exact ⟨rfl, .bool _⟩
  · cases hx; cases h; exact ⟨rfl, .int _ _⟩
  · simp at h
theorem kconv_sim {s d : TypeId} {x x' v : Value} (h : kconv P s d x = some v) (hx : VR ρ x x') (w : World) : (convert s d x').run P w = .ok v w ∧ VR ρ v v := by
  unfold kconv at h
  split at h
  · rename_i k _ n hs hd
    cases hx; cases h
    refine ⟨?_, .int _ _⟩
    simp only [convert, Sem.run_bind, run_und hs, run_und hd, Result.andThen_ok]
    simp [Conv.intToInt]
  · simp at h
theorem kfold_sim (mx : Bool) : ∀ {rest rest' : List Value} {x x' v : Value},
    rest.foldlM (fun a b => match a, b with
      | .int k x, .int _ y => some (.int k (if mx then (if y > x then y else x) else (if y < x then y else x)))
      | _, _ => none) x = some v → VR ρ x x' → VRl ρ rest rest' → ∀ w, ∃ v', (rest'.foldlM (if mx then Builtin.max2 else Builtin.min2) x').run P w = .ok v' w ∧ VR ρ v v' := by
  intro rest
  induction rest with
  | nil =>
    intro rest' x x' v h hx hl w
    obtain rfl : rest' = [] := by have := hl.1; simpa using this.symm
    simp at h; subst h
    exact ⟨x', rfl, hx⟩
  | cons y ys ih =>
    intro rest' x x' v h hx hl w
    cases rest' with
    | nil => have := hl.1; simp at this
    | cons y' ys' =>
      have hy : VR ρ y y' := hl.2 0 _ _ rfl rfl
      have ht : VRl ρ ys ys' := ⟨by have := hl.1; simpa using this, fun i a b p q => hl.2 (i + 1) a b (by simpa using p) (by simpa using q)⟩
      rw [List.foldlM_cons] at h
      simp only [Option.bind_eq_bind, Option.bind_eq_some_iff] at h
      obtain ⟨u, hu, h⟩ := h
      split at hu
      · rename_i k a k2 c
        cases hx; cases hy
        cases hu
        obtain ⟨v', h1, h2⟩ := ih h (.int _ _) ht w
        refine ⟨v', ?_, h2⟩
        rw [List.foldlM_cons]
        cases mx <;> simpa [Builtin.max2, Builtin.min2] using h1
      · simp at hu
theorem kminmax_sim (mx : Bool) {l l' : List Value} {v : Value} (h : kminmax mx l = some v) (hl : VRl ρ l l') (ts : Array TypeId) (t : TypeId) (w : World) :
    ∃ v', ((if mx then Builtin.max_ ts t ⟨l'⟩ else Builtin.min_ ts t ⟨l'⟩)).run P w = .ok v' w ∧ VR ρ v v' := by
  cases l with
  | nil => simp [kminmax] at h
  | cons x rest =>
    cases l' with
    | nil => have := hl.1; simp at this
    | cons x' rest' =>
      have hx : VR ρ x x' := hl.2 0 _ _ rfl rfl
      have ht : VRl ρ rest rest' := ⟨by have := hl.1; simpa using this, fun i a b p q => hl.2 (i + 1) a b (by simpa using p) (by simpa using q)⟩
      obtain ⟨v', h1, h2⟩ := kfold_sim mx h hx ht w
      refine ⟨v', ?_, h2⟩
      cases mx <;> simpa [Builtin.max_, Builtin.min_] using h1

theorem run_fieldPlace {fd : Field} {n : Nat} (h : ksize P fd.type = some (n + 1)) (b off : Nat) (w : World) : (fieldPlace ⟨b, off, none⟩ fd).run P w = .ok ⟨b, off + fd.offset, none⟩ w := by
  simp [fieldPlace, run_size h, addr_add]
theorem kfieldAddr_sim {s : TypeId} {x x' v : Value} {f : Nat} (h : kfieldAddr P s x f = some v) (hx : VR ρ x x') (w : World) : ∃ v', (Instr.fieldAt s x' f).run P w = .ok v' w ∧ VR ρ v v' := by
  unfold kfieldAddr at h
  split at h
  · rename_i fs id off hu
    split at h
    · rename_i fd hf
      split at h
      · rename_i n hn
        cases h
        cases hx with
        | ptr hr =>
          refine ⟨_, ?_, by have := VR.ptr (o := off + fd.offset) hr; rw [show off + fd.offset + _ = off + _ + fd.offset from Nat.add_right_comm _ _ _] at this; exact this⟩
          simp [Instr.fieldAt, run_und hu, hf, Instr.sureAddr, run_fieldPlace hn]
      · simp at h
    · simp at h
  · simp at h
theorem kfield_sim {t : TypeId} {x x' v : Value} {f : Nat} (h : kfield P t x f = some v) (hx : VR ρ x x') (w : World) : ∃ v', (Instr.field t x' f).run P w = .ok v' w ∧ VR ρ v v' := by
  unfold kfield at h
  split at h
  · rename_i fs cs hu
    split at h
    · rename_i fd hf
      cases hx with
      | agg h1 h2 =>
        obtain ⟨v', h3, h4⟩ := run_part (P := P) h (VR.agg_inv (.agg h1 h2)) w
        exact ⟨v', by simp [Instr.field, run_und hu, hf, asAgg, h3], h4⟩
    · simp at h
  · simp at h
theorem kindexAddr_sim {t : TypeId} {x i x' i' v : Value} (h : kindexAddr P t x i = some v) (hx : VR ρ x x') (hi : VR ρ i i') (w : World) : ∃ v', (Instr.indexAt t x' i').run P w = .ok v' w ∧ VR ρ v v' := by
  unfold kindexAddr at h
  split at h
  · rename_i e id off len cap k i hu
    cases hn : ksize P e with
    | none => simp [hn] at h
    | some n =>
      simp only [hn] at h
      split at h
      · rename_i hb
        cases h
        cases hi
        cases hx with
        | slice hr hl hc ho =>
          refine ⟨_, ?_, by have := VR.ptr (o := off + i.toNat * n) hr; rw [show off + i.toNat * n + _ = off + _ + i.toNat * n from Nat.add_right_comm _ _ _] at this; exact this⟩
          simp [Instr.indexAt, run_und hu, asIntOf, hb, run_size hn, addr_add]
        | slice0 hr => omega
      · simp at h
  · rename_i len e id off k i hu
    cases hn : ksize P e with
    | none => simp [hn] at h
    | some n =>
      simp only [hn] at h
      split at h
      · rename_i hb
        cases h
        cases hi
        cases hx with
        | ptr hr =>
          refine ⟨_, ?_, by have := VR.ptr (o := off + i.toNat * n) hr; rw [show off + i.toNat * n + _ = off + _ + i.toNat * n from Nat.add_right_comm _ _ _] at this; exact this⟩
          simp [Instr.indexAt, run_und hu, asIntOf, hb, run_size hn, addr_add, Instr.sureAddr]
      · simp at h
  · simp at h
theorem kindex_sim {t : TypeId} {x i x' i' v : Value} (h : kindex P t x i = some v) (hx : VR ρ x x') (hi : VR ρ i i') (w : World) : ∃ v', (Instr.index t x' i').run P w = .ok v' w ∧ VR ρ v v' := by
  unfold kindex at h
  split at h
  · rename_i len e cs k i hu
    cases hn : ksize P e with
    | none => simp [hn] at h
    | some n =>
      simp only [hn] at h
      split at h
      · rename_i hb
        cases hi
        cases hx with
        | agg h1 h2 =>
          obtain ⟨v', h3, h4⟩ := run_part (P := P) h (VR.agg_inv (.agg h1 h2)) w
          exact ⟨v', by simp [Instr.index, run_und hu, asIntOf, hb, run_size hn, h3], h4⟩
      · simp at h
  · rename_i s k i hu
    split at h
    · rename_i h0
      obtain ⟨b, hb, rfl⟩ := Option.map_eq_some_iff.1 h
      cases hi
      cases hx
      exact ⟨_, by simp [Instr.index, run_und hu, asIntOf, h0, hb], .int _ _⟩
    · simp at h
  · simp at h
theorem kbound_sim {v v' : Option Value} {d m m' r : Nat} {code : BoundsCode} (h : kbound v d m = some r) (hv : ∀ x, v = some x → ∃ x', v' = some x' ∧ VR ρ x x') (hn : v = none → v' = none) (hm : m ≤ m') (w : World) :
    ((match v' with | some v => Instr.sliceBound v m' code | none => pure d) : Sem Nat).run P w = .ok r w ∧ (v = none → r = d) ∧ (v ≠ none → r ≤ m) := by
  unfold kbound at h
  split at h
  · cases h
    obtain rfl : v' = none := hn rfl
    exact ⟨rfl, fun _ => rfl, fun h => absurd rfl h⟩
  · rename_i k i
    split at h
    · rename_i hb
      cases h
      obtain ⟨x', rfl, hx⟩ := hv _ rfl
      cases hx
      refine ⟨?_, fun h => by simp at h, fun _ => by omega⟩
      simp only [Instr.sliceBound, asIntOf, Sem.run_bind, Sem.run_pure, Result.andThen_ok]
      rw [if_pos (by omega)]; rfl
    · simp at h
  · simp at h
theorem kslice_sim {t : TypeId} {x x' v : Value} {lo hi lo' hi' : Option Value} {rd : Option Nat} (h : kslice P t x lo hi H = some (v, rd)) (hx : VR ρ x x')
    (hlo : ∀ x, lo = some x → ∃ x', lo' = some x' ∧ VR ρ x x') (hlon : lo = none → lo' = none) (hhi : ∀ x, hi = some x → ∃ x', hi' = some x' ∧ VR ρ x x') (hhin : hi = none → hi' = none)
    (ho : ∀ id, rd = some id → ObjAt ρ H w id) : ∃ v', (Instr.sliceAt t x' lo' hi' none).run P w = .ok v' w ∧ VR ρ v v' := by
  unfold kslice at h
  split at h
  · rename_i e a len cap hu
    cases hn : ksize P e with
    | none => simp [hn] at h
    | some n =>
      cases hh : kbound hi len cap with
      | none => simp [hn, hh] at h
      | some h' =>
        cases hl : kbound lo 0 h' with
        | none => simp [hn, hh, hl] at h
        | some l =>
          simp only [hn, hh, hl] at h
          have run : ∀ (a' : Option Addr) (cap' : Nat), cap ≤ cap' → (Instr.sliceAt t (.slice a' len cap') lo' hi' none).run P w =
              .ok (.slice (if cap' = l then a' else a'.map (·.add (l * n))) (h' - l) (cap' - l)) w := by
            intro a' cap' hc
            have h1 := (kbound_sim (P := P) (code := .sliceAcap) hh hhi hhin hc w).1
            have h2 := (kbound_sim (P := P) (code := .sliceB) hl hlo hlon (Nat.le_refl _) w).1
            simp only [Instr.sliceAt, Instr.slice, run_und hu, Sem.run_bind, Result.andThen_ok]
            have hbs : (Instr.sliceBounds true len cap' lo' hi' none).run P w = .ok (l, h', cap') w := by
              unfold Instr.sliceBounds
              simp only [Sem.run_bind, Sem.run_pure, Result.andThen_ok]
              cases hi' <;> cases lo' <;> simp_all [Sem.run_bind]
            simp [hbs, run_size hn]
          have hll : l ≤ h' := by
            rcases (kbound_sim (P := P) (code := .sliceB) hl hlo hlon (Nat.le_refl _) w) with ⟨_, h2, h3⟩
            cases lo with
            | none => have := h2 rfl; omega
            | some _ => exact h3 (by simp)
          have hhc : len ≤ cap → h' ≤ cap := by
            intro hlc
            rcases (kbound_sim (P := P) (code := .sliceAcap) hh hhi hhin (Nat.le_refl _) w) with ⟨_, h2, h3⟩
            cases hi with
            | none => have := h2 rfl; omega
            | some _ => exact h3 (by simp)
          split at h
          · cases hx
            have := hhc (Nat.le_refl _)
            obtain rfl : h' = 0 := by omega
            obtain rfl : l = 0 := by omega
            cases h
            exact ⟨_, run none 0 (Nat.le_refl _), by simpa using VR.sliceNil⟩
          · rename_i id off
            split at h
            · rename_i own z cs hid
              split at h
              · rename_i hz
                cases h
                cases hx with
                | @slice _ _ r _ _ cap' hr hlc hc hroom =>
                  obtain ⟨e1, e2, _⟩ := ho id rfl r _ hr hid
                  have hh2 := hhc hlc
                  refine ⟨_, run _ cap' hc, ?_⟩
                  by_cases hcl : cap' = l
                  · obtain rfl : cap = l := by omega
                    rw [if_pos hcl, show h' - cap = 0 by omega, show cap - cap = 0 by omega, show cap' - cap = 0 by omega]
                    exact .slice0 hr
                  · rw [if_neg hcl]
                    simp only [Option.map_some, addr_add]
                    rw [show off + r.s + l * n = off + l * n + r.s from Nat.add_right_comm _ _ _]
                    refine .slice hr (by omega) (by omega) (fun hown hz0 => ?_)
                    have := hroom hown hz0
                    have hzn : r.z = n := by
                      rcases hz with h1 | h1 | h1
                      · rw [e1, hown] at h1; simp at h1
                      · rw [e2] at h1; exact absurd h1 hz0
                      · rw [← e2]; exact h1
                    rw [hzn] at this ⊢
                    have : (cap' - l) * n + l * n = cap' * n := by rw [← Nat.add_mul]; congr 1; omega
                    omega
                | slice0 hr =>
                  have hh2 := hhc (Nat.le_refl _)
                  obtain rfl : h' = 0 := by omega
                  obtain rfl : l = 0 := by omega
                  exact ⟨_, run _ 0 (Nat.le_refl _), by simpa using VR.slice0 hr⟩
              · simp at h
            · simp at h
          · simp at h
  · simp at h
theorem klen_sim {t : TypeId} {x x' v : Value} {rd : Option Nat} (h : klen P t x H = some (v, rd)) (hx : VR ρ x x') (ho : ∀ id, rd = some id → ObjAt ρ H w id) (ts : List TypeId) (ty : TypeId) :
    ∃ v', (Builtin.len_ ⟨t :: ts⟩ ty #[x']).run P w = .ok v' w ∧ VR ρ v v' := by
  unfold klen at h
  split at h
  · rename_i hu; cases h
    cases hx <;> exact ⟨_, by simp [Builtin.len_, run_und hu, goInt], .int _ _⟩
  · rename_i hu; cases h; cases hx; exact ⟨_, by simp [Builtin.len_, run_und hu, goInt], .int _ _⟩
  · rename_i hu; cases h; exact ⟨_, by simp [Builtin.len_, run_und hu, goInt], .int _ _⟩
  · rename_i hu; cases h; cases hx; exact ⟨_, by simp [Builtin.len_, run_und hu, goInt], .int _ _⟩
  · rename_i id hu
    split at h
    · rename_i es hid
      cases h
      cases hx with
      | @map _ r hr =>
        obtain ⟨_, es', clock, hb, hlen, _⟩ := ho id rfl _ _ hr hid
        refine ⟨.int .i64 es'.size, ?_, by rw [hlen]; exact .int _ _⟩
        have : (getObj r.b).run P w = .ok (.map es' clock) w := by simp only [getObj, Sem.run, hb]
        simp [Builtin.len_, run_und hu, goInt, this]
    · simp at h
  · simp at h
end Go.K
