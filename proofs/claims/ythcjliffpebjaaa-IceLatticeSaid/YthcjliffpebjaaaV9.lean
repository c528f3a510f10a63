/- What is to be shown is enough: rounds and calls. No condition. -/
import Derived.Test.YthcjliffpebjaaaV8
namespace Go.K
open Go
set_option linter.unusedVariables false
noncomputable section
variable {P : Program}
section
variable {call : CallV} {app : AppV} {dm : Value → MS}

theorem vround_sound (hcall : CallOkV P call) (happ : AppOkV P app) {rounds : Nat} {mixed : Bool} (hmix : mixed = true → P.follows .mixedOrders = true) : YldOkV P (vround P call app dm rounds mixed) := by
  intro L args H M h K hv
  unfold vround at hv
  split at hv <;> try (exact hv.elim)
  rename_i pe tm N ps as bd hL
  split at hv <;> try (exact hv.elim)
  rename_i hc
  simp only [Bool.and_eq_true] at hc
  obtain ⟨c1, c2, c3, c4, c5⟩ := hc
  have hLM : L ∈ M.list H.n := by
    cases M with
    | none => exact List.mem_range.2 (blt_true c5)
    | some l => exact memB_spec c5
  refine KApp.yield (by rw [HT.list_get]; exact hL) (Nat.eq_of_beq_eq_true c1) (fun p hp => by rw [List.all_eq_true] at c2; simpa using c2 p hp) hLM (fun ro => ?_)
  rw [HT.length]
  refine (vcode_sound (ro := some ro) hcall happ (fun h => by cases h) hmix c3 hv).mono ?_
  rintro e T H' ⟨E1, H1, h1, rfl, rfl, hk⟩
  cases e with
  | normal =>
    simp only [thenK]
    simp only at hk
    split at hk <;> try (exact hk.elim)
    rename_i pe1 tm1 N1 ps1 as1 bd1 hL1
    refine ⟨_, _, _, _, _, _, by rw [HT.list_get]; exact hL1, ?_⟩
    rw [← HT.list_set]
    refine (vcode_sound (ro := some ro) hcall happ (fun h => by cases h) hmix c4 hk).mono ?_
    rintro e T H' ⟨E2', H2', h2', rfl, rfl, hk2⟩
    obtain ⟨E2, H2, h2, e3, e4, hk2⟩ := vprep_sound hk2
    rw [← e3, ← e4]
    split at hk2 <;> try (exact hk2.elim)
    rename_i j hj
    split at hk2 <;> try (exact hk2.elim)
    rename_i st2 pe2 tm2 N2 ps2 as2 bd2 hL2
    refine ⟨j, hj, _, _, _, _, _, _, _, by rw [HT.list_get]; exact hL2, _, h2, ?_, hk2⟩
    rw [HT.list_set]
    congr 2
    cases j.isNone <;> rfl
  | _ => exact hk.elim

theorem kresT_sound {rs : List ResultVar} {T : Tm} {H : HT} {v : Value} (h : kresT P rs T H = some v) : kres P rs T H.list = some v := by
  have one : ∀ r, kresvT P T H r = kresv P T H.list r := by
    intro r
    cases r with
    | tmp t => rfl
    | cell a ty => simp only [kresvT, kresv, kloadT_eq]
  unfold kresT at h
  split at h
  · rw [one] at h; exact h
  · split at h <;> try (cases h; done)
    rename_i v1 v2 h1 h2
    rw [one] at h1 h2
    cases h
    simp [kres, h1, h2]
  · split at h <;> try (cases h; done)
    rename_i v1 v2 v3 h1 h2 h3
    rw [one] at h1 h2 h3
    cases h
    simp [kres, h1, h2, h3]
  · cases h; simp [kres]
  · cases h

theorem vtrim_cases {n : Nat} {M : MS} {v : Value} {H' : HT} {h : Hint} {K : KV} (hv : vtrim n M v H' h K) :
    (∃ (H2 : HT) (h2 : Hint), H'.list = H2.list ∧ K v H2 h2) ∨ (belowV n v = true ∧ (∃ l, M = some l ∧ ∀ id ∈ l, ∀ o, H'.list[id]? = some o → belowO n o = true) ∧ ∃ (H2 : HT) (h2 : Hint), H2.list = H'.list ∧ K v (H2.take n) h2) := by
  unfold vtrim at hv
  split at hv
  · exact .inl ⟨H', _, rfl, hv⟩
  · cases M with
    | none => exact .inl ⟨H', _, rfl, hv⟩
    | some l =>
      simp only at hv
      split at hv
      · rename_i hc
        simp only [Bool.and_eq_true, List.all_eq_true] at hc
        refine .inr ⟨hc.1, ⟨l, rfl, fun id hid o ho => ?_⟩, H', _, rfl, hv⟩
        have := hc.2 id hid
        rw [← HT.list_get, ho] at this
        exact this
      · exact .inl ⟨H', _, rfl, hv⟩

/-- A set of functions whose texts are as they must be. -/
def MaskOk (P : Program) (mixed : Bool) (mask : Nat) : Prop := ∀ f, Nat.testBit mask f = true → fnOk P mixed f = true

theorem vbody_sound {mask : Nat} {mixed : Bool} (hmask : MaskOk P mixed mask) (hcall : CallOkV P call) (happ : AppOkV P app) {rounds : Nat} (hmix : mixed = true → P.follows .mixedOrders = true) : CallOkV P (vbody P mask call app dm rounds) := by
  intro f args H M h K hv
  unfold vbody at hv
  split at hv <;> try (exact hv.elim)
  rename_i hm
  have hfn := hmask f hm
  split at hv <;> try (exact hv.elim)
  rename_i fn hf
  split at hv <;> try (exact hv.elim)
  rename_i c hb
  split at hv <;> try (exact hv.elim)
  rename_i hargs
  unfold fnOk at hfn
  rw [hf] at hfn
  simp only [hb, Bool.and_eq_true, Bool.not_eq_true'] at hfn
  obtain ⟨c1, c2, c3⟩ := hfn
  have key : KCall P f args H.list (M.list H.n) (fun v H' => ∃ H2 h2, H' = H2.list ∧ vtrim H.n M v H2 h2 K) := by
    refine KCall.enter hf c1 hb fn.ntmps rfl (Nat.le_of_ble_eq_true hargs) _ rfl c2 ?_
    rw [HT.length]
    refine (vcode_sound (ro := none) hcall happ (fun _ => rfl) hmix c3 hv).mono ?_
    rintro e T H' ⟨E2, H2, h2, rfl, rfl, hk⟩
    cases e with
    | normal =>
      simp only at hk
      obtain ⟨E3, H3, h3, e3, e4, hk⟩ := vprep_sound hk
      rw [← e3, ← e4]
      split at hk <;> try (exact hk.elim)
      rename_i v hr
      exact ⟨.inl rfl, v, kresT_sound hr, H3, h3, rfl, hk⟩
    | ret =>
      simp only at hk
      obtain ⟨E3, H3, h3, e3, e4, hk⟩ := vprep_sound hk
      rw [← e3, ← e4]
      split at hk <;> try (exact hk.elim)
      rename_i v hr
      exact ⟨.inr rfl, v, kresT_sound hr, H3, h3, rfl, hk⟩
    | _ => exact hk.elim
  refine key.trim2 ?_
  rintro v H' hlen _ ⟨H2, h2, rfl, hk⟩
  rcases vtrim_cases hk with ⟨H3, h3, e, hk⟩ | ⟨hb, ⟨l, rfl, ho⟩, H3, h3, e, hk⟩
  · exact .inl ⟨H3, h3, e, hk⟩
  · refine .inr ⟨(by rw [HT.length]; exact hb), (fun id hid o _ h => (by rw [HT.length]; exact ho id hid o h)), H3.take H.n, h3, ?_, hk⟩
    rw [HT.list_take _ _ (by rw [HT.n_eq e]; rw [HT.length, HT.length] at hlen; exact hlen), e, HT.length]

theorem vapp_sound {yld : Nat → List Value → HT → MS → Hint → KV → Prop} (hcall : CallOkV P call) (hy : YldOkV P yld) : AppOkV P (vapp call yld) := by
  intro fv args H M h K hv
  unfold vapp at hv
  split at hv
  · exact KApp.func (hcall _ _ _ _ _ _ hv)
  · exact hy _ _ _ _ _ _ hv
  · exact hv.elim
end

theorem vF_sound {mask : Nat} {dm : Value → MS} {rounds : Nat} {mixed : Bool} (hmask : MaskOk P mixed mask) (hmix : mixed = true → P.follows .mixedOrders = true) :
    ∀ n, CallOkV P (vF P mask dm rounds mixed n true) ∧ YldOkV P (vF P mask dm rounds mixed n false) := by
  intro n
  induction n with
  | zero => exact ⟨fun f args H M h K hv => hv.elim, fun L args H M h K hv => hv.elim⟩
  | succ n ih =>
    refine ⟨fun f args H M h K hv => ?_, fun L args H M h K hv => ?_⟩
    · exact vbody_sound hmask ih.1 (vapp_sound ih.1 ih.2) hmix _ _ _ _ _ _ hv
    · exact vround_sound ih.1 (vapp_sound ih.1 ih.2) hmix _ _ _ _ _ _ hv

/-- A contract out of what is to be shown. -/
theorem vc {mask : Nat} {dm : Value → MS} {rounds : Nat} {mixed : Bool} (hmask : MaskOk P mixed mask) (hmix : mixed = true → P.follows .mixedOrders = true) (n : Nat) {f : FuncId} {args : List Value} {H : HT} {M : MS} {h : Hint} {Q : Value → Heap → Prop}
    (hv : vF P mask dm rounds mixed n true f args H M h (fun v H' _ => Q v H'.list)) : KCall P f args H.list (M.list H.n) Q :=
  ((vF_sound hmask hmix n).1 f args H M h _ hv).post fun v H' ⟨H2, h2, e, hq⟩ => by subst e; exact hq
end
end Go.K
