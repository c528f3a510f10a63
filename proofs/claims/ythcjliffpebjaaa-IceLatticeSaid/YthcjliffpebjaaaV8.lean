/- What is to be shown is enough: code, rounds, calls. No condition. -/
import Derived.Test.YthcjliffpebjaaaV7
namespace Go.K
open Go
set_option linter.unusedVariables false
noncomputable section
variable {P : Program}

theorem KW.cond_const {ro : Option Nat} {N base : Nat} {M : List Nat} {T : Tm} {H : Heap} {Q : Exit → Tm → Heap → Prop} {x y : Code} {b : Bool} (h : KW P ro N base M (if b then x else y) T H Q) : KW P ro N base M (.cond (.const (.bool b)) x y) T H Q := by
  intro B ρ w a n0 h1 h2 h3 h4 h5
  exact wpIn_cond (t := b) rfl (h B ρ w a n0 h1 h2 h3 h4 h5)

section
variable {call : CallV} {app : AppV} {dm : Value → MS}

/-- How what follows is meant. -/
def Fin (K : Exit → Env → HT → Hint → Prop) : Exit → Tm → Heap → Prop := fun e T H => ∃ E2 H2 h2, T = E2.get ∧ H = H2.list ∧ K e E2 H2 h2

theorem vafter_spec {K : Exit → Env → HT → Hint → Prop} {E : Env} {H : HT} {h : Hint} {pe : Option Code} {st : LoopState} (hk : vafter K E H h pe st) :
    st ≠ .busy ∧ vafter1 K E H h pe := by
  cases st
  · exact ⟨(fun h => by cases h), hk⟩
  · exact hk.elim
  · exact ⟨(fun h => by cases h), hk⟩
  · exact ⟨(fun h => by cases h), hk⟩
theorem vloop_sound {ro : Option Nat} {N base : Nat} {M : List Nat} {b : Code} {body : Env → HT → Hint → (Exit → Env → HT → Hint → Prop) → Prop}
    (hb : ∀ {E : Env} {H : HT} {h : Hint} {K : Exit → Env → HT → Hint → Prop}, body E H h K → KW P ro N base M b E.get H.list (Fin K)) {K : Exit → Env → HT → Hint → Prop} {n : Nat} {E : Env} {H : HT} {h : Hint} (hv : vloop body K n E H h) :
    KW P ro N base M (.loop b) E.get H.list (Fin K) := by
  refine KW.loop (fun n T H' => ∃ E1 H1 h1, T = E1.get ∧ H' = H1.list ∧ vloop body K n E1 H1 h1) n ⟨E, H, h, rfl, rfl, hv⟩ ?_
  rintro n T1 H1 _ ⟨E1, H2, h1, rfl, rfl, hv⟩
  cases n with
  | zero => exact hv.elim
  | succ n =>
    refine (hb hv).mono ?_
    rintro e T3 H3 ⟨E4, H4, h4, rfl, rfl, hk⟩
    cases e with
    | normal => exact ⟨n, Nat.lt_succ_self n, E4, H4, h4, rfl, rfl, hk⟩
    | _ => exact ⟨E4, H4, h4, rfl, rfl, hk⟩

theorem vcode_sound (hcall : CallOkV P call) (happ : AppOkV P app) {ro : Option Nat} {N rounds : Nat} {inr mixed : Bool} (hro : inr = false → ro = none) (hmix : mixed = true → P.follows .mixedOrders = true) :
    ∀ {c : Code} {base : Nat} {M : MS} {E : Env} {H : HT} {h : Hint} {K : Exit → Env → HT → Hint → Prop}, codeOk N P.globals.size mixed c = true → vcode P call app dm N rounds inr c base M E H h K → KW P ro N base (M.list base) c E.get H.list (Fin K) := by
  intro c
  induction c with
  | region i ops draw =>
    intro base M E H h K hok hv
    simp only [codeOk, Bool.and_eq_true] at hok
    cases draw
    · simp only [vcode, cond_false] at hv
      have := KW.region (P := P) (ro := ro) (id := i) (l := ops.toList) (Q := Fin K) hok.1 (vops_sound happ hv)
      simpa using this
    · simp only [vcode, cond_true] at hv
      simp only [Bool.not_true, Bool.false_or, Bool.and_eq_true] at hok
      have := KW.draw (P := P) (ro := ro) (id := i) (l := ops.toList) (Q := Fin K) (hmix hok.2.1) hok.1 _ hok.2.2 (vopsL_sound happ hv)
      simpa using this
  | skip => intro base M E H h K hok hv; exact KW.skip ⟨E, H, h, rfl, rfl, hv⟩
  | label => intro base M E H h K hok hv; exact KW.label ⟨E, H, h, rfl, rfl, hv⟩
  | ret => intro base M E H h K hok hv; exact KW.ret ⟨E, H, h, rfl, rfl, hv⟩
  | exit => intro base M E H h K hok hv; exact KW.exit ⟨E, H, h, rfl, rfl, hv⟩
  | seq a b iha ihb =>
    intro base M E H h K hok hv
    simp only [codeOk, Bool.and_eq_true] at hok
    simp only [vcode] at hv
    refine KW.seq ((iha hok.1 hv).mono ?_)
    rintro e T H' ⟨E2, H2, h2, rfl, rfl, hk⟩
    cases e with
    | normal => exact ihb hok.2 hk
    | _ => exact ⟨E2, H2, h2, rfl, rfl, hk⟩
  | block i b ih =>
    intro base M E H h K hok hv
    simp only [codeOk] at hok
    simp only [vcode] at hv
    refine KW.block ((ih hok hv).mono ?_)
    rintro e T H' ⟨E2, H2, h2, rfl, rfl, hk⟩
    cases e with
    | exit id' =>
      simp only [inBlockK]
      cases hb : Nat.beq id' i with
      | true => simp only [hb, cond_true] at hk; rw [if_pos (Nat.eq_of_beq_eq_true hb)]; exact ⟨E2, H2, h2, rfl, rfl, hk⟩
      | false =>
        simp only [hb, cond_false] at hk
        rw [if_neg (fun he => by subst he; rw [Nat.beq_refl] at hb; cases hb)]
        exact ⟨E2, H2, h2, rfl, rfl, hk⟩
    | _ => exact ⟨E2, H2, h2, rfl, rfl, hk⟩
  | cond x a b iha ihb =>
    intro base M E H h K hok hv
    simp only [codeOk, Bool.and_eq_true] at hok
    cases x with
    | tmp t =>
      simp only [vcode] at hv
      have ht : t < N := by simpa using hok.1.1
      obtain ⟨E0, H0, h0, e1, e2, hv⟩ := vprep_sound hv
      rw [← e1, ← e2]
      split at hv <;> try (exact hv.elim)
      rename_i c hc
      refine KW.cond_split ht hc (fun hb => ?_) (fun hb => ?_)
      · subst hb
        split at hv
        · have := iha hok.1.2 (hv.1 rfl)
          rwa [Env.put_same E0 t _ hc] at this
        · split at hv <;> try (exact hv.elim)
          exact iha hok.1.2 hv
      · subst hb
        split at hv
        · have := ihb hok.2 (hv.2 rfl)
          rwa [Env.put_same E0 t _ hc] at this
        · split at hv <;> try (exact hv.elim)
          exact ihb hok.2 hv
    | const v =>
      cases v with
      | bool b =>
        refine KW.cond_const ?_
        cases b
        · exact ihb hok.2 hv
        · exact iha hok.1.2 hv
      | _ => simp [vcode] at hv
    | _ => simp [vcode] at hv
  | loop b ih =>
    intro base M E H h K hok hv
    simp only [codeOk] at hok
    simp only [vcode] at hv
    obtain ⟨E0, H0, h0, e1, e2, hv⟩ := vprep_sound hv
    rw [← e1, ← e2]
    split at hv
    · rename_i d α x0 σ0 ML slots chg new I μ hb
      obtain ⟨hw, hI0, hh0, hch, hround⟩ := hv
      refine KW.loopR (ML := ML) (fun id hid hbs => wokB_spec hw id hid hbs) (fun n T H' => ∃ x, I x ∧ μ x = n ∧ T = (headE (slots x)).get ∧ H' = (headH H0 (chg x) (new x)).list) ⟨μ x0, _, d, _, _, ⟨x0, hI0, rfl, rfl, rfl⟩, headOk_emb hh0⟩ ?_ ?_
      · rintro n T1 H1 ⟨x, hx, _, _, rfl⟩ id hid hm
        rw [HT.length] at hid
        have hc := chgIn_mem (hch x)
        have hlt : ∀ p ∈ chg x, p.1 < H0.n := fun p hp => (hc p hp).2
        rw [HT.list_get, HT.list_get]
        unfold headH
        rw [(new_get (new x) _ id).2.1 (by rw [(chg_get (chg x) H0 0 hlt).1]; exact hid)]
        rcases (chg_get (chg x) H0 id hlt).2 with ⟨p, p1, p2, _⟩ | ⟨_, q⟩
        · exact absurd (p2 ▸ (hc p p1).1) hm
        · exact q
      · rintro n T1 H1 hlen ⟨x, hx, hn, rfl, rfl⟩
        rw [HT.length]
        have := ih hok (hround x hx)
        refine this.mono ?_
        rintro e T H' ⟨E2, H2, h2, rfl, rfl, hk⟩
        cases e with
        | normal =>
          simp only [thenK]
          obtain ⟨E3, H3, h3, e3, e4, hk⟩ := vprep_sound hk
          rw [← e3, ← e4]
          cases h3 with
          | again σ =>
            obtain ⟨x', hx', hlt, hh⟩ := hk
            exact ⟨μ x', _, d, _, _, by omega, ⟨x', hx', rfl, rfl, rfl⟩, headOk_emb hh⟩
          | _ => exact hk.elim
        | _ => exact ⟨E2, H2, h2, rfl, rfl, hk⟩
    · exact vloop_sound (fun hv => ih hok hv) hv
  | rangeFunc g ps a b iha ihb =>
    intro base M E H h K hok hv
    cases g with
    | tmp t =>
      simp only [codeOk, Bool.and_eq_true] at hok
      have ht : t < N := by simpa using hok.1.1.1
      simp only [vcode] at hv
      obtain ⟨E0, H0, h0, e1, e2, hv⟩ := vprep_sound hv
      rw [← e1, ← e2]
      cases inr with
      | true => exact hv.elim
      | false =>
        rw [cond_false] at hv
        have hr := hro rfl
        subst hr
        split at hv <;> try (exact hv.elim)
        rename_i gf first cap hg
        split at hv <;> try (exact hv.elim)
        rename_i Mc h' hmc
        split at hv <;> try (exact hv.elim)
        rename_i hw
        simp only [Bool.and_eq_true] at hw
        obtain ⟨hw, hbn⟩ := hw
        have hc := hcall _ _ _ _ _ _ hv
        rw [HT.list_push] at hc
        refine KW.rangeFunc (Mc := MS.list (MS.also H0.n Mc) (H0.push (.loop .ready none E0.get N ps a b)).n) ht hg ?_ ?_
        · rw [HT.length]
          refine hc.mono (fun _ h _ => h) ?_
          rintro v H' ⟨H2, h2, rfl, hk⟩
          split at hk <;> try (exact hk.elim)
          rename_i st pe tm' N' ps' as' bd' hl
          rw [HT.list_get]
          obtain ⟨hne, hk⟩ := vafter_spec hk
          refine ⟨_, _, _, _, _, _, _, hl, hne, ?_⟩
          cases pe with
          | none => exact ⟨_, _, _, rfl, (HT.list_set ..).symm, hk⟩
          | some c =>
            simp only
            rw [← HT.list_set]
            cases c <;> simp only [vafter1, exitOf] at hk
            · exact KW.exit ⟨_, _, _, rfl, rfl, hk⟩
            · exact KW.ret ⟨_, _, _, rfl, rfl, hk⟩
        · intro id hid hb
          cases Mc with
          | none =>
            cases M with
            | none => exact List.mem_range.2 hb
            | some l => cases hw
          | some l =>
            have hid' : id ∈ (H0.n :: l) := hid
            rcases List.mem_cons.1 hid' with rfl | h1
            · have := Nat.le_of_ble_eq_true hbn; omega
            · exact wokC_spec (n := H0.n) (Mc := some l) hw id h1 hb
    | _ => simp [codeOk] at hok
  | _ => intro base M E H h K hok; simp [codeOk] at hok
end
end
end Go.K
