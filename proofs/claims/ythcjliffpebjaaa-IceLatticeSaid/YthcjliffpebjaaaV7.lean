/- What is to be shown is enough: loops by their invariants. No condition. -/
import Derived.Test.YthcjliffpebjaaaV6
namespace Go.K
open Go
set_option linter.unusedVariables false
noncomputable section
variable {P : Program}

theorem blt_true {a b : Nat} (h : Nat.blt a b = true) : a < b := by rw [Nat.blt_eq] at h; exact h
theorem blt_of {a b : Nat} (h : a < b) : Nat.blt a b = true := by rw [Nat.blt_eq]; exact h
theorem blt_false {a b : Nat} (h : Nat.blt a b = false) : b ≤ a := by
  rcases Nat.lt_or_ge a b with h1 | h1
  · rw [blt_of h1] at h; cases h
  · exact h1
theorem blt_of_not {a b : Nat} (h : b ≤ a) : Nat.blt a b = false := by
  cases hb : Nat.blt a b with
  | false => rfl
  | true => have := blt_true hb; omega
theorem headE_get (l : List (Nat × Value)) (t : Nat) : (headE l).get t = junk ∨ ∃ v, (t, v) ∈ l ∧ (headE l).get t = v := by
  have key : ∀ (l : List (Nat × Value)) (E : Env), (l.foldl (fun E p => E.put (some p.1) p.2) E).get t = E.get t ∨ ∃ v, (t, v) ∈ l ∧ (l.foldl (fun E p => E.put (some p.1) p.2) E).get t = v := by
    intro l
    induction l with
    | nil => intro E; exact .inl rfl
    | cons p l ih =>
      intro E
      rcases ih (E.put (some p.1) p.2) with h | ⟨v, h1, h2⟩
      · rw [List.foldl_cons, h, Env.get_put]
        simp only [put, upd]
        by_cases e : t = p.1
        · right; subst e; exact ⟨p.2, List.mem_cons_self .., by simp⟩
        · left; simp [e]
      · right; exact ⟨v, List.mem_cons_of_mem _ h1, h2⟩
  rcases key l ⟨fun _ => junk, .leaf⟩ with h | h
  · left; unfold headE; rw [h]; rfl
  · right; exact h
theorem slotsOk_mem {E : Env} {σ : Nat → Option Nat} {d : Nat} : ∀ {l : List (Nat × Value)}, slotsOk E σ d l → ∀ t v, (t, v) ∈ l → E.get t = rn σ d v
  | [], _, t, v, h => by cases h
  | (t', v') :: r, h, t, v, hm => by
    rcases List.mem_cons.1 hm with e | hm
    · cases e; exact h.1
    · exact slotsOk_mem h.2 t v hm
theorem chg_get : ∀ (chg : List (Nat × Bool × KObj)) (H : HT) (id : Nat), (∀ p ∈ chg, p.1 < H.n) →
    (chg.foldl (fun H p => H.set p.1 p.2.2) H).n = H.n ∧ ((∃ p ∈ chg, p.1 = id ∧ (chg.foldl (fun H p => H.set p.1 p.2.2) H).get id = some p.2.2) ∨ ((∀ p ∈ chg, p.1 ≠ id) ∧ (chg.foldl (fun H p => H.set p.1 p.2.2) H).get id = H.get id)) := by
  intro chg
  induction chg with
  | nil => intro H id _; exact ⟨rfl, .inr ⟨fun _ h => (by cases h), rfl⟩⟩
  | cons p chg ih =>
    intro H id hlt
    obtain ⟨h1, h2⟩ := ih (H.set p.1 p.2.2) id (fun q hq => hlt q (List.mem_cons_of_mem _ hq))
    refine ⟨h1, ?_⟩
    rcases h2 with ⟨q, q1, q2, q3⟩ | ⟨q1, q2⟩
    · exact .inl ⟨q, List.mem_cons_of_mem _ q1, q2, q3⟩
    · rw [List.foldl_cons, q2, ← HT.list_get, HT.list_set, List.getElem?_set]
      by_cases e : p.1 = id
      · left
        refine ⟨p, List.mem_cons_self .., e, ?_⟩
        rw [if_pos e, if_pos (by rw [HT.length]; exact e ▸ hlt p (List.mem_cons_self ..))]
      · right
        rw [if_neg e, HT.list_get]
        exact ⟨fun q hq => by rcases List.mem_cons.1 hq with rfl | hq; exact e; exact q1 q hq, rfl⟩
theorem new_get : ∀ (new : List (Bool × KObj)) (H : HT) (id : Nat),
    (new.foldl (fun H p => H.push p.2) H).n = H.n + new.length ∧ (id < H.n → (new.foldl (fun H p => H.push p.2) H).get id = H.get id) ∧
    (∀ o, H.n ≤ id → (new.foldl (fun H p => H.push p.2) H).get id = some o → ∃ p, new[id - H.n]? = some p ∧ p.2 = o) := by
  intro new
  induction new with
  | nil =>
    intro H id
    refine ⟨rfl, fun _ => rfl, fun o h1 h2 => ?_⟩
    have h2' : H.get id = some o := h2
    rw [← HT.list_get, List.getElem?_eq_none (by rw [HT.length]; exact h1)] at h2'
    cases h2'
  | cons p new ih =>
    intro H id
    obtain ⟨h1, h2, h3⟩ := ih (H.push p.2) id
    have hpn : (H.push p.2).n = H.n + 1 := rfl
    have hget : ∀ i, i ≤ H.n → (H.push p.2).get i = if i = H.n then some p.2 else H.get i := by
      intro i hi
      rw [← HT.list_get, HT.list_push, ← HT.list_get]
      by_cases e : i = H.n
      · rw [if_pos e, List.getElem?_append_right (by rw [HT.length]; omega), HT.length, e]; simp
      · rw [if_neg e, List.getElem?_append_left (by rw [HT.length]; omega)]
    refine ⟨by rw [List.foldl_cons, h1, hpn, List.length_cons]; omega, fun hlt => ?_, fun o hge ho => ?_⟩
    · rw [List.foldl_cons, h2 (by rw [hpn]; omega), hget id (by omega), if_neg (by omega)]
    · rw [List.foldl_cons] at ho
      by_cases e : id = H.n
      · rw [h2 (by rw [hpn]; omega), hget id (by omega), if_pos e] at ho
        cases ho
        exact ⟨p, by rw [e]; simp, rfl⟩
      · obtain ⟨q, q1, q2⟩ := h3 o (by rw [hpn]; omega) ho
        refine ⟨q, ?_, q2⟩
        rw [hpn] at q1
        have : id - H.n = (id - (H.n + 1)) + 1 := by omega
        rw [this, List.getElem?_cons_succ]; exact q1
theorem chgIn_mem {n0 : Nat} {ML : List Nat} : ∀ {chg : List (Nat × Bool × KObj)}, chgIn n0 ML chg = true → ∀ p ∈ chg, p.1 ∈ ML ∧ p.1 < n0
  | [], _, p, h => by cases h
  | q :: r, h, p, hm => by
    unfold chgIn at h
    cases h1 : memB q.1 ML with
    | false => rw [h1] at h; cases h
    | true =>
      rw [h1, cond_true] at h
      cases h2 : Nat.blt q.1 n0 with
      | false => rw [h2] at h; cases h
      | true =>
        rw [h2, cond_true] at h
        rcases List.mem_cons.1 hm with rfl | hm
        · exact ⟨memB_spec h1, blt_true h2⟩
        · exact chgIn_mem h p hm
theorem allIn_mem {chg : List (Nat × Bool × KObj)} : ∀ {ML : List Nat}, allIn chg ML = true → ∀ id ∈ ML, ∃ p ∈ chg, p.1 = id
  | [], _, id, h => by cases h
  | i :: r, h, id, hm => by
    unfold allIn at h
    cases h1 : (chg.any fun p => Nat.beq p.1 i) with
    | false => rw [h1] at h; cases h
    | true =>
      rw [h1, cond_true] at h
      rcases List.mem_cons.1 hm with rfl | hm
      · rw [List.any_eq_true] at h1
        obtain ⟨p, p1, p2⟩ := h1
        exact ⟨p, p1, Nat.eq_of_beq_eq_true p2⟩
      · exact allIn_mem h id hm
theorem lookN_mem {id b : Nat} : ∀ {σ : List (Nat × Nat)}, lookN id σ = some b → (id, b) ∈ σ
  | [], h => by cases h
  | (x, y) :: r, h => by
    unfold lookN at h
    cases h1 : Nat.beq id x with
    | true => rw [h1, cond_true] at h; cases h; rw [Nat.eq_of_beq_eq_true h1]; exact List.mem_cons_self ..
    | false => rw [h1, cond_false] at h; exact List.mem_cons_of_mem _ (lookN_mem h)
theorem notIn_spec {k : Nat × Nat} : ∀ {σ : List (Nat × Nat)}, notIn k σ = true → ∀ q ∈ σ, k.1 ≠ q.1 ∧ k.2 ≠ q.2
  | [], _, q, h => by cases h
  | p :: r, h, q, hm => by
    unfold notIn at h
    cases h1 : Nat.beq k.1 p.1 with
    | true => rw [h1] at h; cases h
    | false =>
      rw [h1, cond_false] at h
      cases h2 : Nat.beq k.2 p.2 with
      | true => rw [h2] at h; cases h
      | false =>
        rw [h2, cond_false] at h
        rcases List.mem_cons.1 hm with rfl | hm
        · exact ⟨fun e => (by rw [e, Nat.beq_refl] at h1; cases h1), fun e => (by rw [e, Nat.beq_refl] at h2; cases h2)⟩
        · exact notIn_spec h q hm
theorem sgOk_spec {n0 n : Nat} : ∀ {σ : List (Nat × Nat)}, sgOk n0 n σ = true → (∀ p ∈ σ, n0 ≤ p.1 ∧ p.1 < n ∧ n0 ≤ p.2) ∧ (∀ p ∈ σ, ∀ q ∈ σ, p.2 = q.2 → p.1 = q.1)
  | [], _ => ⟨fun _ h => (by cases h), fun _ h => (by cases h)⟩
  | p :: r, h => by
    unfold sgOk at h
    cases h1 : Nat.ble n0 p.1 with
    | false => rw [h1] at h; cases h
    | true =>
    rw [h1, cond_true] at h
    cases h2 : Nat.blt p.1 n with
    | false => rw [h2] at h; cases h
    | true =>
    rw [h2, cond_true] at h
    cases h3 : Nat.ble n0 p.2 with
    | false => rw [h3] at h; cases h
    | true =>
    rw [h3, cond_true] at h
    cases h4 : notIn p r with
    | false => rw [h4] at h; cases h
    | true =>
    rw [h4, cond_true] at h
    obtain ⟨k1, k2⟩ := sgOk_spec h
    have hn := notIn_spec h4
    refine ⟨fun q hq => ?_, fun a ha b hb e => ?_⟩
    · rcases List.mem_cons.1 hq with rfl | hq
      · exact ⟨Nat.le_of_ble_eq_true h1, blt_true h2, Nat.le_of_ble_eq_true h3⟩
      · exact k1 q hq
    · rcases List.mem_cons.1 ha with ea | ha'
      · rcases List.mem_cons.1 hb with eb | hb'
        · rw [ea, eb]
        · exact absurd (by rw [← ea]; exact e) (hn b hb').2
      · rcases List.mem_cons.1 hb with eb | hb'
        · exact absurd (by rw [← eb]; exact e.symm) (hn a ha').2
        · exact k2 a ha' b hb' e
theorem chgOk_mem {H : HT} {n0 d : Nat} {σ : Nat → Option Nat} : ∀ {chg : List (Nat × Bool × KObj)}, chgOk H n0 σ d chg → ∀ p ∈ chg, objOk H n0 σ d p.1 p.2.1 p.2.2
  | [], _, p, h => by cases h
  | (id, pl, o) :: r, h, p, hm => by
    rcases List.mem_cons.1 hm with rfl | hm
    · exact h.1
    · exact chgOk_mem h.2 p hm
theorem newOk_mem {H : HT} {n0 d : Nat} {σ : Nat → Option Nat} : ∀ {new : List (Bool × KObj)} {id : Nat}, newOk H n0 σ d id new → ∀ i p, new[i]? = some p → objOk H n0 σ d (id + i) p.1 p.2
  | [], _, _, i, p, h => by simp at h
  | (pl, o) :: r, id, h, i, p, hm => by
    cases i with
    | zero => simp at hm; subst hm; exact h.1
    | succ i =>
      have := newOk_mem h.2 i p (by simpa using hm)
      have e : Nat.succ id + i = id + (i + 1) := by omega
      rw [e] at this; exact this
theorem objOk_spec {H : HT} {n0 d : Nat} {σ : Nat → Option Nat} {id id' : Nat} {pl : Bool} {o : KObj} (h : objOk H n0 σ d id pl o) (hs : σ id = some id') :
    o = .dead ∨ (∃ o', H.list[id']? = some o' ∧ (o' = rno σ d o ∧ (rno σ d o = .dead → o = .dead) ∨ (o' = o ∧ belowO n0 o = true))) := by
  have main : ∀ o : KObj, (rno σ d o = .dead → o = .dead) → (match σ id with | some id' => cond pl (H.get id' = some o ∧ belowO n0 o = true) (H.get id' = some (rno σ d o)) | none => False) →
      ∃ o', H.list[id']? = some o' ∧ (o' = rno σ d o ∧ (rno σ d o = .dead → o = .dead) ∨ (o' = o ∧ belowO n0 o = true)) := by
    intro o hd h
    rw [hs] at h
    simp only at h
    cases pl with
    | true => exact ⟨o, by rw [HT.list_get]; exact h.1, .inr ⟨rfl, h.2⟩⟩
    | false => exact ⟨_, by rw [HT.list_get]; exact h, .inl ⟨rfl, hd⟩⟩
  cases o with
  | dead => exact .inl rfl
  | loop _ _ _ _ _ _ _ => exact h.elim
  | cells own z cs => exact .inr (main _ (by intro h; cases h) h)
  | map es => exact .inr (main _ (by intro h; cases h) h)

theorem headOk_emb {N d : Nat} {E : Env} {H H0 : HT} {ML : List Nat} {σ : List (Nat × Nat)} {slots : List (Nat × Value)} {chg : List (Nat × Bool × KObj)} {new : List (Bool × KObj)} (h : headOk N E H H0 d ML σ slots chg new) :
    Emb H0.list ML N (sg H0.n σ) d (headE slots).get (headH H0 chg new).list E.get H.list := by
  obtain ⟨h1, h2, h3, h4⟩ := h
  simp only [Bool.and_eq_true] at h1
  obtain ⟨k1, k2, k3⟩ := h1
  obtain ⟨s1, s2⟩ := sgOk_spec k1
  have hc := chgIn_mem k2
  have hlt : ∀ p ∈ chg, p.1 < H0.n := fun p hp => (hc p hp).2
  have hn : (headH H0 chg new).n = H0.n + new.length := by
    unfold headH
    rw [(new_get new _ 0).1, (chg_get chg H0 0 hlt).1]
  have hold : ∀ id, id < H0.n → sg H0.n σ id = some id := fun id hid => by unfold sg; rw [blt_of hid]; rfl
  have hnew : ∀ id id', ¬ id < H0.n → sg H0.n σ id = some id' → (id, id') ∈ σ := fun id id' hid hs => by
    unfold sg at hs; rw [blt_of_not (by omega), cond_false] at hs; exact lookN_mem hs
  refine ⟨by rw [HT.length, HT.length, hn]; omega, fun id hid => hold id (by rwa [HT.length] at hid), fun id id' hs => ?_, fun i1 i2 i' e1 e2 => ?_, fun t _ => ?_, fun id hid hm => ?_, fun id id' o hs hc2 ho => ?_⟩
  · rw [HT.length, hn]
    by_cases hid : id < H0.n
    · omega
    · have hp := (s1 _ (hnew id id' hid hs)).2.1
      exact hp
  · by_cases a : i1 < H0.n
    · rw [hold i1 a] at e1
      cases e1
      by_cases b : i2 < H0.n
      · rw [hold i2 b] at e2; cases e2; rfl
      · have := (s1 _ (hnew _ _ b e2)).2.2; simp at this; omega
    · by_cases b : i2 < H0.n
      · rw [hold i2 b] at e2; cases e2
        have := (s1 _ (hnew _ _ a e1)).2.2; simp at this; omega
      · exact s2 _ (hnew _ _ a e1) _ (hnew _ _ b e2) rfl
  · rcases headE_get slots t with h | ⟨v, m, h⟩
    · exact .inl h
    · rw [h]; exact .inr (slotsOk_mem h2 t v m)
  · rw [HT.length] at hid
    rw [HT.list_get, HT.list_get]
    unfold headH
    rw [(new_get new _ id).2.1 (by rw [(chg_get chg H0 0 hlt).1]; exact hid)]
    rcases (chg_get chg H0 id hlt).2 with ⟨p, p1, p2, _⟩ | ⟨_, q⟩
    · exact absurd (p2 ▸ (hc p p1).1) hm
    · exact q
  · rw [HT.length] at hc2 ⊢
    rw [HT.list_get] at ho
    unfold headH at ho
    by_cases hid : id < H0.n
    · have hm : id ∈ ML := by rcases hc2 with h | h; omega; exact h
      rw [(new_get new _ id).2.1 (by rw [(chg_get chg H0 0 hlt).1]; exact hid)] at ho
      obtain ⟨p, p1, p2⟩ := allIn_mem k3 id hm
      rcases (chg_get chg H0 id hlt).2 with ⟨q, q1, q2, q3⟩ | ⟨q1, _⟩
      · rw [q3] at ho; cases ho
        have := chgOk_mem h3 q q1
        rw [q2] at this
        exact objOk_spec this hs
      · exact absurd p2 (q1 p p1)
    · have hcn := (chg_get chg H0 0 hlt).1
      obtain ⟨p, p1, p2⟩ := (new_get new (chg.foldl (fun H p => H.set p.1 p.2.2) H0) id).2.2 o (by rw [hcn]; omega) ho
      rw [hcn] at p1
      have := newOk_mem h4 _ p p1
      rw [show H0.n + (id - H0.n) = id by omega, p2] at this
      exact objOk_spec this hs
end
end Go.K
