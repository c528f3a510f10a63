/- Functions that write one block and answer with a list in it. No condition. -/
import Derived.Test.YtbgfjemppjhmjaaGreatGK27xW1
import Derived.Test.YtbgfjemppjhmjaaGreatGW26xO32g
import Derived.Test.YtbgfjemppjhmjaaGreatGP24xP28
namespace Go.K
set_option linter.unusedSimpArgs false
open Go
set_option linter.unusedVariables false
noncomputable section
attribute [local irreducible] vF
variable {P : Program}
theorem KCall.writesG {f : FuncId} {args : List Value} {H0 H new : Heap} {v V : Value} {σ : Nat -> Option Nat} {d k D z : Nat} {c0 c1 : List Value} (hp : ReadsW P H0 H σ d k D (.cells true z c0)) (h : KCall P f args H0 [k] (Is v (H0.set k (.cells true z c1) ++ new)))
  (h1p : c1.all (belowC 0) = true) (hV : ∀ (ρ1 ρ2 : Ren) (x : Value), (∀ r, ρ1 k = some r -> ρ2 D = some r) -> VR ρ1 v x -> VR ρ2 V x) (hn : new.all (fun o => rnoOk d o && o.owned) = true) (hn2 : new.map (rno (sgOnly H0.length) d) = new) :
  KCall P f (args.map (rn σ d)) H [D] (Is V (H.set D (.cells true z c1) ++ new.map (rno (sgUp H0.length H.length) d))) := by
 refine ⟨h.1, fun B ρ w args' hr ha => ?_⟩
 let ρs : Ren := ⟨fun id => (σ id).bind fun id' => (ρ id').map fun r => if id = k then r else ⟨r.b, r.s, r.n, 0, false⟩, ρ.mem, fun F k => (σ F).bind fun F' => ρ.g F' k⟩
 have hσ : ∀ id id' r, σ id = some id' -> ρ id' = some r -> ρs id = some (if id = k then r else ⟨r.b, r.s, r.n, 0, false⟩) := by
  intro id id' r h1 h2; show Option.bind _ _ = _; rw [h1]; show Option.map _ _ = _; rw [h2]; rfl
 have hσd : ∀ id id' r, σ id = some id' -> ρ id' = some r -> ∃ r', ρs id = some r' /\ r'.b = r.b /\ r'.s = r.s /\ (r'.own = false ∨ r' = r) := fun id id' r h1 h2 => by
  refine ⟨_, hσ _ _ _ h1 h2, ?_⟩
  split
  ·exact ⟨rfl, rfl, .inr rfl⟩
  ·exact ⟨rfl, rfl, .inl rfl⟩
 have hσg : ∀ F F' k r, σ F = some F' -> ρ.g F' k = some r -> ρs.g F k = some r := by intro F F' k r h1 h2; show Option.bind _ _ = _; rw [h1]; exact h2
 have hsomeg : ∀ {F k r}, ρs.g F k = some r -> ∃ F', σ F = some F' /\ ρ.g F' k = some r := fun h => Option.bind_eq_some_iff.1 h
 have hnf0 : ∀ {F : Nat} {z : Nat} {cs : List Value}, H0[F]? = some (.fam z cs) -> False := fun {F z' cs} mh => by
  by_cases e : F = k
  ·have := mh; rw [e, hp.k0] at this; cases this
  ·rcases hp.obj F _ e mh with h | ⟨_, h⟩ <;> cases h
 have hnf : ∀ {F k r z cs}, FM ρs H0 F k r z cs -> False := fun m => hnf0 m.h
 have hsome : ∀ {id r}, ρs id = some r -> ∃ id' r0, σ id = some id' /\ ρ id' = some r0 /\ r = if id = k then r0 else ⟨r0.b, r0.s, r0.n, 0, false⟩ := by
  intro id r h
  obtain ⟨id', h1, h2⟩ := Option.bind_eq_some_iff.1 h
  obtain ⟨r0, h3, h4⟩ := Option.map_eq_some_iff.1 h2
  exact ⟨id', r0, h1, h3, h4.symm⟩
 have hsk : ∀ {r}, ρs k = some r -> ρ D = some r := fun {r} h => by
  obtain ⟨id', r0, h1, h2, h3⟩ := hsome h
  rw [if_pos rfl] at h3
  subst h3
  rw [hp.hk] at h1; cases h1; exact h2
 have hown : ∀ (id : Nat) (o : KObj), H0[id]? = some o -> o.owned = true -> id = k := by
  intro id o h1 h2
  by_cases e : id = k
  ·exact e
  ·rcases hp.obj id o e h1 with rfl | ⟨cs, rfl⟩ <;> cases h2
 have hDo : (KObj.cells true z c0).owned = true := rfl
 have hoth : ∀ {id r o rD}, id ≠ k -> ρs id = some r -> H0[id]? = some o -> o.alive = true -> ρ D = some rD -> rD.b ≠ r.b := fun {id r o rD} e h1 h2 h3 h4 => by
  rcases hp.obj id o e h2 with rfl | ⟨cs, rfl⟩
  ·cases h3
  ·obtain ⟨id', r0, k1, k2, rfl⟩ := hsome h1
   obtain ⟨own, z', g⟩ := hp.rd id id' cs k1 h2
   rw [if_neg e]
   exact hr.sep D id' rD r0 _ _ h4 k2 hp.hD g hDo rfl (fun q => hp.ne id cs h2 (by rw [k1, q]))
 have hr0 : Rel P B ρs H0 w := by
  refine ⟨hr.bsize, fun g hg => ?_, fun id r h => ?_, fun id r h => ?_, fun id r o h1 h2 => ?_, fun id r o h1 h2 h3 => ?_, fun id1 id2 r1 r2 o1 o2 h1 h2 g1 g2 k1 k2 hne => ?_, fun b m hb => ⟨(hr.mem b m hb).1, fun id r o h1 h2 h3 => ?_⟩,
   ⟨fun F k r h => by obtain ⟨F', k1, _⟩ := hsomeg h; exact hp.dom _ _ k1, fun F k r h => by obtain ⟨F', _, k2⟩ := hsomeg h; exact hr.fam.lt _ _ _ k2, fun _ _ _ _ _ m => (hnf m).elim, fun _ _ _ _ _ m => (hnf m).elim, fun _ _ _ _ _ _ _ _ _ _ m => (hnf m).elim, fun _ _ _ _ _ _ _ _ m => (hnf m).elim, fun _ _ _ _ _ _ _ m => (hnf m).elim, fun _ _ _ _ _ h => (hnf0 h).elim⟩⟩
  ·obtain ⟨r, k1, k2, k3⟩ := hr.glob g hg
   refine ⟨_, hσ g g r (hp.glob g hg) k1, ?_⟩
   split
   ·exact ⟨k2, k3⟩
   ·exact ⟨k2, k3⟩
  ·obtain ⟨id', r0, h1, _, _⟩ := hsome h; exact hp.dom _ _ h1
  ·obtain ⟨id', r0, _, h2, rfl⟩ := hsome h
   have := hr.lt id' r0 h2
   split <;> exact this
  ·by_cases e : id = k
   ·subst e
    rw [hp.k0] at h2; cases h2
    exact plain_obj (ρ := ρ) (ρ' := ρs) (fun _ _ h => h) hp.pl (hr.obj D r _ (hsk h1) hp.hD)
   ·obtain ⟨id', r0, k1, k2, rfl⟩ := hsome h1
    rw [if_neg e]
    rcases hp.obj id o e h2 with rfl | ⟨cs, rfl⟩
    ·trivial
    ·obtain ⟨own, z, g⟩ := hp.rd id id' cs k1 h2
     obtain ⟨e1, e2, cs', ty, fz, hb, hnz, hfz, hcs⟩ := hr.obj _ _ _ k2 g
     refine ⟨rfl, rfl, cs', ty, fz, hb, hnz, fun h => (by cases h), fun i x hx => ?_⟩
     obtain ⟨x', y1, y2⟩ := hcs i (rn σ d x) (by rw [List.getElem?_map, hx]; rfl)
     exact ⟨x', y1, rn_VRw hσd (fun _ _ h => h) hσg d y2⟩
  ·obtain rfl := hown id o h2 h3
   exact hr.base D r _ (hsk h1) hp.hD hDo
  ·obtain rfl := hown id1 o1 g1 k1
   exact hoth (Ne.symm hne) h2 g2 k2 (hsk h1)
  ·obtain rfl := hown id o h2 h3
   exact (hr.mem b m hb).2 D r _ (hsk h1) hp.hD hDo
 have ha0 : VRl ρs args args'.toList := ⟨by have := ha.1; simpa using this, fun i x x' a b => rn_VRw hσd (fun _ _ h => h) hσg d (ha.2 i (rn σ d x) x' (by rw [List.getElem?_map, a]; rfl) b)⟩
 refine (h.2 B ρs w args' hr0 ha0).mono ?_
 rintro e w' ⟨v1, v', ρ1, H1, rfl, hv', hpost, rfl, rfl⟩
 have hkl : k < H0.length := (List.getElem?_eq_some_iff.1 hp.k0).1
 have hDl : D < H.length := (List.getElem?_eq_some_iff.1 hp.hD).1
 have h1k : (H0.set k (.cells true z c1) ++ new)[k]? = some (.cells true z c1) := by
  rw [List.getElem?_append_left (by simpa using hkl), List.getElem?_set_self hkl]
 have h1o : ∀ i, i < H0.length -> i ≠ k -> (H0.set k (.cells true z c1) ++ new)[i]? = H0[i]? := fun i hi e => by
  rw [List.getElem?_append_left (by simpa using hi), List.getElem?_set_ne (Ne.symm e)]
 have h1n : ∀ i, H0.length <= i -> (H0.set k (.cells true z c1) ++ new)[i]? = new[i - H0.length]? := fun i hi => by
  rw [List.getElem?_append_right (by simpa using hi)]; simp
 have hOBk : ∀ b, OB ρs H0 b -> ∃ rD, ρ D = some rD /\ ρs k = some rD /\ rD.b = b := fun b h => h.elim (fun ⟨id, r, o, h1, h2, h3, h4⟩ => by
   obtain rfl := hown id o h2 h3
   exact ⟨r, hsk h1, h1, h4⟩) (fun ⟨_, _, _, _, _, m, _⟩ => (hnf m).elim)
 have hOB : ∀ b, OB ρs H0 b -> OB ρ H b := fun b h => by
  obtain ⟨rD, h1, _, h2⟩ := hOBk b h
  exact .inl ⟨D, rD, _, h1, hp.hD, hDo, h2⟩
 let ρ2 : Ren := ⟨fun id => if id < H.length then ρ id else ρ1 (H0.length + (id - H.length)), ρ1.mem, fun F k => if F < H.length then ρ.g F k else ρ1.g (H0.length + (F - H.length)) k⟩
 let ρn : Ren := ⟨fun id => if id < H0.length then none else ρ1 id, ρ1.mem, fun F k => if F < H0.length then none else ρ1.g F k⟩
 have hn1 : ∀ id id' r, sgOnly H0.length id = some id' -> ρ1 id' = some r -> ρn id = some r := by
  intro id id' r h1 h2
  unfold sgOnly at h1
  split at h1
  ·cases h1
  ·rename_i hlt; cases h1; show (if _ then _ else _) = _; rw [if_neg hlt]; exact h2
 have hn1g : ∀ F F' k r, sgOnly H0.length F = some F' -> ρ1.g F' k = some r -> ρn.g F k = some r := by
  intro F F' k r h1 h2
  unfold sgOnly at h1
  split at h1
  ·cases h1
  ·rename_i hlt; cases h1; show (if _ then _ else _) = _; rw [if_neg hlt]; exact h2
 have hfwdg : ∀ F k r, ρn.g F k = some r -> ∃ F', sgUp H0.length H.length F = some F' /\ ρ2.g F' k = some r := by
  intro F k r h1
  have h1' : (if F < H0.length then none else ρ1.g F k) = some r := h1
  split at h1'
  ·cases h1'
  ·rename_i hlt
   refine ⟨_, if_neg hlt, ?_⟩
   show (if _ then _ else _) = _
   rw [if_neg (by omega), show H0.length + (H.length + (F - H0.length) - H.length) = F by omega]; exact h1'
 have hfwd : ∀ id r, ρn id = some r -> ∃ id', sgUp H0.length H.length id = some id' /\ ρ2 id' = some r := by
  intro id r h1
  have h1' : (if id < H0.length then none else ρ1 id) = some r := h1
  split at h1'
  ·cases h1'
  ·rename_i hlt
   refine ⟨_, if_neg hlt, ?_⟩
   show (if _ then _ else _) = _
   rw [if_neg (by omega), show H0.length + (H.length + (id - H0.length) - H.length) = id by omega]; exact h1'
 have hext : Ren.le ρ ρ2 := ⟨fun id r h1 => by
  show (if _ then _ else _) = _
  rw [if_pos (hr.dom _ _ h1)]; exact h1, hpost.ext.mem, fun F k r h1 => by
  show (if _ then _ else _) = _
  rw [if_pos (hr.fam.dom _ _ _ h1)]; exact h1⟩
 have hnew : ∀ (k : Nat) (o : KObj), new[k]? = some o -> rnoOk d o = true /\ o.owned = true /\ rno (sgOnly H0.length) d o = o := by
  intro k o hk
  rw [List.all_eq_true] at hn
  have := hn o (List.mem_of_getElem? hk)
  simp only [Bool.and_eq_true] at this
  refine ⟨this.1, this.2, ?_⟩
  have h3 : (new.map (rno (sgOnly H0.length) d))[k]? = some o := by rw [hn2]; exact hk
  rw [List.getElem?_map, hk] at h3
  exact Option.some.inj h3
 have hoa : ∀ o : KObj, o.owned = true -> o.alive = true := by intro o ho; cases o <;> first | rfl | cases ho
 have hfresh : ∀ id r o, H0.length <= id -> ρ1 id = some r -> new[id - H0.length]? = some o -> w.heap.size <= r.b := by
  intro id r o hid h1 h2
  have ho : o.owned = true := (hnew _ _ h2).2.1
  rcases Nat.lt_or_ge r.b w.heap.size with hlt | hge
  ·obtain ⟨rD, k1, k2, k3⟩ := hOBk _ (hpost.ob r.b hlt (.inl ⟨id, r, o, h1, by rw [h1n id hid]; exact h2, ho, rfl⟩))
   exact absurd k3 (hpost.rel.sep k id rD r _ o (hpost.ext _ _ k2) h1 h1k (by rw [h1n id hid]; exact h2) rfl (hoa _ ho) (by omega))
  ·exact hge
 have hgetD : (H.set D (.cells true z c1) ++ new.map (rno (sgUp H0.length H.length) d))[D]? = some (.cells true z c1) := by
  rw [List.getElem?_append_left (by simpa using hDl), List.getElem?_set_self hDl]
 have hgeto : ∀ id, id < H.length -> id ≠ D -> (H.set D (.cells true z c1) ++ new.map (rno (sgUp H0.length H.length) d))[id]? = H[id]? := fun id hid e => by
  rw [List.getElem?_append_left (by simpa using hid), List.getElem?_set_ne (Ne.symm e)]
 have hback : ∀ id o, id < H.length -> (H.set D (.cells true z c1) ++ new.map (rno (sgUp H0.length H.length) d))[id]? = some o -> ∃ o', H[id]? = some o' /\ o'.owned = o.owned /\ o'.alive = o.alive := fun id o hid h2 => by
  by_cases e : id = D
  ·subst e
   rw [hgetD] at h2; cases h2
   exact ⟨_, hp.hD, rfl, rfl⟩
  ·rw [hgeto id hid e] at h2; exact ⟨o, h2, rfl, rfl⟩
 have hgetn : ∀ id o', H.length <= id -> (H.set D (.cells true z c1) ++ new.map (rno (sgUp H0.length H.length) d))[id]? = some o' -> ∃ o, new[id - H.length]? = some o /\ o' = rno (sgUp H0.length H.length) d o /\ rnoOk d o = true /\ o.owned = true /\ rno (sgOnly H0.length) d o = o := by
  intro id o' hid h2
  rw [List.getElem?_append_right (by simpa using hid), List.getElem?_map, List.length_set] at h2
  obtain ⟨o, a1, rfl⟩ := Option.map_eq_some_iff.1 h2
  obtain ⟨x1, x2, x3⟩ := hnew _ _ a1
  exact ⟨o, a1, rfl, x1, x2, x3⟩
 have hVk : ∀ r, ρ1 k = some r -> ρ2 D = some r := fun r h1 => by
  show (if _ then _ else _) = _
  rw [if_pos hDl]
  cases hs : ρs k with
  | none => exact absurd (hpost.new k r h1 hs) (by omega)
  | some r' =>
   have := hpost.ext _ _ hs
   rw [h1] at this; cases this
   exact hsk hs
 refine ⟨_, v', ρ2, _, rfl, hV ρ1 ρ2 v' hVk hv', ?_, rfl, rfl⟩
 have fr : ∀ id r o, ¬ id < H.length -> ρ1 (H0.length + (id - H.length)) = some r -> (H.set D (.cells true z c1) ++ new.map (rno (sgUp H0.length H.length) d))[id]? = some o -> w.heap.size <= r.b := by
  intro id r o hid a b
  obtain ⟨o0, a1, _, _, _, _⟩ := hgetn id o (by omega) b
  exact hfresh _ r o0 (by omega) a (by rw [show H0.length + (id - H.length) - H0.length = id - H.length by omega]; exact a1)
 have u : ∀ id, ρ2 id = if id < H.length then ρ id else ρ1 (H0.length + (id - H.length)) := fun _ => rfl
 have hnob : ∀ id r o, ρ id = some r -> H[id]? = some o -> o.alive = true -> id ≠ D -> ¬ OB ρs H0 r.b := fun id r o a b c e q => by
  obtain ⟨rD, k1, _, k3⟩ := hOBk _ q
  exact hr.sep D id rD r _ o k1 a hp.hD b hDo c (Ne.symm e) k3
 have hfm2 : ∀ {F k r z' cs}, ρ2.g F k = some r -> (H.set D (.cells true z c1) ++ new.map (rno (sgUp H0.length H.length) d))[F]? = some (.fam z' cs) -> ρ.g F k = some r /\ H[F]? = some (.fam z' cs) := fun {F k r z' cs} mg mh => by
  have h1 : (if F < H.length then ρ.g F k else ρ1.g (H0.length + (F - H.length)) k) = some r := mg
  rcases Nat.lt_or_ge F H.length with h | h
  ·rw [if_pos h] at h1
   refine ⟨h1, ?_⟩
   by_cases e : F = D
   ·have := mh; rw [e, hgetD] at this; cases this
   ·rw [<- hgeto F h e]; exact mh
  ·obtain ⟨o, _, e, g1, g2, _⟩ := hgetn F _ h mh
   cases o <;> first | (cases g1; done) | (cases g2; done) | (cases e; done)
 have hfm : ∀ {F k r z' cs}, FM ρ2 (H.set D (.cells true z c1) ++ new.map (rno (sgUp H0.length H.length) d)) F k r z' cs -> FM ρ H F k r z' cs := fun m => ⟨(hfm2 m.g m.h).1, (hfm2 m.g m.h).2, m.a⟩
 have hfam : FRel B ρ2 (H.set D (.cells true z c1) ++ new.map (rno (sgUp H0.length H.length) d)) w' := by
  refine ⟨fun F k r h1 => ?_, fun F k r h1 => ?_, fun F k r z cs m => hr.fam.base _ _ _ _ _ (hfm m), fun F k r z cs m => (hr.fam.obj _ _ _ _ _ (hfm m)).mono hext (hpost.keep _ (hr.fam.lt _ _ _ (hfm m).g) (fun q => ?_)),
   fun F k r z cs F' k' r' z' cs' m m' => hr.fam.sep _ _ _ _ _ _ _ _ _ _ (hfm m) (hfm m'), fun F k r z cs id r' o m h1 h2 h3 => ?_, fun F k r z cs b m' m hb => ?_, fun F k r cs h1 h2 => hr.fam.cnt F k r cs (hfm2 h1 h2).1 (hfm2 h1 h2).2⟩
  ·have h1 : (if F < H.length then ρ.g F k else ρ1.g (H0.length + (F - H.length)) k) = some r := h1
   rcases Nat.lt_or_ge F H.length with h | h
   ·simp; omega
   ·rw [if_neg (by omega)] at h1
    have := hpost.rel.fam.dom _ _ _ h1
    simp at this ⊢; omega
  ·have h1 : (if F < H.length then ρ.g F k else ρ1.g (H0.length + (F - H.length)) k) = some r := h1
   rcases Nat.lt_or_ge F H.length with h | h
   ·rw [if_pos h] at h1
    exact Nat.lt_of_lt_of_le (hr.fam.lt _ _ _ h1) hpost.size
   ·rw [if_neg (by omega)] at h1
    exact hpost.rel.fam.lt _ _ _ h1
  ·obtain ⟨rD, k1, _, k3⟩ := hOBk _ q
   exact hr.fam.sep2 _ _ _ _ _ D rD _ (hfm m) k1 hp.hD rfl k3
  ·rw [u] at h1
   rcases Nat.lt_or_ge id H.length with h | h
   ·rw [if_pos h] at h1
    obtain ⟨o', b1, _, b3⟩ := hback id o h h2
    exact hr.fam.sep2 _ _ _ _ _ id r' o' (hfm m) h1 b1 (by rw [b3]; exact h3)
   ·rw [if_neg (by omega)] at h1
    have := fr id r' o (by omega) h1 h2
    have := hr.fam.lt _ _ _ (hfm m).g
    omega
  ·have hb : ρ1.mem b = some m' := hb
   rcases hpost.frz b m' hb with g | g | g
   ·exact hr.fam.mem _ _ _ _ _ b m' (hfm m) g
   ·have := hr.fam.lt _ _ _ (hfm m).g; omega
   ·obtain ⟨rD, k1, _, k3⟩ := hOBk _ g
    exact fun q => hr.fam.sep2 _ _ _ _ _ D rD _ (hfm m) k1 hp.hD rfl (k3.trans q.symm)
 refine ⟨⟨Nat.le_trans hr.bsize hpost.size, fun g hg => ?_, fun id r h1 => ?_, fun id r h1 => ?_, fun id r o h1 h2 => ?_, fun id r o h1 h2 h3 => ?_, fun id1 id2 r1 r2 o1 o2 h1 h2 g1 g2 k1 k2 hne => ?_, fun b m hb => ⟨(hpost.rel.mem b m hb).1, fun id r o h1 h2 h3 => ?_⟩, hfam⟩, hext, fun id r h1 h2 => ?_, by simp, fun id h1 h2 => hgeto id h1 (fun e => h2 (by rw [e]; exact List.mem_singleton.2 rfl)), hpost.size, fun b h1 h2 => hpost.keep b h1 (fun q => h2 (hOB b q)), fun b h1 h2 => ?_, hpost.os, hpost.tape, hpost.output, fun b m hb => (hpost.frz b m hb).imp id fun h => h.imp id (hOB b), hpost.drawn, fun F k r h1 h2 => .inl (by
  have h1 : (if F < H.length then ρ.g F k else ρ1.g (H0.length + (F - H.length)) k) = some r := h1
  rcases Nat.lt_or_ge F H.length with h | h
  ·rw [if_pos h, h2] at h1; cases h1
  ·exact h)⟩
 ·obtain ⟨r, k1, k2, k3⟩ := hr.glob g hg; exact ⟨r, hext _ _ k1, k2, k3⟩
 ·rw [u] at h1
  split at h1
  ·rw [List.length_append, List.length_set]; omega
  ·rename_i hid
   have := hpost.rel.dom _ _ h1
   rw [List.length_append, List.length_set] at this
   rw [List.length_append, List.length_map, List.length_set]; omega
 ·rw [u] at h1
  split at h1
  ·exact Nat.lt_of_lt_of_le (hr.lt _ _ h1) hpost.size
  ·exact hpost.rel.lt _ _ h1
 ·rw [u] at h1
  split at h1
  ·rename_i hid
   by_cases e : id = D
   ·subst e
    rw [hgetD] at h2; cases h2
    have hk1 : ρs k = some r := by have := hσ _ _ _ hp.hk h1; rw [if_pos rfl] at this; exact this
    exact plain_obj (ρ := ρ1) (ρ' := ρ2) (fun _ _ h => h) h1p (hpost.rel.obj k r _ (hpost.ext _ _ hk1) h1k)
   ·rw [hgeto id hid e] at h2
    cases hal : o.alive with
    | true => exact (hr.obj _ _ _ h1 h2).mono hext (hpost.keep _ (hr.lt _ _ h1) (hnob id r o h1 h2 hal e))
    | false => cases o <;> first | trivial | cases hal
  ·rename_i hid
   obtain ⟨o0, a1, rfl, a3, a4, a5⟩ := hgetn id o (by omega) h2
   have h6 := hpost.rel.obj _ _ _ h1 (show _ = some o0 by rw [h1n _ (by omega), show H0.length + (id - H.length) - H0.length = id - H.length by omega]; exact a1)
   rw [<- a5] at h6
   have hd : rno (sgOnly H0.length) d o0 = .dead -> o0 = .dead := fun he => by rw [a5] at he; exact he
   exact rel_rno hfwd (fun _ _ h => h) hfwdg a3 (rno_rel hn1 (fun _ _ h => h) hn1g h6 hd)
 ·rw [u] at h1
  split at h1
  ·rename_i hid
   obtain ⟨o', b1, b2, _⟩ := hback id o hid h2
   exact hr.base _ _ _ h1 b1 (by rw [b2]; exact h3)
  ·rename_i hid
   obtain ⟨o0, a1, _, a3, a4, _⟩ := hgetn id o (by omega) h2
   exact hpost.rel.base _ _ _ h1 (show _ = some o0 by rw [h1n _ (by omega), show H0.length + (id - H.length) - H0.length = id - H.length by omega]; exact a1) a4
 ·rw [u] at h1 h2
  by_cases c1' : id1 < H.length
  ·rw [if_pos c1'] at h1
   obtain ⟨p1, b1, b2, _⟩ := hback id1 o1 c1' g1
   by_cases c2 : id2 < H.length
   ·rw [if_pos c2] at h2
    obtain ⟨p2, d1, _, d3⟩ := hback id2 o2 c2 g2
    exact hr.sep id1 id2 r1 r2 p1 p2 h1 h2 b1 d1 (by rw [b2]; exact k1) (by rw [d3]; exact k2) hne
   ·rw [if_neg c2] at h2
    have := hr.lt _ _ h1
    have := fr id2 r2 o2 c2 h2 g2
    omega
  ·rw [if_neg c1'] at h1
   have f1 := fr id1 r1 o1 c1' h1 g1
   by_cases c2 : id2 < H.length
   ·rw [if_pos c2] at h2
    have := hr.lt _ _ h2
    omega
   ·rw [if_neg c2] at h2
    obtain ⟨p1, a1, _, _, a4, _⟩ := hgetn id1 o1 (by omega) g1
    obtain ⟨p2, b1, _, _, b4, _⟩ := hgetn id2 o2 (by omega) g2
    exact hpost.rel.sep _ _ r1 r2 p1 p2 h1 h2 (by rw [h1n _ (by omega), show H0.length + (id1 - H.length) - H0.length = id1 - H.length by omega]; exact a1) (by rw [h1n _ (by omega), show H0.length + (id2 - H.length) - H0.length = id2 - H.length by omega]; exact b1) a4 (hoa _ b4) (by omega)
 ·rw [u] at h1
  split at h1
  ·rename_i hid
   obtain ⟨o', b1, b2, _⟩ := hback id o hid h2
   intro he
   rcases hpost.frz b m hb with g | g | g
   ·exact (hr.mem b m g).2 id r o' h1 b1 (by rw [b2]; exact h3) he
   ·have := hr.lt _ _ h1; omega
   ·obtain ⟨rD, k1, k2, k3⟩ := hOBk _ g
    exact (hpost.rel.mem b m hb).2 k rD _ (hpost.ext _ _ k2) h1k rfl k3
  ·rename_i hid
   obtain ⟨o0, a1, _, a3, a4, _⟩ := hgetn id o (by omega) h2
   exact (hpost.rel.mem b m hb).2 _ r o0 h1 (by rw [h1n _ (by omega), show H0.length + (id - H.length) - H0.length = id - H.length by omega]; exact a1) a4
 ·rw [u] at h1
  split at h1
  ·rw [h2] at h1; cases h1
  ·omega
 ·rcases h2 with ⟨id, r, o, k1, k2, k3, k4⟩ | ⟨F, k, r, z, cs, m, e⟩
  ·rw [u] at k1
   split at k1
   ·rename_i hid
    obtain ⟨o', b1, b2, _⟩ := hback id o hid k2
    exact .inl ⟨id, r, o', k1, b1, by rw [b2]; exact k3, k4⟩
   ·rename_i hid
    have := fr id r o hid k1 k2
    omega
  ·exact .inr ⟨F, k, r, z, cs, hfm m, e⟩
theorem vcWG {mixed : Bool} {mask : Nat} {dm : Value -> MS} {rounds : Nat} (hmask : MaskOk P mixed mask) (hmix : mixed = true -> P.follows .mixedOrders = true) (n : Nat) {f : FuncId} {args : List Value} {css : List (List Value)} {h : Hint} {v : Value} {z : Nat} {c0 c1 : List Value}
  (hc : vF P mask dm rounds mixed n true f args (readsW P.globals.size z c0 css) (some [P.globals.size]) h (newKW (readsW P.globals.size z c0 css).n 3 P.globals.size (.cells true z c1) v []))
  (hp0 : c0.all (belowC 0) = true) (hp1 : c1.all (belowC 0) = true) {V : Value} {D : Nat} (hV : ∀ (ρ1 ρ2 : Ren) (x : Value), (∀ r, ρ1 P.globals.size = some r -> ρ2 D = some r) -> VR ρ1 v x -> VR ρ2 V x)
  {H : Heap} (hD : H[D]? = some (.cells true z c0)) (ids : List Nat) (hl : ids.length = css.length) (hids : ∀ (k : Nat) (cs : List Value), css[k]? = some cs -> ∃ id own z, ids[k]? = some id /\ H[id]? = some (KObj.cells own z (cs.map (rn (sgRW P.globals.size D ids) 3)))) (hne : D ∉ ids) :
  KCall P f (args.map (rn (sgRW P.globals.size D ids) 3)) H [D] (Is V (H.set D (.cells true z c1))) := by
 have e : (readsW P.globals.size z c0 css).list.length = P.globals.size + 1 + css.length := by rw [HT.length, readsW_n]
 have hkn : P.globals.size < (readsW P.globals.size z c0 css).n := by rw [readsW_n]; omega
 have h1 : KCall P f args (readsW P.globals.size z c0 css).list [P.globals.size] (Is v ((readsW P.globals.size z c0 css).list.set P.globals.size (.cells true z c1) ++ ([] : List (Bool × KObj)).map (·.2))) := by
  refine KCall.packW (d := 3) hkn (((vF_sound hmask hmix n).1 f args _ (some [P.globals.size]) h _ hc).post ?_)
  rintro v' H' ⟨H2, h2, e, hk⟩
  cases h2 with
  | again σ => exact ⟨H2, σ, e, hk⟩
  | _ => exact hk.elim
 have hp : ReadsW P (readsW P.globals.size z c0 css).list H (sgRW P.globals.size D ids) 3 P.globals.size D (.cells true z c0) := by
  refine ⟨fun g hg => if_pos hg, fun id id' h => ?_, by rw [e]; omega, ?_, ?_, hD, hp0, fun id o hne h => ?_, fun id cs h => ?_, fun id id' cs h1 h2 => ?_⟩
  ·rw [e]
   unfold sgRW at h
   split at h
   ·omega
   ·split at h
    ·omega
    ·have := (List.getElem?_eq_some_iff.1 h).1; omega
  ·rw [readsW_list, if_neg (Nat.lt_irrefl _), if_pos rfl]
  ·show (if _ then _ else _) = _
   rw [if_neg (Nat.lt_irrefl _), if_pos rfl]
  ·rw [readsW_list] at h
   split at h
   ·cases h; exact .inl rfl
   ·try rw [if_neg hne] at h
    obtain ⟨cs, _, rfl⟩ := Option.map_eq_some_iff.1 h; exact .inr ⟨cs, rfl⟩
  ·rw [readsW_list] at h
   split at h
   ·cases h
   ·rename_i h5
    split at h
    ·cases h
    ·rename_i h6
     unfold sgRW
     rw [if_neg h5, if_neg h6]
     exact fun q => hne (List.mem_of_getElem? q)
  ·rw [readsW_list] at h2
   split at h2
   ·cases h2
   ·rename_i h5
    split at h2
    ·cases h2
    ·rename_i h6
     obtain ⟨cs', a1, a2⟩ := Option.map_eq_some_iff.1 h2
     cases a2
     unfold sgRW at h1
     rw [if_neg h5, if_neg h6] at h1
     obtain ⟨id2, own, z2, b1, b2⟩ := hids _ _ a1
     rw [h1] at b1; cases b1
     exact ⟨own, z2, b2⟩
 have := KCall.writesG (V := V) (new := []) hp h1 hp1 hV rfl rfl
 rw [List.map_nil, List.append_nil] at this
 exact this
end
end Go.K
/- Radio: numbers of sightings in the order of their minutes. No condition. -/
namespace Go.Proofs.YtbgfjemppjhmjaaGreat
open Go Go.K
set_option maxRecDepth 100000
set_option linter.unusedVariables false
set_option linter.unusedSimpArgs false
noncomputable section
attribute [local irreducible] vF
def InS (n : Nat) (M : List Int) : Prop := ∀ v ∈ M, 0 <= v /\ v < (n : Int)
theorem InS.at {n : Nat} {M : List Int} (h : InS n M) {i : Nat} (hi : i < M.length) : 0 <= M.getD i 0 /\ M.getD i 0 < (n : Int) := h _ (getD_mem hi)
theorem valWU {f : FuncId} {args : List Value} {css : List (List Value)} {h : Hint} {c0 c1 : List Value}
  (hc : vF prog msk (dm 0) 100000 true 40 true f args (readsW 0 1 c0 css) (some [0]) h (newKW (readsW 0 1 c0 css).n 3 0 (.cells true 1 c1) (.tuple #[]) []))
  (hp0 : c0.all (belowC 0) = true) (hp1 : c1.all (belowC 0) = true) {H : Heap} {D : Nat} (hD : H[D]? = some (.cells true 1 c0)) {ids : List Nat} (hi : InsA H (sgRW 0 D ids) ids css) (hne : D ∉ ids) {args' : List Value} (ha : args.map (rn (sgRW 0 D ids) 3) = args') :
  KCall prog f args' H [D] (Is (.tuple #[]) (H.set D (.cells true 1 c1))) := by
 subst ha
 have key := vcWG (H := H) (D := D) (z := 1) (c0 := c0) (c1 := c1) mskOk mixed 40 (v := .tuple #[]) (V := .tuple #[]) (by rw [glob0]; exact hc) hp0 hp1 (fun ρ1 ρ2 x hr hv => by
  cases hv with
  | tuple h1 h2 => exact .tuple h1 (fun i v v' q => by simp at q)) hD ids hi.len (by rw [glob0]; exact hi.get) hne
 rw [glob0] at key
 exact key
theorem valG1 {f : FuncId} {args : List Value} {css : List (List Value)} {h : Hint} {n : Nat} {c0 c1 : List Value}
  (hc : vF prog msk (dm 0) 100000 true 40 true f args (readsW 0 1 c0 css) (some [0]) h (newKW (readsW 0 1 c0 css).n 3 0 (.cells true 1 c1) (slQ 0 2 n) []))
  (hp0 : c0.all (belowC 0) = true) (hp1 : c1.all (belowC 0) = true) {H : Heap} {D : Nat} (hD : H[D]? = some (.cells true 1 c0)) {ids : List Nat} (hi : InsA H (sgRW 0 D ids) ids css) (hne : D ∉ ids) {args' : List Value} (ha : args.map (rn (sgRW 0 D ids) 3) = args') :
  KCall prog f args' H [D] (Is (slQ D 2 n) (H.set D (.cells true 1 c1))) := by
 subst ha
 have key := vcWG (H := H) (D := D) (z := 1) (c0 := c0) (c1 := c1) mskOk mixed 40 (v := slQ 0 2 n) (V := slQ D 2 n) (by rw [glob0]; exact hc) hp0 hp1 (fun ρ1 ρ2 x hr hv => by
  rw [glob0] at hr
  cases hv with
  | sliceRe => exact .sliceRe
  | sliceR h hp hl hc ho => exact .sliceR (hr _ h) hp hl hc ho) hD ids hi.len (by rw [glob0]; exact hi.get) hne
 rw [glob0] at key
 exact key
theorem rnBool (l : List Bool) (σ : Nat -> Option Nat) : (l.flatMap boolC).map (rn σ 3) = l.flatMap boolC := (rnCl (d := 0) (plainBL 0 l)).1
theorem rnSp (l : List (Int × Int)) (σ : Nat -> Option Nat) : (l.flatMap spC).map (rn σ 3) = l.flatMap spC := (rnCl (d := 0) (plainSp 0 l)).1
theorem rnInL (l : List (List Int)) (σ : Nat -> Option Nat) : (inL l).map (rn σ 3) = inL l := (rnCl (d := 0) (inL_b 0 l)).1
theorem intRno (o : Bool) (z : Nat) (l : List Int) (σ : Nat -> Option Nat) : rno σ 3 (.cells o z (l.flatMap intC)) = .cells o z (l.flatMap intC) := congrArg (KObj.cells o z) (rnCl (d := 0) (plainIL 0 l)).1
theorem intRok (o : Bool) (z : Nat) (l : List Int) : rnoOk 3 (.cells o z (l.flatMap intC)) = true := (rnCl (σ := fun _ => none) (d := 0) (plainIL 0 l)).2
theorem hvIns {M : List Int} {w h : Int} {a : List Bool} {p : Int} {ss : List (Int × Int)} {rr : List (List Int)} (t : TrOk w h a p ss) (hM : InS ss.length M) (hl : M.length <= 1000) : RinsS M w h a p ss rr := by
 delta RinsS kk0 kk7 kkt kkh kks kk5 kkq kko kk4 kkf kkb kk2 kk8 kku kk9
 refine ⟨vI64 (by omega), rfl, ⟨Nat.le_refl _, Or.inr rfl⟩, ?_, fun _ => rfl, fun x hx => ⟨fun c => ?_, fun c => ?_⟩⟩
 ·rw [sortT_1]
  repeat' first | exact plainIL _ _ | exact rfl | exact wk_refl _ | exact wks_nil | apply And.intro | (exact iEq (by omega))
 ·have hx1 : x < M.length := by have := of_decide_eq_true c; omega
  refine ⟨rfl, ⟨Nat.le_refl _, rfl⟩, ?_, fun _ => rfl, fun y hy => ⟨fun d => ?_, fun d => ?_⟩⟩
  ·rw [sortJ_0 hx1]
   repeat' first | exact plainIL _ _ | exact rfl | exact wk_refl _ | exact wks_nil | apply And.intro | (exact iEq (by omega))
  ·have hy1 : 0 < y := by have := of_decide_eq_true d; omega
   obtain ⟨hyx, hip⟩ := hy
   have hsl := sortJ_len (k := kyI ss) hx1 hyx
   have eN : Int.toNat (((y : Nat) : Int) - 1) = y - 1 := by omega
   have e1 := sortJ_at (k := kyI ss) hx1 hyx
   have e2 := sortJ_pre (k := kyI ss) hx1 hyx (show y - 1 < y by omega)
   have hil := isr_len (kyI ss) M x
   have b1 : 0 <= (sortJ (kyI ss) M x y).getD y 0 /\ (sortJ (kyI ss) M x y).getD y 0 < (ss.length : Int) := by rw [e1]; exact hM.at hx1
   have hin : InS ss.length (isr (kyI ss) M x) := fun v hv => hM v (List.mem_of_mem_take ((isr_perm (kyI ss) M x (by omega)).mem_iff.1 hv))
   have b2 : 0 <= (sortJ (kyI ss) M x y).getD (y - 1) 0 /\ (sortJ (kyI ss) M x y).getD (y - 1) 0 < (ss.length : Int) := by rw [e2]; exact hin.at (by omega)
   have m1 := (t.bd (show Int.toNat ((sortJ (kyI ss) M x y).getD y 0) < ss.length by omega)).1
   have m2 := (t.bd (show Int.toNat ((sortJ (kyI ss) M x y).getD (y - 1) 0) < ss.length by omega)).1
   rw [eN]
   have k1 : kyI ss (M.getD x 0) = (ss.getD (Int.toNat ((sortJ (kyI ss) M x y).getD y 0)) zeroSp).1 := by rw [e1]; rfl
   have k2 : kyI ss ((isr (kyI ss) M x).getD (y - 1) 0) = (ss.getD (Int.toNat ((sortJ (kyI ss) M x y).getD (y - 1) 0)) zeroSp).1 := by rw [e2]; rfl
   refine ⟨⟨by omega, by omega⟩, intAt (by omega) (by omega), vI64 (by omega), ⟨by omega, by omega⟩, intAt (by omega) (by omega), b1, spAt0 (by omega) (by omega), b2, spAt0 (by omega) (by omega), vI64 (by omega), fun g => ?_, fun g => ?_⟩
   ·have hlt : kyI ss (M.getD x 0) < kyI ss ((isr (kyI ss) M x).getD (y - 1) 0) := by have := of_decide_eq_true g; rw [k1, k2]; omega
    have hgo := ipos_go (m := isr (kyI ss) M x) hlt
    rw [show y - 1 + 1 = y by omega] at hgo
    refine ⟨vI64 (by omega), vI64 (by omega), ⟨by omega, by omega⟩, intAt (by omega) (by omega), ⟨by omega, by omega⟩, intAt (by omega) (by omega), ⟨by omega, by omega⟩, ?_, rfl, ⟨by omega, by omega⟩, ?_, rfl, vI64 (by omega), y - 1, ⟨by omega, by rw [hip, hgo]⟩, by omega, ?_⟩
    ·rw [flat_len intC_len]; omega
    ·rw [setl_length, flat_len intC_len]; omega
    ·have hsw := sortJ_swap (k := kyI ss) hx1 (show y - 1 + 1 <= x by omega)
     rw [show y - 1 + 1 = y by omega, <- e1, <- e2] at hsw
     have s1 : setl (setl ((sortJ (kyI ss) M x y).flatMap intC) (0 + Int.toNat ((y : Nat) : Int) * 1) [.int .i64 ((sortJ (kyI ss) M x y).getD (y - 1) 0)]) (0 + (y - 1) * 1) [.int .i64 ((sortJ (kyI ss) M x y).getD y 0)] = (sortJ (kyI ss) M x (y - 1)).flatMap intC := by
      rw [show 0 + Int.toNat ((y : Nat) : Int) * 1 = y * 1 by omega, show 0 + (y - 1) * 1 = (y - 1) * 1 by omega]
      have f1 := flat_set intC_len (sortJ (kyI ss) M x y) y (by omega) ((sortJ (kyI ss) M x y).getD (y - 1) 0)
      rw [show intC ((sortJ (kyI ss) M x y).getD (y - 1) 0) = [.int .i64 ((sortJ (kyI ss) M x y).getD (y - 1) 0)] from rfl] at f1
      rw [f1]
      have f2 := flat_set intC_len ((sortJ (kyI ss) M x y).set y ((sortJ (kyI ss) M x y).getD (y - 1) 0)) (y - 1) (by rw [List.length_set]; omega) ((sortJ (kyI ss) M x y).getD y 0)
      rw [show intC ((sortJ (kyI ss) M x y).getD y 0) = [.int .i64 ((sortJ (kyI ss) M x y).getD y 0)] from rfl] at f2
      rw [f2, hsw]
     rw [s1]
     repeat' first | exact plainIL _ _ | exact rfl | exact wk_refl _ | exact wks_nil | apply And.intro | (exact iEq (by omega))
   ·have hnl : ¬ kyI ss (M.getD x 0) < kyI ss ((isr (kyI ss) M x).getD (y - 1) 0) := by have := of_decide_eq_false g; rw [k1, k2]; omega
    have hno := ipos_no (m := isr (kyI ss) M x) hnl
    rw [show y - 1 + 1 = y by omega] at hno
    rw [sortJ_end hx1 (hip.trans hno)]
    refine ⟨vI64 (by omega), x + 1, ⟨by omega, Or.inl (by omega)⟩, by omega, ?_⟩
    repeat' first | exact plainIL _ _ | exact rfl | exact wk_refl _ | exact wks_nil | apply And.intro | (exact iEq (by omega))
  ·have hy1 : y = 0 := by have := of_decide_eq_false d; omega
   obtain ⟨hyx, hip⟩ := hy
   subst hy1
   rw [sortJ_end (j := 0) hx1 (hip.trans rfl)]
   refine ⟨vI64 (by omega), x + 1, ⟨by omega, Or.inl (by omega)⟩, by omega, ?_⟩
   repeat' first | exact plainIL _ _ | exact rfl | exact wk_refl _ | exact wks_nil | apply And.intro | (exact iEq (by omega))
 ·have hx1 : M.length <= x := by have := of_decide_eq_false c; omega
  rw [sortT_all hx1]
  repeat' first | exact plainIL _ _ | exact rfl | exact wk_refl _ | exact wks_nil | apply And.intro | (exact iEq (by omega))
structure CtxAt (H : Heap) (D : Nat) (w h : Int) (a : List Bool) (p : Int) (ss : List (Int × Int)) (rr : List (List Int)) (b r i j q : Nat) : Prop where
 ne : D ∉ [b, r, i, j, q]
 box : ∃ o z, H[b]? = some (.cells o z [.pointer (some ⟨r, 0, none⟩)])
 wk : ∃ o z, H[r]? = some (.cells o z (wkCs w h a p ss rr i j q))
 land : ∃ o z, H[i]? = some (.cells o z (a.flatMap boolC))
 seen : ∃ o z, H[j]? = some (.cells o z (ss.flatMap spC))
 rows : ∃ o z, H[q]? = some (.cells o z (inL rr))
theorem CtxAt.ins {H : Heap} {D : Nat} {w h : Int} {a : List Bool} {p : Int} {ss : List (Int × Int)} {rr : List (List Int)} {b r i j q : Nat} (k : CtxAt H D w h a p ss rr b r i j q) : InsA H (sgRW 0 D [b, r, i, j, q]) [b, r, i, j, q] (ctxH w h a p ss rr) :=
 ⟨k.box, k.wk, by rw [rnBool]; exact k.land, by rw [rnSp]; exact k.seen, by rw [rnInL]; exact k.rows, trivial⟩
theorem kIns {M : List Int} {w h : Int} {a : List Bool} {p : Int} {ss : List (Int × Int)} {rr : List (List Int)} (t : TrOk w h a p ss) (hM : InS ss.length M) (hl : M.length <= 1000) {H : Heap} {D b r i j q : Nat} (hD : H[D]? = some (.cells true 1 (M.flatMap intC))) (k : CtxAt H D w h a p ss rr b r i j q) :
  KCall prog 256 [slQ D 2 M.length, .int .i64 0, .int .i64 (M.length : Int), .func (.func 166) #[] #[.pointer (some ⟨b, 0, none⟩)]] H [D] (Is (.tuple #[]) (H.set D (.cells true 1 ((isr (kyI ss) M M.length).flatMap intC)))) :=
 valWU (css := ctxH w h a p ss rr) (Eq.mpr (EinsS M w h a p ss rr) (hvIns t hM hl)) (plainIL _ _) (plainIL _ _) hD (ids := [b, r, i, j, q]) k.ins k.ne rfl
theorem hvStab {M : List Int} {w h : Int} {a : List Bool} {p : Int} {ss : List (Int × Int)} {rr : List (List Int)} (t : TrOk w h a p ss) (hM : InS ss.length M) (hl : M.length <= 19) : RstabS M w h a p ss rr := by
 delta RstabS kk0 kk7 kkj kkt kks kk3 kke kkc kkm kk9 kka kkl kk6 kkk kkg kkn kk1 kkr kku
 refine ⟨rfl, rfl, ?_, fun _ => rfl, fun x hx => ⟨fun c => (by have := of_decide_eq_true c; omega), fun c => ⟨⟨rfl, rfl, rfl, rfl, rfl, rfl, trivial⟩, fun H' _ g => ?_, rfl, rfl, ?_, fun _ => rfl, fun y hy => ⟨fun d => (by have := of_decide_eq_true d; omega), fun d => ?_⟩⟩⟩⟩
 ·repeat' first | exact plainIL _ _ | exact rfl | exact wk_refl _ | exact wks_nil | apply And.intro | (exact iEq (by omega))
 ·subst hx
  exact kIns (b := 1) (r := 2) (i := 3) (j := 4) (q := 5) t hM (by omega) g.1 ⟨by decide, ⟨_, _, g.2.1⟩, ⟨_, _, g.2.2.1⟩, ⟨_, _, g.2.2.2.1⟩, ⟨_, _, g.2.2.2.2.1⟩, ⟨_, _, g.2.2.2.2.2.1⟩⟩
 ·repeat' first | exact plainIL _ _ | exact rfl | exact wk_refl _ | exact wks_nil | apply And.intro | (exact iEq (by omega))
 ·repeat' first | exact plainIL _ _ | exact rfl | exact wk_refl _ | exact wks_nil | apply And.intro | (exact iEq (by omega))
theorem kStab {M : List Int} {w h : Int} {a : List Bool} {p : Int} {ss : List (Int × Int)} {rr : List (List Int)} (t : TrOk w h a p ss) (hM : InS ss.length M) (hl : M.length <= 19) {H : Heap} {D b r i j q : Nat} (hD : H[D]? = some (.cells true 1 (M.flatMap intC))) (k : CtxAt H D w h a p ss rr b r i j q) :
  KCall prog 226 [slQ D 2 M.length, .int .i64 (M.length : Int), .func (.func 166) #[] #[.pointer (some ⟨b, 0, none⟩)]] H [D] (Is (.tuple #[]) (H.set D (.cells true 1 ((isr (kyI ss) M M.length).flatMap intC)))) :=
 valWU (css := ctxH w h a p ss rr) (Eq.mpr (EstabS M w h a p ss rr) (hvStab t hM hl)) (plainIL _ _) (plainIL _ _) hD (ids := [b, r, i, j, q]) k.ins k.ne rfl
end
end Go.Proofs.YtbgfjemppjhmjaaGreat
/- What is to be shown of functions. Printed by a program. No condition. -/
namespace Go.Proofs.YtbgfjemppjhmjaaGreat
set_option linter.unusedSimpArgs false
open Go Go.K
set_option maxRecDepth 100000
set_option maxHeartbeats 4000000
set_option linter.unusedVariables false
noncomputable section
abbrev kmb (k : Nat) : Int:=(k : Nat)
abbrev kmi (ss : List (Int × Int)) (k : Nat):=ss.getD k zeroSp
abbrev kmr (i : Nat) : Int:=(i : Nat)
abbrev kmw (ss : List (Int × Int)) (k : Nat):=Int.toNat (kmi ss k).2
abbrev kmx (ss : List (Int × Int)) (i : Nat):=ss.getD i zeroSp
def Ragr2 (sp : Value) (w h : Int) (a : List Bool) (p : Int) (ss : List (Int × Int)) (rr : List (List Int)) (i k : Nat) : Prop :=
 (((0 : Int) <= (kmb k) /\ ((kmb k) : Int) < ((ss.length : Nat) : Int)) /\ (((ss.flatMap spC)[((0 + Int.toNat (kmb k) * 2) + 1)]? = some (nI (kmi ss k).2)) /\ (((0 : Int) <= (kmb k) /\ ((kmb k) : Int) < ((ss.length : Nat) : Int)) /\ (((ss.flatMap spC)[((0 + Int.toNat (kmb k) * 2) + 0)]? = some (nI (kmi ss k).1)) /\ (((0 : Int) <= (kmr i) /\ ((kmr i) : Int) < ((rr.length : Nat) : Int)) /\ (((inL rr)[(0 + Int.toNat (kmr i) * 1)]? = some (.iface ((rr.getD i []).length + 1) (.agg ⟨((rr.getD i []).flatMap intC)⟩))) /\ (((0 : Int) <= (kmi ss k).2 /\ ((kmi ss k).2 : Int) < (((rr.getD i []).length : Nat) : Int)) /\ ((((rr.getD i []).flatMap intC)[(Int.toNat (kmi ss k).2 * 1)]? = some (nI ((rr.getD i []).getD (kmw ss k) 0))) /\ (((decide ((((rr.getD i []).getD (kmw ss k) 0) : Int) < 1073741824)) = true -> ((nI (IntKind.wrap .i64 (((rr.getD i []).getD (kmw ss k) 0) * p)) : Value) = nI (((rr.getD i []).getD (kmw ss k) 0) * p) /\ (((0 : Int) <= (kmr i) /\ ((kmr i) : Int) < ((ss.length : Nat) : Int)) /\ (((ss.flatMap spC)[((0 + Int.toNat (kmr i) * 2) + 0)]? = some (nI (kmx ss i).1)) /\ ((nI (IntKind.wrap .i64 ((kmi ss k).1 - (kmx ss i).1)) : Value) = nI ((kmi ss k).1 - (kmx ss i).1) /\ (((0 : Int) <= (kmr i) /\ ((kmr i) : Int) < ((ss.length : Nat) : Int)) /\ (((ss.flatMap spC)[((0 + Int.toNat (kmr i) * 2) + 0)]? = some (nI (kmx ss i).1)) /\ ((nI (IntKind.wrap .i64 ((kmx ss i).1 - (kmi ss k).1)) : Value) = nI ((kmx ss i).1 - (kmi ss k).1) /\ (.bool (decide (((((rr.getD i []).getD (kmw ss k) 0) * p) : Int) <= (if (((kmx ss i).1 - (kmi ss k).1) : Int) > ((kmi ss k).1 - (kmx ss i).1) then (((kmx ss i).1 - (kmi ss k).1) : Int) else ((kmi ss k).1 - (kmx ss i).1)))) : Value) = sp)))))))) /\ ((decide ((((rr.getD i []).getD (kmw ss k) 0) : Int) < 1073741824)) = false -> (.bool false : Value) = sp))))))))))
theorem Eagr2 (sp : Value) (w h : Int) (a : List Bool) (p : Int) (ss : List (Int × Int)) (rr : List (List Int)) (i k : Nat) : vF prog msk (dm 0) 100000 true 40 true 87 [.pointer (some ⟨0,0,none⟩),nI (kmr i),nI (kmb k)] (readsT 0 (ctxA w h a p ss rr)) (some [])
 (.go 8 (.need (.go 0 (.val (nI (kmi ss k).2) (.go 5 (.need (.go 0 (.val (nI (kmi ss k).1) (.go 13 (.need (.val (.iface ((rr.getD i []).length + 1) (.agg ⟨((rr.getD i []).flatMap intC)⟩)) (.go 0 (.need (.val (nI ((rr.getD i []).getD (kmw ss k) 0)) (.go 4 (.gfork (.go 6 (.slot 25 (nI (((rr.getD i []).getD (kmw ss k) 0) * p)) (.go 6 (.need (.go 0 (.val (nI (kmx ss i).1) (.go 0 (.slot 36 (nI ((kmi ss k).1 - (kmx ss i).1)) (.go 5 (.need (.go 0 (.val (nI (kmx ss i).1) (.go 1 (.slot 47 (nI ((kmx ss i).1 - (kmi ss k).1)) (.auto))))))))))))))) (.auto)))))))))))))))))
 (fun v _ _ => v = sp) = Ragr2 sp w h a p ss rr i k:=by kernel_rfl
abbrev km0 : Value:=.func (.func 86) #[] #[.pointer (some ⟨1,0,none⟩),.pointer (some ⟨2,0,none⟩)]
abbrev kme (k : Nat) : Prop:=(nI (kmb k) : Value) = nI (kmb k) /\ True
abbrev kmk (k : Nat) : Prop:=km0 = .func (.func 86) #[] #[.pointer (some ⟨1,0,none⟩),.pointer (some ⟨2,0,none⟩)] /\ wkR (slQ 0 2 k) /\ kme k
abbrev kmg : Prop:=(True) /\ (True)
abbrev kmv : Prop:=(True) /\ kmg
abbrev kmy : Prop:=∀ n_0 : Nat,true = true
abbrev kmj (n_0 : Nat) (k : Nat):=decide (((n_0 : Int) : Int) < (kmb k))
abbrev km4 (qn0 : Nat) (qn1 : Nat) : Prop:=(0 : Int) <= (qn0 : Int) /\ ((qn0 : Int) : Int) < ((qn1 : Nat) : Int)
abbrev km6 (qd0 : List Int) (qn0 : Nat) : Prop:=(qd0.flatMap intC)[(0 + Int.toNat (qn0 : Int) * 1)]? = some (nI (qd0.getD qn0 0))
abbrev kmf (w : Int) (h : Int) (a : List Bool) (p : Int) (ss : List (Int × Int)) (rr : List (List Int)) : List Value:=[nI w,nI h,slQ 4 2 a.length,nI p,slQ 5 2 ss.length,slQ 6 1 rr.length]
abbrev kmt (w : Int) (h : Int) (a : List Bool) (p : Int) (ss : List (Int × Int)) (rr : List (List Int)) : Prop:=(someR (.cells false 0 (kmf w h a p ss rr))) /\ (someR (.cells false 0 (a.flatMap boolC))) /\ (someR (.cells false 0 (ss.flatMap spC))) /\ (someR (.cells false 0 (inL rr))) /\ True
abbrev kmm (H' : Heap) (w : Int) (h : Int) (a : List Bool) (p : Int) (ss : List (Int × Int)) (rr : List (List Int)) : Prop:=H'[3]? = some (.cells false 0 (kmf w h a p ss rr) : KObj) /\ H'[4]? = some (.cells false 0 (a.flatMap boolC) : KObj) /\ H'[5]? = some (.cells false 0 (ss.flatMap spC) : KObj) /\ H'[6]? = some (.cells false 0 (inL rr) : KObj) /\ True
abbrev kmd (k : Nat) (p : Int) (ss : List (Int × Int)) (rr : List (List Int)) (i1_ : Int) (M : List Int) : Prop:=true = true /\ wk (slQ 0 2 k : Value) (rn (sg 7 []) 3 (slQ 0 2 (keepP (agI p ss rr i1_) M k).length : Value)) /\ ((some (.cells true 1 (M.flatMap intC) : KObj) = some (.cells true 1 ((delP (agI p ss rr i1_) M k).flatMap intC) : KObj) /\ belowO 7 (.cells true 1 ((delP (agI p ss rr i1_) M k).flatMap intC) : KObj) = true) /\ True) /\ (True)
abbrev kmh (n_0 : Nat) : Value:=nI (IntKind.wrap .i64 ((n_0 : Int) + 1))
abbrev kms (n_0 : Nat) : Value:=nI ((n_0 : Int) + 1)
abbrev kma (k : Nat) : Prop:=km0 = .func (.func 86) #[] #[.pointer (some ⟨1,0,none⟩),.pointer (some ⟨2,0,none⟩)] /\ wkR (slQ 0 2 k) /\ (.slice none 0 0 : Value) = .slice none 0 0 /\ True
abbrev kmu (n_1 : Nat) (k : Nat):=decide (((n_1 : Int) : Int) < (kmb k))
abbrev km8 (p : Int) (ss : List (Int × Int)) (rr : List (List Int)) (i1_ : Int) (M : List Int) (n_1 : Nat) : Int:=((keepP (agI p ss rr i1_) M n_1).length : Nat)
abbrev kml (n_1 : Nat) : Value:=nI (IntKind.wrap .i64 ((n_1 : Int) + 1))
abbrev kmn : Prop:=true = false ∨ 1 = 0 ∨ 1 = 1
def RdelA (M : List Int) (k : Nat) (w h : Int) (a : List Bool) (p : Int) (ss : List (Int × Int)) (rr : List (List Int)) (i1_ : Int) : Prop :=
 (true = true /\ (0 <= k /\ (M.take 0).all (agI p ss rr i1_) = true) /\ (true = true /\ ((nI 0 : Value) = nI ((0 : Nat) : Int) /\ kmk k) /\ kmv) /\ kmy /\ ∀ n_0 : Nat,(n_0 <= k /\ (M.take n_0).all (agI p ss rr i1_) = true) -> (((kmj n_0 k) = true -> ((km4 n_0 k) /\ ((km6 M n_0) /\ ((kmt w h a p ss rr) /\ (∀ H' : Heap,H'.length = 7 -> (kmm H' w h a p ss rr) -> KCall prog 87 [.pointer (some ⟨3,0,none⟩),nI i1_,nI (M.getD n_0 0)] H' [] (Is (.bool (agI p ss rr i1_ (M.getD n_0 0))) H')) /\ (((!(agI p ss rr i1_ (M.getD n_0 0))) = true -> (((((n_0 : Int) : Int) == (-1)) = true -> (kmd k p ss rr i1_ M)) /\ ((((n_0 : Int) : Int) == (-1)) = false -> ((kmh n_0) = nI ((n_0 : Int) + 1) /\ (true = true /\ ((n_0 + 1) <= k /\ (keepP (agI p ss rr i1_) M (n_0 + 1)).length < (n_0 + 1)) /\ (true = true /\ ((kms n_0) = nI (((n_0 + 1) : Nat) : Int) /\ (nI (n_0 : Int) : Value) = nI (((keepP (agI p ss rr i1_) M (n_0 + 1)).length : Nat) : Int) /\ kma k) /\ ((some (.cells true 1 (M.flatMap intC) : KObj) = some (.cells true 1 ((midP (agI p ss rr i1_) M (n_0 + 1)).flatMap intC) : KObj) /\ belowO 7 (.cells true 1 ((midP (agI p ss rr i1_) M (n_0 + 1)).flatMap intC) : KObj) = true) /\ True) /\ kmg) /\ (∀ n_1 : Nat,true = true) /\ ∀ n_1 : Nat,(n_1 <= k /\ (keepP (agI p ss rr i1_) M n_1).length < n_1) -> (((kmu n_1 k) = true -> ((km4 n_1 k) /\ ((((midP (agI p ss rr i1_) M n_1).flatMap intC)[(0 + Int.toNat (n_1 : Int) * 1)]? = some (nI ((midP (agI p ss rr i1_) M n_1).getD n_1 0))) /\ ((kmt w h a p ss rr) /\ (∀ H' : Heap,H'.length = 7 -> (kmm H' w h a p ss rr) -> KCall prog 87 [.pointer (some ⟨3,0,none⟩),nI i1_,nI ((midP (agI p ss rr i1_) M n_1).getD n_1 0)] H' [] (Is (.bool (agI p ss rr i1_ ((midP (agI p ss rr i1_) M n_1).getD n_1 0))) H')) /\ (((!(!(agI p ss rr i1_ ((midP (agI p ss rr i1_) M n_1).getD n_1 0)))) = true -> (((0 : Int) <= (km8 p ss rr i1_ M n_1) /\ ((km8 p ss rr i1_ M n_1) : Int) < (kmb k)) /\ (((0 + Int.toNat (km8 p ss rr i1_ M n_1) * 1) + 1 <= List.length ((midP (agI p ss rr i1_) M n_1).flatMap intC)) /\ true = true /\ ((nI (IntKind.wrap .i64 ((km8 p ss rr i1_ M n_1) + 1)) : Value) = nI ((km8 p ss rr i1_ M n_1) + 1) /\ ((kml n_1) = nI ((n_1 : Int) + 1) /\ (∃ n_2' : Nat,(n_2' <= k /\ (keepP (agI p ss rr i1_) M n_2').length < n_2') /\ (k - n_2') < (k - n_1) /\ true = true /\ ((nI ((n_1 : Int) + 1) : Value) = nI (n_2' : Int) /\ (nI ((km8 p ss rr i1_ M n_1) + 1) : Value) = nI (((keepP (agI p ss rr i1_) M n_2').length : Nat) : Int) /\ kma k) /\ ((some (.cells true 1 (setl ((midP (agI p ss rr i1_) M n_1).flatMap intC) (0 + Int.toNat (km8 p ss rr i1_ M n_1) * 1) [nI ((midP (agI p ss rr i1_) M n_1).getD n_1 0)]) : KObj) = some (.cells true 1 ((midP (agI p ss rr i1_) M n_2').flatMap intC) : KObj) /\ belowO 7 (.cells true 1 ((midP (agI p ss rr i1_) M n_2').flatMap intC) : KObj) = true) /\ True) /\ kmg)))))) /\ ((!(!(agI p ss rr i1_ ((midP (agI p ss rr i1_) M n_1).getD n_1 0)))) = false -> ((kml n_1) = nI ((n_1 : Int) + 1) /\ (∃ n_2' : Nat,(n_2' <= k /\ (keepP (agI p ss rr i1_) M n_2').length < n_2') /\ (k - n_2') < (k - n_1) /\ true = true /\ ((nI ((n_1 : Int) + 1) : Value) = nI (n_2' : Int) /\ (nI (km8 p ss rr i1_ M n_1) : Value) = nI (((keepP (agI p ss rr i1_) M n_2').length : Nat) : Int) /\ kma k) /\ ((some (.cells true 1 ((midP (agI p ss rr i1_) M n_1).flatMap intC) : KObj) = some (.cells true 1 ((midP (agI p ss rr i1_) M n_2').flatMap intC) : KObj) /\ belowO 7 (.cells true 1 ((midP (agI p ss rr i1_) M n_2').flatMap intC) : KObj) = true) /\ True) /\ kmg)))))))) /\ ((kmu n_1 k) = false -> (((kmn /\ k <= k) /\ (k <= k) /\ ((0 : Int) <= (km8 p ss rr i1_ M n_1) /\ ((km8 p ss rr i1_ M n_1) : Int) <= (kmb k))) /\ ((.slice (some ⟨0,(0 + (km8 p ss rr i1_ M n_1).toNat * 1),some 2⟩) (k - (km8 p ss rr i1_ M n_1).toNat) (k - (km8 p ss rr i1_ M n_1).toNat) : Value) = .slice (some ⟨0,(0 + (km8 p ss rr i1_ M n_1).toNat * 1),some 2⟩) (k - (keepP (agI p ss rr i1_) M n_1).length) (k - (keepP (agI p ss rr i1_) M n_1).length) /\ (((0 + (km8 p ss rr i1_ M n_1).toNat * 1) + (k - (keepP (agI p ss rr i1_) M n_1).length) * 1 <= List.length ((midP (agI p ss rr i1_) M n_1).flatMap intC)) /\ true = true /\ (((kmn /\ (km8 p ss rr i1_ M n_1).toNat <= k) /\ ((0 : Int) <= (km8 p ss rr i1_ M n_1) /\ ((km8 p ss rr i1_ M n_1) : Int) <= (kmb k)) /\ (0 <= (km8 p ss rr i1_ M n_1).toNat)) /\ ((slQ 0 2 ((km8 p ss rr i1_ M n_1).toNat - 0) : Value) = slQ 0 2 (keepP (agI p ss rr i1_) M n_1).length /\ (true = true /\ wk (slQ 0 2 (keepP (agI p ss rr i1_) M n_1).length : Value) (rn (sg 7 []) 3 (slQ 0 2 (keepP (agI p ss rr i1_) M k).length : Value)) /\ ((some (.cells true 1 (setl ((midP (agI p ss rr i1_) M n_1).flatMap intC) (0 + (km8 p ss rr i1_ M n_1).toNat * 1) (krep [nI 0] (k - (keepP (agI p ss rr i1_) M n_1).length))) : KObj) = some (.cells true 1 ((delP (agI p ss rr i1_) M k).flatMap intC) : KObj) /\ belowO 7 (.cells true 1 ((delP (agI p ss rr i1_) M k).flatMap intC) : KObj) = true) /\ True) /\ (True)))))))))))))) /\ ((!(agI p ss rr i1_ (M.getD n_0 0))) = false -> ((kmh n_0) = nI ((n_0 : Int) + 1) /\ (∃ n_1' : Nat,(n_1' <= k /\ (M.take n_1').all (agI p ss rr i1_) = true) /\ (k - n_1') < (k - n_0) /\ true = true /\ ((kms n_0) = nI (n_1' : Int) /\ kmk k) /\ kmv)))))))) /\ ((kmj n_0 k) = false -> (kmd k p ss rr i1_ M))))
abbrev kmp : Hint:=.keep (.again [])
abbrev km3 (qn0 : Nat) (qn1 : Nat) (qn2 : Nat) : Hint:=.go qn0 (.slot qn1 (nI ((qn2 : Int) + 1)) (.go 0 (.again [])))
theorem EdelA (M : List Int) (k : Nat) (w h : Int) (a : List Bool) (p : Int) (ss : List (Int × Int)) (rr : List (List Int)) (i1_ : Int) : vF prog msk (dm 0) 100000 true 40 true 84 [slQ 0 2 k,.func (.func 86) #[] #[.pointer (some ⟨1,0,none⟩),.pointer (some ⟨2,0,none⟩)]] (readsW 0 1 (M.flatMap intC) (ctxD w h a p ss rr i1_)) (some [0])
 (.go 7 (.inv 3 (Nat) (0) [] [] (fun n_0 => [(8,nI (n_0 : Int)),(1,.func (.func 86) #[] #[.pointer (some ⟨1,0,none⟩),.pointer (some ⟨2,0,none⟩)]),(0,slQ 0 2 k),(7,nI (kmb k))]) (fun n_0 => []) (fun n_0 => []) (fun n_0 => []) (fun n_0 => (n_0 <= k /\ (M.take n_0).all (agI p ss rr i1_) = true)) (fun n_0 => (k - n_0)) (fun n_0 => .go 0 (.fork (.go 4 (.need (.val (nI (M.getD n_0 0)) (.go 4 (.ans [(3,.cells false 0 (kmf w h a p ss rr)),(4,.cells false 0 (a.flatMap boolC)),(5,.cells false 0 (ss.flatMap spC)),(6,.cells false 0 (inL rr))] (.bool (agI p ss rr i1_ (M.getD n_0 0))) [] (.go 1 (.fork (.go 4 (.fork (.go 1 kmp) (.go 1 (.slot 15 (nI ((n_0 : Int) + 1)) (.go 0 (.inv 3 (Nat) ((n_0 + 1)) [] [0] (fun n_1 => [(6,nI (n_1 : Int)),(5,nI (km8 p ss rr i1_ M n_1)),(1,.func (.func 86) #[] #[.pointer (some ⟨1,0,none⟩),.pointer (some ⟨2,0,none⟩)]),(0,slQ 0 2 k),(4,.slice none 0 0)]) (fun n_1 => [(0,true,.cells true 1 ((midP (agI p ss rr i1_) M n_1).flatMap intC))]) (fun n_1 => []) (fun n_1 => []) (fun n_1 => (n_1 <= k /\ (keepP (agI p ss rr i1_) M n_1).length < n_1)) (fun n_1 => (k - n_1)) (fun n_1 => .go 3 (.fork (.go 1 (.need (.val (nI ((midP (agI p ss rr i1_) M n_1).getD n_1 0)) (.go 7 (.ans [(3,.cells false 0 (kmf w h a p ss rr)),(4,.cells false 0 (a.flatMap boolC)),(5,.cells false 0 (ss.flatMap spC)),(6,.cells false 0 (inL rr))] (.bool (agI p ss rr i1_ ((midP (agI p ss rr i1_) M n_1).getD n_1 0))) [] (.go 2 (.fork (.go 2 (.need (.need (.go 1 (.slot 35 (nI ((km8 p ss rr i1_ M n_1) + 1)) (km3 2 21 n_1)))))) (km3 1 21 n_1)))))))) (.go 1 (.need (.slot 38 (.slice (some ⟨0,(0 + (km8 p ss rr i1_ M n_1).toNat * 1),some 2⟩) (k - (keepP (agI p ss rr i1_) M n_1).length) (k - (keepP (agI p ss rr i1_) M n_1).length)) (.need (.go 1 (.need (.slot 41 (slQ 0 2 (keepP (agI p ss rr i1_) M n_1).length) (.go 0 kmp)))))))))))))))) (km3 0 18 n_0)))))))) (.go 6 kmp)))))
 (newKW ((readsW 0 1 (M.flatMap intC) (ctxD w h a p ss rr i1_)) : HT).n 3 0 (.cells true 1 ((delP (agI p ss rr i1_) M k).flatMap intC)) (slQ 0 2 (keepP (agI p ss rr i1_) M k).length) []) = RdelA M k w h a p ss rr i1_:=by kernel_rfl
abbrev km2 : Value:=.func (.func 89) #[] #[.pointer (some ⟨1,0,none⟩)]
abbrev kmq (k : Nat) : Prop:=km2 = .func (.func 89) #[] #[.pointer (some ⟨1,0,none⟩)] /\ wkR (slQ 0 2 k) /\ kme k
abbrev km1 (qn0 : Nat) (qi0 : Int) (qd0 : List Int) : Prop:=true = true /\ wk (slQ 0 2 qn0 : Value) (rn (sg 2 []) 3 (slQ 0 2 (keepP (qNe qi0) qd0 qn0).length : Value)) /\ ((some (.cells true 1 (qd0.flatMap intC) : KObj) = some (.cells true 1 ((delP (qNe qi0) qd0 qn0).flatMap intC) : KObj) /\ belowO 2 (.cells true 1 ((delP (qNe qi0) qd0 qn0).flatMap intC) : KObj) = true) /\ True) /\ (True)
abbrev kmc (k : Nat) : Prop:=km2 = .func (.func 89) #[] #[.pointer (some ⟨1,0,none⟩)] /\ wkR (slQ 0 2 k) /\ (.slice none 0 0 : Value) = .slice none 0 0 /\ True
abbrev km9 (i1_ : Int) (M : List Int) (n_1 : Nat) : Int:=((keepP (qNe i1_) M n_1).length : Nat)
abbrev km5 (qi0 : Int) (qd0 : List Int) (qn0 : Nat) : KObj:=.cells true 1 ((midP (qNe qi0) qd0 qn0).flatMap intC)
abbrev km7 (qi0 : Int) (qd0 : List Int) (qn0 : Nat) (qn1 : Nat) : Prop:=(0 : Int) <= (((keepP (qNe qi0) qd0 qn0).length : Nat) : Int) /\ ((((keepP (qNe qi0) qd0 qn0).length : Nat) : Int) : Int) <= ((qn1 : Nat) : Int)
def RdelN (M : List Int) (k : Nat) (i1_ : Int) : Prop :=
 (true = true /\ (0 <= k /\ (M.take 0).all (qNe i1_) = true) /\ (true = true /\ ((nI 0 : Value) = nI ((0 : Nat) : Int) /\ kmq k) /\ kmv) /\ kmy /\ ∀ n_0 : Nat,(n_0 <= k /\ (M.take n_0).all (qNe i1_) = true) -> (((kmj n_0 k) = true -> ((km4 n_0 k) /\ ((km6 M n_0) /\ (((((M.getD n_0 0) : Int) == i1_) = true -> (((((n_0 : Int) : Int) == (-1)) = true -> (km1 k i1_ M)) /\ ((((n_0 : Int) : Int) == (-1)) = false -> ((kmh n_0) = nI ((n_0 : Int) + 1) /\ (true = true /\ ((n_0 + 1) <= k /\ (keepP (qNe i1_) M (n_0 + 1)).length < (n_0 + 1)) /\ (true = true /\ ((kms n_0) = nI (((n_0 + 1) : Nat) : Int) /\ (nI (n_0 : Int) : Value) = nI (((keepP (qNe i1_) M (n_0 + 1)).length : Nat) : Int) /\ kmc k) /\ ((some (.cells true 1 (M.flatMap intC) : KObj) = some (.cells true 1 ((midP (qNe i1_) M (n_0 + 1)).flatMap intC) : KObj) /\ belowO 2 (.cells true 1 ((midP (qNe i1_) M (n_0 + 1)).flatMap intC) : KObj) = true) /\ True) /\ kmg) /\ (∀ n_1 : Nat,true = true) /\ ∀ n_1 : Nat,(n_1 <= k /\ (keepP (qNe i1_) M n_1).length < n_1) -> (((kmu n_1 k) = true -> ((km4 n_1 k) /\ ((((midP (qNe i1_) M n_1).flatMap intC)[(0 + Int.toNat (n_1 : Int) * 1)]? = some (nI ((midP (qNe i1_) M n_1).getD n_1 0))) /\ (((!((((midP (qNe i1_) M n_1).getD n_1 0) : Int) == i1_)) = true -> (((0 : Int) <= (km9 i1_ M n_1) /\ ((km9 i1_ M n_1) : Int) < (kmb k)) /\ (((0 + Int.toNat (km9 i1_ M n_1) * 1) + 1 <= List.length ((midP (qNe i1_) M n_1).flatMap intC)) /\ true = true /\ ((nI (IntKind.wrap .i64 ((km9 i1_ M n_1) + 1)) : Value) = nI ((km9 i1_ M n_1) + 1) /\ ((kml n_1) = nI ((n_1 : Int) + 1) /\ (∃ n_2' : Nat,(n_2' <= k /\ (keepP (qNe i1_) M n_2').length < n_2') /\ (k - n_2') < (k - n_1) /\ true = true /\ ((nI ((n_1 : Int) + 1) : Value) = nI (n_2' : Int) /\ (nI ((km9 i1_ M n_1) + 1) : Value) = nI (((keepP (qNe i1_) M n_2').length : Nat) : Int) /\ kmc k) /\ ((some (.cells true 1 (setl ((midP (qNe i1_) M n_1).flatMap intC) (0 + Int.toNat (km9 i1_ M n_1) * 1) [nI ((midP (qNe i1_) M n_1).getD n_1 0)]) : KObj) = some (km5 i1_ M n_2') /\ belowO 2 (km5 i1_ M n_2') = true) /\ True) /\ kmg)))))) /\ ((!((((midP (qNe i1_) M n_1).getD n_1 0) : Int) == i1_)) = false -> ((kml n_1) = nI ((n_1 : Int) + 1) /\ (∃ n_2' : Nat,(n_2' <= k /\ (keepP (qNe i1_) M n_2').length < n_2') /\ (k - n_2') < (k - n_1) /\ true = true /\ ((nI ((n_1 : Int) + 1) : Value) = nI (n_2' : Int) /\ (nI (km9 i1_ M n_1) : Value) = nI (((keepP (qNe i1_) M n_2').length : Nat) : Int) /\ kmc k) /\ ((some (km5 i1_ M n_1) = some (km5 i1_ M n_2') /\ belowO 2 (km5 i1_ M n_2') = true) /\ True) /\ kmg))))))) /\ ((kmu n_1 k) = false -> (((kmn /\ k <= k) /\ (k <= k) /\ (km7 i1_ M n_1 k)) /\ ((.slice (some ⟨0,(0 + (km9 i1_ M n_1).toNat * 1),some 2⟩) (k - (km9 i1_ M n_1).toNat) (k - (km9 i1_ M n_1).toNat) : Value) = .slice (some ⟨0,(0 + (km9 i1_ M n_1).toNat * 1),some 2⟩) (k - (keepP (qNe i1_) M n_1).length) (k - (keepP (qNe i1_) M n_1).length) /\ (((0 + (km9 i1_ M n_1).toNat * 1) + (k - (keepP (qNe i1_) M n_1).length) * 1 <= List.length ((midP (qNe i1_) M n_1).flatMap intC)) /\ true = true /\ (((kmn /\ (km9 i1_ M n_1).toNat <= k) /\ (km7 i1_ M n_1 k) /\ (0 <= (km9 i1_ M n_1).toNat)) /\ ((slQ 0 2 ((km9 i1_ M n_1).toNat - 0) : Value) = slQ 0 2 (keepP (qNe i1_) M n_1).length /\ (true = true /\ wk (slQ 0 2 (keepP (qNe i1_) M n_1).length : Value) (rn (sg 2 []) 3 (slQ 0 2 (keepP (qNe i1_) M k).length : Value)) /\ ((some (.cells true 1 (setl ((midP (qNe i1_) M n_1).flatMap intC) (0 + (km9 i1_ M n_1).toNat * 1) (krep [nI 0] (k - (keepP (qNe i1_) M n_1).length))) : KObj) = some (.cells true 1 ((delP (qNe i1_) M k).flatMap intC) : KObj) /\ belowO 2 (.cells true 1 ((delP (qNe i1_) M k).flatMap intC) : KObj) = true) /\ True) /\ (True)))))))))))))) /\ ((((M.getD n_0 0) : Int) == i1_) = false -> ((kmh n_0) = nI ((n_0 : Int) + 1) /\ (∃ n_1' : Nat,(n_1' <= k /\ (M.take n_1').all (qNe i1_) = true) /\ (k - n_1') < (k - n_0) /\ true = true /\ ((kms n_0) = nI (n_1' : Int) /\ kmq k) /\ kmv))))))) /\ ((kmj n_0 k) = false -> (km1 k i1_ M))))
theorem EdelN (M : List Int) (k : Nat) (i1_ : Int) : vF prog msk (dm 0) 100000 true 40 true 84 [slQ 0 2 k,.func (.func 89) #[] #[.pointer (some ⟨1,0,none⟩)]] (readsW 0 1 (M.flatMap intC) [[nI i1_]]) (some [0])
 (.go 7 (.inv 3 (Nat) (0) [] [] (fun n_0 => [(8,nI (n_0 : Int)),(1,.func (.func 89) #[] #[.pointer (some ⟨1,0,none⟩)]),(0,slQ 0 2 k),(7,nI (kmb k))]) (fun n_0 => []) (fun n_0 => []) (fun n_0 => []) (fun n_0 => (n_0 <= k /\ (M.take n_0).all (qNe i1_) = true)) (fun n_0 => (k - n_0)) (fun n_0 => .go 0 (.fork (.go 4 (.need (.val (nI (M.getD n_0 0)) (.go 5 (.fork (.go 4 (.fork (.go 1 kmp) (.go 1 (.slot 15 (nI ((n_0 : Int) + 1)) (.go 0 (.inv 3 (Nat) ((n_0 + 1)) [] [0] (fun n_1 => [(6,nI (n_1 : Int)),(5,nI (km9 i1_ M n_1)),(1,.func (.func 89) #[] #[.pointer (some ⟨1,0,none⟩)]),(0,slQ 0 2 k),(4,.slice none 0 0)]) (fun n_1 => [(0,true,.cells true 1 ((midP (qNe i1_) M n_1).flatMap intC))]) (fun n_1 => []) (fun n_1 => []) (fun n_1 => (n_1 <= k /\ (keepP (qNe i1_) M n_1).length < n_1)) (fun n_1 => (k - n_1)) (fun n_1 => .go 3 (.fork (.go 1 (.need (.val (nI ((midP (qNe i1_) M n_1).getD n_1 0)) (.go 9 (.fork (.go 2 (.need (.need (.go 1 (.slot 35 (nI ((km9 i1_ M n_1) + 1)) (km3 2 21 n_1)))))) (km3 1 21 n_1)))))) (.go 1 (.need (.slot 38 (.slice (some ⟨0,(0 + (km9 i1_ M n_1).toNat * 1),some 2⟩) (k - (keepP (qNe i1_) M n_1).length) (k - (keepP (qNe i1_) M n_1).length)) (.need (.go 1 (.need (.slot 41 (slQ 0 2 (keepP (qNe i1_) M n_1).length) (.go 0 kmp)))))))))))))))) (km3 0 18 n_0)))))) (.go 6 kmp)))))
 (newKW ((readsW 0 1 (M.flatMap intC) [[nI i1_]]) : HT).n 3 0 (.cells true 1 ((delP (qNe i1_) M k).flatMap intC)) (slQ 0 2 (keepP (qNe i1_) M k).length) []) = RdelN M k i1_:=by kernel_rfl
abbrev kmo (i1_ : Int) (k : Nat) : Prop:=(nI i1_ : Value) = nI i1_ /\ (.slice (some ⟨0,0,none⟩) k k : Value) = .slice (some ⟨0,0,none⟩) k k /\ kme k
def Rcont (sp : Value) (M : List Int) (k : Nat) (i1_ : Int) : Prop :=
 (true = true /\ (0 <= k /\ (M.take 0).any (fun v => v == i1_) = false) /\ (true = true /\ ((nI 0 : Value) = nI ((0 : Nat) : Int) /\ kmo i1_ k) /\ kmv) /\ kmy /\ ∀ n_0 : Nat,(n_0 <= k /\ (M.take n_0).any (fun v => v == i1_) = false) -> (((kmj n_0 k) = true -> ((km4 n_0 k) /\ ((km6 M n_0) /\ ((((i1_ : Int) == (M.getD n_0 0)) = true -> (.bool (decide ((0 : Int) <= (n_0 : Int))) : Value) = sp) /\ (((i1_ : Int) == (M.getD n_0 0)) = false -> ((kmh n_0) = nI ((n_0 : Int) + 1) /\ (∃ n_1' : Nat,(n_1' <= k /\ (M.take n_1').any (fun v => v == i1_) = false) /\ (k - n_1') < (k - n_0) /\ true = true /\ ((kms n_0) = nI (n_1' : Int) /\ kmo i1_ k) /\ kmv))))))) /\ ((kmj n_0 k) = false -> (.bool false : Value) = sp)))
theorem Econt (sp : Value) (M : List Int) (k : Nat) (i1_ : Int) : vF prog msk (dm 0) 100000 true 40 true 88 [.slice (some ⟨0,0,none⟩) k k,nI i1_] (readsT 0 [M.flatMap intC]) (some [])
 (.go 7 (.inv 3 (Nat) (0) [] [] (fun n_0 => [(8,nI (n_0 : Int)),(1,nI i1_),(0,.slice (some ⟨0,0,none⟩) k k),(7,nI (kmb k))]) (fun n_0 => []) (fun n_0 => []) (fun n_0 => []) (fun n_0 => (n_0 <= k /\ (M.take n_0).any (fun v => v == i1_) = false)) (fun n_0 => (k - n_0)) (fun n_0 => .go 0 (.fork (.go 4 (.need (.val (nI (M.getD n_0 0)) (.go 0 (.fork (.auto) (km3 0 18 n_0)))))) (.auto)))))
 (fun v _ _ => v = sp) = Rcont sp M k i1_:=by kernel_rfl
end
end Go.Proofs.YtbgfjemppjhmjaaGreat
/- Radio: what stays of a list of numbers; is a number in one. No condition. -/
namespace Go.Proofs.YtbgfjemppjhmjaaGreat
open Go Go.K
set_option maxRecDepth 100000
set_option linter.unusedVariables false
set_option linter.unusedSimpArgs false
noncomputable section
attribute [local irreducible] vF
theorem all_1 {q : Int -> Bool} {M : List Int} {x : Nat} (hx : x < M.length) (h : (M.take x).all q = true) (h2 : q (M.getD x 0) = true) : (M.take (x + 1)).all q = true := by
 rw [take_snoc (d := 0) hx, List.all_append, h, List.all_cons, h2]; rfl
theorem all_0 (q : Int -> Bool) (M : List Int) : (M.take 0).all q = true := by rw [List.take_zero]; rfl
theorem qNe_1 {i v : Int} (h : (v == i) = false) : qNe i v = true := by unfold qNe; rw [decide_eq_false (beq_eq_false_iff_ne.1 h)]; rfl
theorem qNe_0 {i v : Int} (h : (v == i) = true) : qNe i v = false := by unfold qNe; rw [decide_eq_true (eq_of_beq h)]; rfl
theorem nn1 (x : Nat) : ((((x : Nat) : Int) == (-1)) : Bool) = false := beq_eq_false_iff_ne.2 (by omega)
theorem hvAgr2 {w h : Int} {a : List Bool} {p : Int} {ss : List (Int × Int)} {rr : List (List Int)} (t : TrOk w h a p ss) (rk : RowsOk a ss rr) {i k : Nat} (hi : i < ss.length) (hk : k < ss.length) : Ragr2 (.bool (agrB p ss rr i k)) w h a p ss rr i k := by
 have hl := rk.len
 obtain ⟨r1, r2⟩ := rk.row i hi
 have hkb := t.bd hk
 have hb := r2 (Int.toNat (ss.getD k zeroSp).2) (by omega)
 have hs := t.bd hi
 have hp := t.pace
 delta Ragr2 kmb kmi kmr kmw kmx
 refine ⟨⟨by omega, by omega⟩, spAt1 hk (by omega), ⟨by omega, by omega⟩, spAt0 hk (by omega), ⟨by omega, by omega⟩, inL_at (by omega) (by omega), ⟨hkb.2.1, by rw [r1]; exact hkb.2.2⟩, intAt (by omega) (by omega), fun q => ?_, fun q => ?_⟩
 ·have h1 := of_decide_eq_true q
  unfold agrB canB
  obtain ⟨e, he⟩ : ∃ e, (rr.getD i []).getD (Int.toNat (ss.getD k zeroSp).2) 0 = e := ⟨_, rfl⟩
  rw [he] at h1 hb ⊢
  have hep : 0 <= e * p /\ e * p <= 1073741824 * 1000 := ⟨Int.mul_nonneg hb.1 (by omega), Int.mul_le_mul (by omega) hp.2 (by omega) (by omega)⟩
  refine ⟨vI64 (by omega), ⟨by omega, by omega⟩, spAt0 hi (by omega), vI64 (by omega), ⟨by omega, by omega⟩, spAt0 hi (by omega), vI64 (by omega), ?_⟩
  rw [decide_eq_true (show e < farI from h1), Bool.true_and]; rfl
 ·have h1 := of_decide_eq_false q
  unfold agrB canB
  rw [decide_eq_false (show ¬ _ < farI from h1)]; rfl
theorem kAgC {w h : Int} {a : List Bool} {p : Int} {ss : List (Int × Int)} {rr : List (List Int)} (t : TrOk w h a p ss) (rk : RowsOk a ss rr) {x y : Int} (hx : 0 <= x /\ x < (ss.length : Int)) (hy : 0 <= y /\ y < (ss.length : Int)) {H : Heap} {r j l q : Nat}
  (h3 : ∃ o z, H[r]? = some (.cells o z (wkCs w h a p ss rr j l q))) (h4 : ∃ o z, H[j]? = some (.cells o z (a.flatMap boolC))) (h5 : ∃ o z, H[l]? = some (.cells o z (ss.flatMap spC))) (h6 : ∃ o z, H[q]? = some (.cells o z (inL rr))) :
  KCall prog 87 [.pointer (some ⟨r, 0, none⟩), .int .i64 x, .int .i64 y] H [] (Is (.bool (agI p ss rr x y)) H) := by
 have key := valB (Eq.mpr (Eagr2 (.bool (agrB p ss rr (Int.toNat x) (Int.toNat y))) w h a p ss rr (Int.toNat x) (Int.toNat y)) (hvAgr2 t rk (by omega) (by omega))) rfl (H := H) (ids := [r, j, l, q]) (hi := ⟨h3, by rw [rnBool]; exact h4, by rw [rnSp]; exact h5, by rw [rnInL]; exact h6, trivial⟩) (args' := [.pointer (some ⟨r, 0, none⟩), .int .i64 ((Int.toNat x : Nat) : Int), .int .i64 ((Int.toNat y : Nat) : Int)]) (ha := rfl)
 rw [show ((Int.toNat x : Nat) : Int) = x by omega, show ((Int.toNat y : Nat) : Int) = y by omega] at key
 exact key
theorem hvdelA {M : List Int} {k : Nat} {w h : Int} {a : List Bool} {p : Int} {ss : List (Int × Int)} {rr : List (List Int)} {i : Int} (hk : k <= M.length) (hM : M.length <= 1000) (t : TrOk w h a p ss) (rk : RowsOk a ss rr) (hi : 0 <= i /\ i < (ss.length : Int)) (hin : ∀ x, x < k -> 0 <= M.getD x 0 /\ M.getD x 0 < (ss.length : Int)) : RdelA M k w h a p ss rr i := by
 delta RdelA km0 kmb kme kmk kmg kmv kmy kmj km4 km6 kmf kmt kmm kmd kmh kms kma kmu km8 kml kmn
 refine ⟨rfl, ⟨Nat.zero_le _, all_0 _ _⟩, ?_, fun _ => rfl, ?_⟩
 ·repeat' first | exact plainIL _ _ | exact wk_refl _ | exact rfl | exact wk_refl _ | exact wks_nil | apply And.intro
 rintro x ⟨hx, ha⟩
 refine forkD (fun b => ?_) (fun b => ?_)
 ·have hlt : x < M.length := by omega
  have hvv : 0 <= (M.getD x 0) /\ (M.getD x 0) < (ss.length : Int) := by exact hin x (by omega)
  refine ⟨⟨by omega, by omega⟩, intAt (by omega) (by omega), ⟨rfl, rfl, rfl, rfl, trivial⟩, fun H' _ g => kAgC t rk hi hvv ⟨_, _, g.1⟩ ⟨_, _, g.2.1⟩ ⟨_, _, g.2.2.1⟩ ⟨_, _, g.2.2.2.1⟩, ⟨fun d => ?_, fun d => ?_⟩⟩
  ·have hq : (agI p ss rr i) (M.getD x 0) = false := notB d
   have mf := midP_first (q := (agI p ss rr i)) hlt ha hq
   refine ⟨fun e => absurd e (by rw [nn1]; decide), fun _ => ⟨vI64 (by omega), rfl, ⟨by omega, by rw [mf.2]; omega⟩, ?_, fun _ => rfl, ?_⟩⟩
   ·rw [mf.1, mf.2]
    repeat' first | exact plainIL _ _ | exact wk_refl _ | exact rfl | exact wk_refl _ | exact wks_nil | apply And.intro
   rintro y ⟨hy, hc⟩
   have hml := midP_len (q := (agI p ss rr i)) (show y <= M.length by omega)
   refine forkD (fun b => ?_) (fun b => ?_)
   ·have hma := midP_at (q := (agI p ss rr i)) (show y < M.length by omega)
    have hvv : 0 <= ((midP (agI p ss rr i) M y).getD y 0) /\ ((midP (agI p ss rr i) M y).getD y 0) < (ss.length : Int) := by rw [hma]; exact hin y (by omega)
    refine ⟨⟨by omega, by omega⟩, intAt (by omega) (by omega), ⟨rfl, rfl, rfl, rfl, trivial⟩, fun H' _ g => kAgC t rk hi hvv ⟨_, _, g.1⟩ ⟨_, _, g.2.1⟩ ⟨_, _, g.2.2.1⟩ ⟨_, _, g.2.2.2.1⟩, ⟨fun d => ?_, fun d => ?_⟩⟩
    ·have hq2 : (agI p ss rr i) (M.getD y 0) = true := by rw [<- hma]; exact notB2 (notB d)
     have h1 := midP_1 (q := (agI p ss rr i)) (show y < M.length by omega) hq2
     have h2 := keepP_1 (q := (agI p ss rr i)) (show y < M.length by omega) hq2
     have h3 : (keepP (agI p ss rr i) M (y + 1)).length = (keepP (agI p ss rr i) M y).length + 1 := by rw [h2, List.length_append]; rfl
     have h4 := flat_set (f := intC) intC_len (midP (agI p ss rr i) M y) (keepP (agI p ss rr i) M y).length (by omega) ((midP (agI p ss rr i) M y).getD y 0)
     rw [show (midP (agI p ss rr i) M y).set (keepP (agI p ss rr i) M y).length ((midP (agI p ss rr i) M y).getD y 0) = midP (agI p ss rr i) M (y + 1) by rw [hma, h1]] at h4
     refine ⟨⟨by omega, by omega⟩, by rw [flat_len intC_len, hml]; omega, rfl, vI64 (by omega), vI64 (by omega), y + 1, ⟨by omega, by omega⟩, by omega, rfl, ?_⟩
     rw [h3, show 0 + Int.toNat (((keepP (agI p ss rr i) M y).length : Nat) : Int) * 1 = (keepP (agI p ss rr i) M y).length * 1 by omega]
     repeat' first | exact plainIL _ _ | exact wk_refl _ | (exact congrArg (fun l => some (KObj.cells true 1 l)) h4) | exact rfl | exact wk_refl _ | exact wks_nil | apply And.intro
    ·have hq2 : (agI p ss rr i) (M.getD y 0) = false := by rw [<- hma]; exact notB (notB2 d)
     have h1 := midP_0 (q := (agI p ss rr i)) (show y < M.length by omega) hq2
     have h2 := keepP_0 (q := (agI p ss rr i)) (show y < M.length by omega) hq2
     refine ⟨vI64 (by omega), y + 1, ⟨by omega, by rw [h2]; omega⟩, by omega, rfl, ?_⟩
     rw [h1, h2]
     repeat' first | exact plainIL _ _ | exact wk_refl _ | exact rfl | exact wk_refl _ | exact wks_nil | apply And.intro
   ·obtain rfl : y = k := by omega
    refine ⟨⟨⟨.inr (.inr rfl), Nat.le_refl _⟩, Nat.le_refl _, by omega, by omega⟩, by rw [Int.toNat_natCast], by rw [flat_len intC_len, hml]; omega, rfl, ⟨⟨.inr (.inr rfl), by omega⟩, ⟨by omega, by omega⟩, by omega⟩, by rw [Int.toNat_natCast]; rfl, rfl, wk_refl _, ⟨⟨?_, plainIL _ _⟩, trivial⟩, trivial⟩
    rw [Int.toNat_natCast, clr_del (by omega)]
  ·have hq : (agI p ss rr i) (M.getD x 0) = true := notB2 d
   have ha2 := all_1 (by omega) ha hq
   refine ⟨vI64 (by omega), x + 1, ⟨by omega, ha2⟩, by omega, rfl, ?_⟩
   repeat' first | exact plainIL _ _ | exact wk_refl _ | exact rfl | exact wk_refl _ | exact wks_nil | apply And.intro
 ·obtain rfl : x = k := by omega
  have da := delP_all (q := (agI p ss rr i)) (by omega) ha
  rw [da.1, da.2]
  repeat' first | exact plainIL _ _ | exact wk_refl _ | exact rfl | exact wk_refl _ | exact wks_nil | apply And.intro
theorem hvdelN {M : List Int} {k : Nat} {i : Int} (hk : k <= M.length) (hM : M.length <= 1000)  : RdelN M k i := by
 delta RdelN km2 kmb kme kmq kmg kmv kmy kmj km4 km6 km1 kmh kms kmc kmu km9 kml km5 kmn km7
 refine ⟨rfl, ⟨Nat.zero_le _, all_0 _ _⟩, ?_, fun _ => rfl, ?_⟩
 ·repeat' first | exact plainIL _ _ | exact wk_refl _ | exact rfl | exact wk_refl _ | exact wks_nil | apply And.intro
 rintro x ⟨hx, ha⟩
 refine forkD (fun b => ?_) (fun b => ?_)
 ·have hlt : x < M.length := by omega
  refine ⟨⟨by omega, by omega⟩, intAt (by omega) (by omega), ⟨fun d => ?_, fun d => ?_⟩⟩
  ·have hq : (qNe i) (M.getD x 0) = false := qNe_0 d
   have mf := midP_first (q := (qNe i)) hlt ha hq
   refine ⟨fun e => absurd e (by rw [nn1]; decide), fun _ => ⟨vI64 (by omega), rfl, ⟨by omega, by rw [mf.2]; omega⟩, ?_, fun _ => rfl, ?_⟩⟩
   ·rw [mf.1, mf.2]
    repeat' first | exact plainIL _ _ | exact wk_refl _ | exact rfl | exact wk_refl _ | exact wks_nil | apply And.intro
   rintro y ⟨hy, hc⟩
   have hml := midP_len (q := (qNe i)) (show y <= M.length by omega)
   refine forkD (fun b => ?_) (fun b => ?_)
   ·have hma := midP_at (q := (qNe i)) (show y < M.length by omega)
    refine ⟨⟨by omega, by omega⟩, intAt (by omega) (by omega), ⟨fun d => ?_, fun d => ?_⟩⟩
    ·have hq2 : (qNe i) (M.getD y 0) = true := by rw [<- hma]; exact qNe_1 (notB d)
     have h1 := midP_1 (q := (qNe i)) (show y < M.length by omega) hq2
     have h2 := keepP_1 (q := (qNe i)) (show y < M.length by omega) hq2
     have h3 : (keepP (qNe i) M (y + 1)).length = (keepP (qNe i) M y).length + 1 := by rw [h2, List.length_append]; rfl
     have h4 := flat_set (f := intC) intC_len (midP (qNe i) M y) (keepP (qNe i) M y).length (by omega) ((midP (qNe i) M y).getD y 0)
     rw [show (midP (qNe i) M y).set (keepP (qNe i) M y).length ((midP (qNe i) M y).getD y 0) = midP (qNe i) M (y + 1) by rw [hma, h1]] at h4
     refine ⟨⟨by omega, by omega⟩, by rw [flat_len intC_len, hml]; omega, rfl, vI64 (by omega), vI64 (by omega), y + 1, ⟨by omega, by omega⟩, by omega, rfl, ?_⟩
     rw [h3, show 0 + Int.toNat (((keepP (qNe i) M y).length : Nat) : Int) * 1 = (keepP (qNe i) M y).length * 1 by omega]
     repeat' first | exact plainIL _ _ | exact wk_refl _ | (exact congrArg (fun l => some (KObj.cells true 1 l)) h4) | exact rfl | exact wk_refl _ | exact wks_nil | apply And.intro
    ·have hq2 : (qNe i) (M.getD y 0) = false := by rw [<- hma]; exact qNe_0 (notB2 d)
     have h1 := midP_0 (q := (qNe i)) (show y < M.length by omega) hq2
     have h2 := keepP_0 (q := (qNe i)) (show y < M.length by omega) hq2
     refine ⟨vI64 (by omega), y + 1, ⟨by omega, by rw [h2]; omega⟩, by omega, rfl, ?_⟩
     rw [h1, h2]
     repeat' first | exact plainIL _ _ | exact wk_refl _ | exact rfl | exact wk_refl _ | exact wks_nil | apply And.intro
   ·obtain rfl : y = k := by omega
    refine ⟨⟨⟨.inr (.inr rfl), Nat.le_refl _⟩, Nat.le_refl _, by omega, by omega⟩, by rw [Int.toNat_natCast], by rw [flat_len intC_len, hml]; omega, rfl, ⟨⟨.inr (.inr rfl), by omega⟩, ⟨by omega, by omega⟩, by omega⟩, by rw [Int.toNat_natCast]; rfl, rfl, wk_refl _, ⟨⟨?_, plainIL _ _⟩, trivial⟩, trivial⟩
    rw [Int.toNat_natCast, clr_del (by omega)]
  ·have hq : (qNe i) (M.getD x 0) = true := qNe_1 d
   have ha2 := all_1 (by omega) ha hq
   refine ⟨vI64 (by omega), x + 1, ⟨by omega, ha2⟩, by omega, rfl, ?_⟩
   repeat' first | exact plainIL _ _ | exact wk_refl _ | exact rfl | exact wk_refl _ | exact wks_nil | apply And.intro
 ·obtain rfl : x = k := by omega
  have da := delP_all (q := (qNe i)) (by omega) ha
  rw [da.1, da.2]
  repeat' first | exact plainIL _ _ | exact wk_refl _ | exact rfl | exact wk_refl _ | exact wks_nil | apply And.intro
theorem kDelA {M : List Int} {k : Nat} {w h : Int} {a : List Bool} {p : Int} {ss : List (Int × Int)} {rr : List (List Int)} {i : Int} (hk : k <= M.length) (hM : M.length <= 1000) (t : TrOk w h a p ss) (rk : RowsOk a ss rr) (hi : 0 <= i /\ i < (ss.length : Int)) (hin : ∀ x, x < k -> 0 <= M.getD x 0 /\ M.getD x 0 < (ss.length : Int)) {H : Heap} {D b c r j l q : Nat} (hD : H[D]? = some (.cells true 1 (M.flatMap intC))) (hne : D ∉ [b, c, r, j, l, q])
  (h1 : ∃ o z, H[b]? = some (.cells o z [.pointer (some ⟨r, 0, none⟩)])) (h2 : ∃ o z, H[c]? = some (.cells o z [.int .i64 i])) (h3 : ∃ o z, H[r]? = some (.cells o z (wkCs w h a p ss rr j l q))) (h4 : ∃ o z, H[j]? = some (.cells o z (a.flatMap boolC))) (h5 : ∃ o z, H[l]? = some (.cells o z (ss.flatMap spC))) (h6 : ∃ o z, H[q]? = some (.cells o z (inL rr))) :
  KCall prog 84 [slQ D 2 k, .func (.func 86) #[] #[.pointer (some ⟨b, 0, none⟩), .pointer (some ⟨c, 0, none⟩)]] H [D] (Is (slQ D 2 (keepP (agI p ss rr i) M k).length) (H.set D (.cells true 1 ((delP (agI p ss rr i) M k).flatMap intC)))) :=
 valG1 (css := ctxD w h a p ss rr i) (Eq.mpr (EdelA M k w h a p ss rr i) (hvdelA hk hM t rk hi hin)) (plainIL _ _) (plainIL _ _) hD (ids := [b, c, r, j, l, q]) ⟨h1, h2, h3, by rw [rnBool]; exact h4, by rw [rnSp]; exact h5, by rw [rnInL]; exact h6, trivial⟩ hne rfl
theorem kDelI {M : List Int} {k : Nat} {i : Int} (hk : k <= M.length) (hM : M.length <= 1000) {H : Heap} {D c : Nat} (hD : H[D]? = some (.cells true 1 (M.flatMap intC))) (hne : D ≠ c) (h2 : ∃ o z, H[c]? = some (.cells o z [.int .i64 i])) :
  KCall prog 84 [slQ D 2 k, .func (.func 89) #[] #[.pointer (some ⟨c, 0, none⟩)]] H [D] (Is (slQ D 2 (keepP (qNe i) M k).length) (H.set D (.cells true 1 ((delP (qNe i) M k).flatMap intC)))) :=
 valG1 (css := [[.int .i64 i]]) (Eq.mpr (EdelN M k i) (hvdelN hk hM)) (plainIL _ _) (plainIL _ _) hD (ids := [c]) ⟨h2, trivial⟩ (by simpa using hne) rfl
theorem hvCont {M : List Int} {k : Nat} {i : Int} (hk : k <= M.length) (hM : M.length <= 1000) : Rcont (.bool ((M.take k).any fun v => v == i)) M k i := by
 delta Rcont kmb kme kmo kmg kmv kmy kmj km4 km6 kmh kms
 refine ⟨rfl, ⟨Nat.zero_le _, (by rw [List.take_zero]; rfl)⟩, ?_, fun _ => rfl, ?_⟩
 ·repeat' first | exact plainIL _ _ | exact wk_refl _ | exact rfl | exact wk_refl _ | exact wks_nil | apply And.intro
 rintro x ⟨hx, ha⟩
 refine forkD (fun b => ?_) (fun b => ?_)
 ·refine ⟨⟨by omega, by omega⟩, intAt (by omega) (by omega), fun d => ?_, fun d => ?_⟩
  ·show Value.bool _ = Value.bool _
   rw [decide_eq_true (show (0 : Int) <= ((x : Nat) : Int) by omega)]
   congr 1
   symm
   rw [List.any_eq_true]
   refine ⟨M.getD x 0, ?_, by rw [eq_of_beq d]; exact beq_self_eq_true _⟩
   rw [List.mem_iff_getElem]
   refine ⟨x, by rw [List.length_take]; omega, ?_⟩
   rw [List.getElem_take, gI (by omega)]
  ·refine ⟨vI64 (by omega), x + 1, ⟨by omega, ?_⟩, by omega, rfl, ?_⟩
   ·rw [take_snoc (d := 0) (by omega), List.any_append, ha, List.any_cons, List.any_nil, Bool.or_false, Bool.false_or]
    exact beq_eq_false_iff_ne.2 fun e => (beq_eq_false_iff_ne.1 d) e.symm
   ·repeat' first | exact plainIL _ _ | exact wk_refl _ | exact rfl | exact wk_refl _ | exact wks_nil | apply And.intro
 ·obtain rfl : x = k := by omega
  show Value.bool _ = Value.bool _
  rw [ha]
theorem kCont {M : List Int} {k : Nat} {i : Int} (hk : k <= M.length) (hM : M.length <= 1000) {H : Heap} {D : Nat} {o z} (hD : H[D]? = some (.cells o z (M.flatMap intC))) :
  KCall prog 88 [.slice (some ⟨D, 0, none⟩) k k, .int .i64 i] H [] (Is (.bool ((M.take k).any fun v => v == i)) H) :=
 valR (css := [M.flatMap intC]) (Eq.mpr (Econt _ M k i) (hvCont hk hM)) (one_cs (plainIL 0 _)) rfl [D] rfl (one_id hD)
end
end Go.Proofs.YtbgfjemppjhmjaaGreat
/- What is to be shown of functions. Printed by a program. No condition. -/
namespace Go.Proofs.YtbgfjemppjhmjaaGreat
set_option linter.unusedSimpArgs false
open Go Go.K
set_option maxRecDepth 100000
set_option maxHeartbeats 4000000
set_option linter.unusedVariables false
noncomputable section
abbrev kl7 (M : List Int) (k : Nat) : KObj:=.cells true 1 ((M.take k).flatMap intC)
def RclI (M : List Int) (k : Nat) : Prop :=
 ((k = 0 -> (((0 + k) * 8 <= 2 ^ 44 /\ k = 0) /\ (true = true /\ wk (slQ 1 1 0 : Value) (rn (sg 1 [(1,1)]) 3 (slQ 1 1 k : Value)) /\ ((some (.cells true 1 [] : KObj) = some (kl7 M k) /\ belowO 1 (kl7 M k) = true) /\ True)))) /\ (¬ (k = 0) -> (((0 + k) * 8 <= 2 ^ 44 /\ k ≠ 0 /\ (0 <= 0 /\ 0 + 0 * 1 <= List.length ([] : List Value)) /\ (k <= k /\ 0 + k * 1 <= List.length (M.flatMap intC)) /\ ((((M.flatMap intC).drop 0).take (k * 1)) : List Value).all (fun v => one1 v) = true) /\ true = true /\ (true = true /\ wk (.slice (some ⟨2,0,none⟩) (0 + k) (0 + k) : Value) (rn (sg 1 [(1,2)]) 3 (slQ 1 1 k : Value)) /\ ((some (.cells true 1 (((([] : List Value).drop 0).take (0 * 1)) ++ (((M.flatMap intC).drop 0).take (k * 1))) : KObj) = some (kl7 M k) /\ belowO 1 (kl7 M k) = true) /\ True)))))
theorem EclI (M : List Int) (k : Nat) : vF prog msk (dm 0) 100000 true 40 true 85 [.slice (some ⟨0,0,none⟩) k k] (readsT 0 [M.flatMap intC]) (some [])
 (.go 5 (.cas (k = 0) (.val (.bool true) (.go 0 (.again [(1,1)]))) (.need (.go 0 (.again [(1,2)])))))
 (newK ((readsT 0 [M.flatMap intC]) : HT).n 3 (slQ 1 1 k) [(true,.cells true 1 ((M.take k).flatMap intC))]) = RclI M k:=by kernel_rfl
abbrev kld : List Value:=[.pointer (some ⟨2,0,none⟩)]
abbrev kl4 (w : Int) (h : Int) (a : List Bool) (p : Int) (ss : List (Int × Int)) (rr : List (List Int)) : List Value:=[nI w,nI h,slQ 0 2 a.length,nI p,slQ 1 2 ss.length,slQ 3 1 rr.length]
abbrev klb (o1 : Bool) (z1 : Nat) (a : List Bool) (o2 : Bool) (z2 : Nat) (ss : List (Int × Int)) (rr : List (List Int)) : Prop:=(someR (.cells o1 z1 (a.flatMap boolC))) /\ (someR (.cells o2 z2 (ss.flatMap spC))) /\ (someR (.cells true 1 (inL rr))) /\ True
abbrev kl9 (H' : Heap) (o1 : Bool) (z1 : Nat) (a : List Bool) (o2 : Bool) (z2 : Nat) (ss : List (Int × Int)) (rr : List (List Int)) : Prop:=H'[0]? = some (.cells o1 z1 (a.flatMap boolC) : KObj) /\ H'[1]? = some (.cells o2 z2 (ss.flatMap spC) : KObj) /\ H'[3]? = some (.cells true 1 (inL rr) : KObj) /\ True
abbrev kl1 (ss : List (Int × Int)) (M : List Int) (k : Nat):=isr (kyI ss) (M.take k) (M.take k).length
abbrev kl5 (k : Nat) : Prop:=(.pointer (some ⟨5,0,none⟩) : Value) = .pointer (some ⟨5,0,none⟩) /\ (.map none : Value) = .map none /\ wkR (slQ 6 1 k) /\ (.map (some 7) : Value) = .map (some 7) /\ wkR (slQ 6 1 k) /\ (nI ((k : Nat) : Int) : Value) = nI ((k : Nat) : Int) /\ True
abbrev klc : Prop:=(True) /\ (True)
abbrev kl3 (k : Nat) (n_0 : Nat) (ss : List (Int × Int)) (M : List Int) : Prop:=(nI ((k : Nat) : Int) : Value) = nI ((k : Nat) : Int) /\ wkR (slQ 6 1 k) /\ (.map (some 7) : Value) = .map (some 7) /\ wkR (slQ 6 1 k) /\ (.map none : Value) = .map none /\ (.pointer (some ⟨5,0,none⟩) : Value) = .pointer (some ⟨5,0,none⟩) /\ (nI (n_0 : Int) : Value) = nI (n_0 : Int) /\ (nI (n_0 : Int) : Value) = nI (n_0 : Int) /\ (nI ((kl1 ss M k).getD n_0 0) : Value) = nI ((kl1 ss M k).getD n_0 0) /\ wkR (slQ 6 2 n_0) /\ (nI (n_0 : Int) : Value) = nI (n_0 : Int) /\ True
abbrev kl6 (ss : List (Int × Int)) (M : List Int) (k : Nat) (n_1 : Nat) (p : Int) (rr : List (List Int)) (n_0 : Nat):=getA ((kl1 ss M k).getD n_1 0) 0 (hEJ (agI p ss rr) (kl1 ss M k) n_0 n_1)
abbrev kl2 (p : Int) (ss : List (Int × Int)) (rr : List (List Int)) (M : List Int) (k : Nat):=hE (agI p ss rr) (kl1 ss M k) (kl1 ss M k).length
def Rhgts (o1 o2 : Bool) (z1 z2 : Nat) (o3 : Bool) (z3 : Nat) (w h : Int) (a : List Bool) (p : Int) (ss : List (Int × Int)) (rr : List (List Int)) (M : List Int) (k : Nat) : Prop :=
 (((someR (.cells o3 z3 (M.flatMap intC))) /\ True) /\ (∀ H' : Heap,H'.length = 6 -> (H'[4]? = some (.cells o3 z3 (M.flatMap intC) : KObj) /\ True) -> KCall prog 85 [slQ 4 2 k] H' [] (Is (slQ 6 1 k) (H' ++ [(kl7 M k)]))) /\ (((someR (.cells true 1 ((M.take k).flatMap intC))) /\ (someR (.cells true 0 kld)) /\ (someR (.cells true 0 (kl4 w h a p ss rr))) /\ klb o1 z1 a o2 z2 ss rr) /\ (∀ H' : Heap,H'.length = 7 -> (H'[6]? = some (kl7 M k) /\ H'[5]? = some (.cells true 0 kld : KObj) /\ H'[2]? = some (.cells true 0 (kl4 w h a p ss rr) : KObj) /\ kl9 H' o1 z1 a o2 z2 ss rr) -> KCall prog 226 [slQ 6 1 k,nI ((k : Nat) : Int),.func (.func 166) #[] #[.pointer (some ⟨5,0,none⟩)]] H' [6] (Is (.tuple #[]) (List.set H' 6 (.cells true 1 ((kl1 ss M k).flatMap intC) : KObj)))) /\ (true = true /\ (0 <= List.length (kl1 ss M k)) /\ (true = true /\ ((nI 0 : Value) = nI ((0 : Nat) : Int) /\ kl5 k) /\ ((some (.map (mapI []) : KObj) = some (.map (mapI (hE (agI p ss rr) (kl1 ss M k) 0)) : KObj) /\ belowO 8 (.map (mapI (hE (agI p ss rr) (kl1 ss M k) 0)) : KObj) = true) /\ True) /\ klc) /\ (∀ n_0 : Nat,true = true) /\ ∀ n_0 : Nat,(n_0 <= List.length (kl1 ss M k)) -> (((decide (((n_0 : Int) : Int) < ((k : Nat) : Int))) = true -> (((0 : Int) <= (n_0 : Int) /\ ((n_0 : Int) : Int) < ((k : Nat) : Int)) /\ ((((kl1 ss M k).flatMap intC)[(0 + Int.toNat (n_0 : Int) * 1)]? = some (nI ((kl1 ss M k).getD n_0 0))) /\ ((ksetE prog 3 (nI ((kl1 ss M k).getD n_0 0)) (nI 1) (mapI (hE (agI p ss rr) (kl1 ss M k) n_0)) = some (mapI (putA ((kl1 ss M k).getD n_0 0) 1 (hE (agI p ss rr) (kl1 ss M k) n_0)))) /\ ((((true = false ∨ 1 = 0 ∨ 1 = 1) /\ (n_0 : Int).toNat <= k) /\ ((0 : Int) <= (n_0 : Int) /\ ((n_0 : Int) : Int) <= ((k : Nat) : Int)) /\ (0 <= (n_0 : Int).toNat)) /\ ((slQ 6 2 ((n_0 : Int).toNat - 0) : Value) = slQ 6 2 n_0 /\ (true = true /\ (0 <= n_0) /\ (true = true /\ ((nI 0 : Value) = nI ((0 : Nat) : Int) /\ kl3 k n_0 ss M) /\ ((some (.map (mapI (putA ((kl1 ss M k).getD n_0 0) 1 (hE (agI p ss rr) (kl1 ss M k) n_0))) : KObj) = some (.map (mapI (hEJ (agI p ss rr) (kl1 ss M k) n_0 0)) : KObj) /\ belowO 8 (.map (mapI (hEJ (agI p ss rr) (kl1 ss M k) n_0 0)) : KObj) = true) /\ True) /\ klc) /\ (∀ n_1 : Nat,true = true) /\ ∀ n_1 : Nat,(n_1 <= n_0) -> (((decide (((n_1 : Int) : Int) < (n_0 : Int))) = true -> (((0 : Int) <= (n_1 : Int) /\ ((n_1 : Int) : Int) < (n_0 : Int)) /\ ((((kl1 ss M k).flatMap intC)[(0 + Int.toNat (n_1 : Int) * 1)]? = some (nI ((kl1 ss M k).getD n_1 0))) /\ (((someR (.cells true 0 (kl4 w h a p ss rr))) /\ klb o1 z1 a o2 z2 ss rr) /\ (∀ H' : Heap,H'.length = 8 -> (H'[2]? = some (.cells true 0 (kl4 w h a p ss rr) : KObj) /\ kl9 H' o1 z1 a o2 z2 ss rr) -> KCall prog 87 [.pointer (some ⟨2,0,none⟩),nI ((kl1 ss M k).getD n_1 0),nI ((kl1 ss M k).getD n_0 0)] H' [] (Is (.bool (agI p ss rr ((kl1 ss M k).getD n_1 0) ((kl1 ss M k).getD n_0 0))) H')) /\ (((agI p ss rr ((kl1 ss M k).getD n_1 0) ((kl1 ss M k).getD n_0 0)) = true -> ((klookE prog 3 (nI 0) (nI ((kl1 ss M k).getD n_0 0)) false (mapI (hEJ (agI p ss rr) (kl1 ss M k) n_0 n_1)) = some (nI (getA ((kl1 ss M k).getD n_0 0) 0 (hEJ (agI p ss rr) (kl1 ss M k) n_0 n_1)))) /\ ((klookE prog 3 (nI 0) (nI ((kl1 ss M k).getD n_1 0)) false (mapI (hEJ (agI p ss rr) (kl1 ss M k) n_0 n_1)) = some (nI (kl6 ss M k n_1 p rr n_0))) /\ ((nI (IntKind.wrap .i64 ((kl6 ss M k n_1 p rr n_0) + 1)) : Value) = nI ((kl6 ss M k n_1 p rr n_0) + 1) /\ (∃ i_2 : Int,(nI (if (((kl6 ss M k n_1 p rr n_0) + 1) : Int) > (getA ((kl1 ss M k).getD n_0 0) 0 (hEJ (agI p ss rr) (kl1 ss M k) n_0 n_1)) then (((kl6 ss M k n_1 p rr n_0) + 1) : Int) else (getA ((kl1 ss M k).getD n_0 0) 0 (hEJ (agI p ss rr) (kl1 ss M k) n_0 n_1))) : Value) = nI i_2 /\ ((ksetE prog 3 (nI ((kl1 ss M k).getD n_0 0)) (nI i_2) (mapI (hEJ (agI p ss rr) (kl1 ss M k) n_0 n_1)) = some (mapI (putA ((kl1 ss M k).getD n_0 0) i_2 (hEJ (agI p ss rr) (kl1 ss M k) n_0 n_1)))) /\ ((nI (IntKind.wrap .i64 ((n_1 : Int) + 1)) : Value) = nI ((n_1 : Int) + 1) /\ (∃ n_3' : Nat,(n_3' <= n_0) /\ (n_0 - n_3') < (n_0 - n_1) /\ true = true /\ ((nI ((n_1 : Int) + 1) : Value) = nI (n_3' : Int) /\ kl3 k n_0 ss M) /\ ((some (.map (mapI (putA ((kl1 ss M k).getD n_0 0) i_2 (hEJ (agI p ss rr) (kl1 ss M k) n_0 n_1))) : KObj) = some (.map (mapI (hEJ (agI p ss rr) (kl1 ss M k) n_0 n_3')) : KObj) /\ belowO 8 (.map (mapI (hEJ (agI p ss rr) (kl1 ss M k) n_0 n_3')) : KObj) = true) /\ True) /\ klc)))))))) /\ ((agI p ss rr ((kl1 ss M k).getD n_1 0) ((kl1 ss M k).getD n_0 0)) = false -> ((nI (IntKind.wrap .i64 ((n_1 : Int) + 1)) : Value) = nI ((n_1 : Int) + 1) /\ (∃ n_2' : Nat,(n_2' <= n_0) /\ (n_0 - n_2') < (n_0 - n_1) /\ true = true /\ ((nI ((n_1 : Int) + 1) : Value) = nI (n_2' : Int) /\ kl3 k n_0 ss M) /\ ((some (.map (mapI (hEJ (agI p ss rr) (kl1 ss M k) n_0 n_1)) : KObj) = some (.map (mapI (hEJ (agI p ss rr) (kl1 ss M k) n_0 n_2')) : KObj) /\ belowO 8 (.map (mapI (hEJ (agI p ss rr) (kl1 ss M k) n_0 n_2')) : KObj) = true) /\ True) /\ klc)))))))) /\ ((decide (((n_1 : Int) : Int) < (n_0 : Int))) = false -> ((nI (IntKind.wrap .i64 ((n_0 : Int) + 1)) : Value) = nI ((n_0 : Int) + 1) /\ (∃ n_2' : Nat,(n_2' <= List.length (kl1 ss M k)) /\ (List.length (kl1 ss M k) - n_2') < (List.length (kl1 ss M k) - n_0) /\ true = true /\ ((nI ((n_0 : Int) + 1) : Value) = nI (n_2' : Int) /\ kl5 k) /\ ((some (.map (mapI (hEJ (agI p ss rr) (kl1 ss M k) n_0 n_1)) : KObj) = some (.map (mapI (hE (agI p ss rr) (kl1 ss M k) n_2')) : KObj) /\ belowO 8 (.map (mapI (hE (agI p ss rr) (kl1 ss M k) n_2')) : KObj) = true) /\ True) /\ klc))))))))))) /\ ((decide (((n_0 : Int) : Int) < ((k : Nat) : Int))) = false -> (true = true /\ wk (.map (some 7) : Value) (rn (sg 5 [(5,7)]) 3 (.map (some 5) : Value)) /\ ((some (.map (mapI (hE (agI p ss rr) (kl1 ss M k) n_0)) : KObj) = some (.map (mapI (kl2 p ss rr M k)) : KObj) /\ belowO 5 (.map (mapI (kl2 p ss rr M k)) : KObj) = true) /\ True)))))))
abbrev kle (k : Nat) : List Value:=[.pointer (some ⟨2,0,none⟩),slQ 4 2 k]
abbrev kl8 (o1 : Bool) (z1 : Nat) (a : List Bool) (o2 : Bool) (z2 : Nat) (ss : List (Int × Int)) (w : Int) (h : Int) (p : Int) (rr : List (List Int)) (o3 : Bool) (z3 : Nat) (M : List Int):=readsK [.cells o1 z1 (a.flatMap boolC),.cells o2 z2 (ss.flatMap spC),.cells true 0 (kl4 w h a p ss rr),.cells true 1 (inL rr),.cells o3 z3 (M.flatMap intC)]
abbrev kl0 (qn0 : Nat) (qn1 : Nat) : Hint:=.go 0 (.slot qn0 (nI ((qn1 : Int) + 1)) (.go 0 (.again [])))
theorem Ehgts (o1 o2 : Bool) (z1 z2 : Nat) (o3 : Bool) (z3 : Nat) (w h : Int) (a : List Bool) (p : Int) (ss : List (Int × Int)) (rr : List (List Int)) (M : List Int) (k : Nat) : vF prog msk (dm 0) 100000 true 40 true 106 (kle k) (kl8 o1 z1 a o2 z2 ss w h p rr o3 z3 M) (some [])
 (.go 2 (.ans [(4,.cells o3 z3 (M.flatMap intC))] (slQ 6 1 k) [.cells true 1 ((M.take k).flatMap intC)] (.go 2 (.into (some [5,6]) (.go 3 (.answ [(6,.cells true 1 ((M.take k).flatMap intC)),(5,.cells true 0 kld),(2,.cells true 0 (kl4 w h a p ss rr)),(0,.cells o1 z1 (a.flatMap boolC)),(1,.cells o2 z2 (ss.flatMap spC)),(3,.cells true 1 (inL rr))] (.tuple #[]) [(6,.cells true 1 ((kl1 ss M k).flatMap intC))] [] (.keep (.go 4 (.inv 3 (Nat) (0) [] [7] (fun n_0 => [(19,nI (n_0 : Int)),(2,.pointer (some ⟨5,0,none⟩)),(4,.map none),(5,slQ 6 1 k),(6,.map (some 7)),(17,slQ 6 1 k),(18,nI ((k : Nat) : Int))]) (fun n_0 => [(7,true,.map (mapI (hE (agI p ss rr) (kl1 ss M k) n_0)))]) (fun n_0 => []) (fun n_0 => []) (fun n_0 => (n_0 <= List.length (kl1 ss M k))) (fun n_0 => (List.length (kl1 ss M k) - n_0)) (fun n_0 => .go 0 (.fork (.go 0 (.need (.val (nI ((kl1 ss M k).getD n_0 0)) (.go 3 (.mset (mapI (putA ((kl1 ss M k).getD n_0 0) 1 (hE (agI p ss rr) (kl1 ss M k) n_0))) (.go 1 (.need (.slot 28 (slQ 6 2 n_0) (.go 1 (.inv 3 (Nat) (0) [] [7] (fun n_1 => [(30,nI (n_1 : Int)),(18,nI ((k : Nat) : Int)),(17,slQ 6 1 k),(6,.map (some 7)),(5,slQ 6 1 k),(4,.map none),(2,.pointer (some ⟨5,0,none⟩)),(19,nI (n_0 : Int)),(7,nI (n_0 : Int)),(8,nI ((kl1 ss M k).getD n_0 0)),(28,slQ 6 2 n_0),(29,nI (n_0 : Int))]) (fun n_1 => [(7,true,.map (mapI (hEJ (agI p ss rr) (kl1 ss M k) n_0 n_1)))]) (fun n_1 => []) (fun n_1 => []) (fun n_1 => (n_1 <= n_0)) (fun n_1 => (n_0 - n_1)) (fun n_1 => .go 0 (.fork (.need (.val (nI ((kl1 ss M k).getD n_1 0)) (.go 3 (.ans [(2,.cells true 0 (kl4 w h a p ss rr)),(0,.cells o1 z1 (a.flatMap boolC)),(1,.cells o2 z2 (ss.flatMap spC)),(3,.cells true 1 (inL rr))] (.bool (agI p ss rr ((kl1 ss M k).getD n_1 0) ((kl1 ss M k).getD n_0 0))) [] (.fork (.go 3 (.val (nI (getA ((kl1 ss M k).getD n_0 0) 0 (hEJ (agI p ss rr) (kl1 ss M k) n_0 n_1))) (.go 1 (.val (nI (kl6 ss M k n_1 p rr n_0)) (.go 0 (.slot 46 (nI ((kl6 ss M k n_1 p rr n_0) + 1)) (.go 0 (.bind Int (fun i_2 => .slot 47 (nI i_2) (.mset (mapI (putA ((kl1 ss M k).getD n_0 0) i_2 (hEJ (agI p ss rr) (kl1 ss M k) n_0 n_1))) (kl0 48 n_1))))))))))) (kl0 48 n_1)))))) (kl0 49 n_0))))))))))))) (.go 1 (.again [(5,7)])))))))))))))
 (newK ((kl8 o1 z1 a o2 z2 ss w h p rr o3 z3 M) : HT).n 3 (.map (some 5)) [(true,.map (mapI (kl2 p ss rr M k)))]) = Rhgts o1 o2 z1 z2 o3 z3 w h a p ss rr M k:=by kernel_rfl
abbrev kla : Prop:=(nI 0 : Value) = nI 0 /\ (.pointer (some ⟨6,0,none⟩) : Value) = .pointer (some ⟨6,0,none⟩) /\ True
def Rmosts (o1 o2 : Bool) (z1 z2 : Nat) (o3 : Bool) (z3 : Nat) (w h : Int) (a : List Bool) (p : Int) (ss : List (Int × Int)) (rr : List (List Int)) (M : List Int) (k : Nat) : Prop :=
 (((someR (.cells true 0 (kl4 w h a p ss rr))) /\ (someR (.cells o3 z3 (M.flatMap intC))) /\ klb o1 z1 a o2 z2 ss rr) /\ (∀ H' : Heap,H'.length = 5 -> (H'[2]? = some (.cells true 0 (kl4 w h a p ss rr) : KObj) /\ H'[4]? = some (.cells o3 z3 (M.flatMap intC) : KObj) /\ kl9 H' o1 z1 a o2 z2 ss rr) -> KCall prog 106 (kle k) H' [] (Is (.map (some 5)) (H' ++ [(.map (mapI (kl2 p ss rr M k)) : KObj)]))) /\ (true = true /\ (SeenL (kl2 p ss rr M k).length ([] : List Nat)) /\ (true = true /\ ((nI 0 : Value) = nI (maxS (kl2 p ss rr M k) ([] : List Nat)) /\ kla) /\ ((some (.iter 5 (mapI (kl2 p ss rr M k)).length [] : KObj) = some (.iter 5 (mapI (kl2 p ss rr M k)).length ([] : List Nat) : KObj) /\ belowO 7 (.iter 5 (mapI (kl2 p ss rr M k)).length ([] : List Nat) : KObj) = true) /\ True) /\ klc) /\ (∀ x1 : List Nat,true = true) /\ ∀ x1 : List Nat,(SeenL (kl2 p ss rr M k).length x1) -> ((List.length (mapI (kl2 p ss rr M k)) = (mapI (kl2 p ss rr M k)).length) /\ (∀ n_0 : Nat,n_0 < (mapI (kl2 p ss rr M k)).length -> n_0 ∉ x1 -> ((List.length (mapI (kl2 p ss rr M k)) = (mapI (kl2 p ss rr M k)).length) /\ (entryE (mapI (kl2 p ss rr M k)) (x1 ++ [n_0]) = some (.tuple #[nI ((kl2 p ss rr M k).getD n_0 (0,0)).1,nI ((kl2 p ss rr M k).getD n_0 (0,0)).2])) /\ (∃ i_1 : Int,(nI (if (((kl2 p ss rr M k).getD n_0 (0,0)).2 : Int) > (maxS (kl2 p ss rr M k) x1) then (((kl2 p ss rr M k).getD n_0 (0,0)).2 : Int) else (maxS (kl2 p ss rr M k) x1)) : Value) = nI i_1 /\ (∃ x1' : List Nat,(SeenL (kl2 p ss rr M k).length x1') /\ (List.length (kl2 p ss rr M k) - List.length x1') < (List.length (kl2 p ss rr M k) - List.length x1) /\ true = true /\ ((nI i_1 : Value) = nI (maxS (kl2 p ss rr M k) x1') /\ kla) /\ ((some (.iter 5 (mapI (kl2 p ss rr M k)).length (x1 ++ [n_0]) : KObj) = some (.iter 5 (mapI (kl2 p ss rr M k)).length x1' : KObj) /\ belowO 7 (.iter 5 (mapI (kl2 p ss rr M k)).length x1' : KObj) = true) /\ True) /\ klc)))) /\ ((∀ n_0 : Nat,n_0 < (mapI (kl2 p ss rr M k)).length -> n_0 ∈ x1) -> (true = true /\ wk (nI (maxS (kl2 p ss rr M k) x1) : Value) (rn (sg 5 []) 3 (nI (mst (agI p ss rr) (kyI ss) (M.take k)) : Value)) /\ (True))))))
theorem Emosts (o1 o2 : Bool) (z1 z2 : Nat) (o3 : Bool) (z3 : Nat) (w h : Int) (a : List Bool) (p : Int) (ss : List (Int × Int)) (rr : List (List Int)) (M : List Int) (k : Nat) : vF prog msk (dm 0) 100000 true 40 true 83 (kle k) (kl8 o1 z1 a o2 z2 ss w h p rr o3 z3 M) (some [])
 (.go 3 (.ans [(2,.cells true 0 (kl4 w h a p ss rr)),(4,.cells o3 z3 (M.flatMap intC)),(0,.cells o1 z1 (a.flatMap boolC)),(1,.cells o2 z2 (ss.flatMap spC)),(3,.cells true 1 (inL rr))] (.map (some 5)) [.map (mapI (kl2 p ss rr M k))] (.go 0 (.inv 3 (List Nat) (([] : List Nat)) [] [6] (fun x1 => [(5,nI (maxS (kl2 p ss rr M k) x1)),(4,nI 0),(11,.pointer (some ⟨6,0,none⟩))]) (fun x1 => [(6,true,.iter 5 (mapI (kl2 p ss rr M k)).length x1)]) (fun x1 => []) (fun x1 => []) (fun x1 => (SeenL (kl2 p ss rr M k).length x1)) (fun x1 => (List.length (kl2 p ss rr M k) - List.length x1)) (fun x1 => .nxt (fun n_0 => .go 1 (.val (.tuple #[nI ((kl2 p ss rr M k).getD n_0 (0,0)).1,nI ((kl2 p ss rr M k).getD n_0 (0,0)).2]) (.go 4 (.bind Int (fun i_1 => .slot 18 (nI i_1) (.go 0 (.again []))))))) (.go 3 (.again [])))))))
 (newK ((kl8 o1 z1 a o2 z2 ss w h p rr o3 z3 M) : HT).n 3 (nI (mst (agI p ss rr) (kyI ss) (M.take k))) []) = Rmosts o1 o2 z1 z2 o3 z3 w h a p ss rr M k:=by kernel_rfl
end
end Go.Proofs.YtbgfjemppjhmjaaGreat
/- Radio: heights of sightings, and the greatest one. No condition. -/
namespace Go.Proofs.YtbgfjemppjhmjaaGreat
open Go Go.K
set_option maxRecDepth 100000
set_option linter.unusedVariables false
set_option linter.unusedSimpArgs false
noncomputable section
attribute [local irreducible] vF
theorem wk_ofR {id o l c : Nat} (hp : 0 < l) : wk (.slice (some ⟨id, o, some 2⟩) l c) (.slice (some ⟨id, o, none⟩) l c) := by
 intro ρ v hv
 cases hv with
 | sliceRe => omega
 | sliceR h _ hl hc ho => exact .slice h hl hc ho
theorem one1_I {M : List Int} : ∀ v ∈ M.flatMap intC, one1 v = true := by
 intro v hv
 obtain ⟨x, _, hx⟩ := List.mem_flatMap.1 hv
 rw [List.mem_singleton.1 hx]; rfl
theorem takeI : ∀ (M : List Int) (k : Nat), (M.flatMap intC).take k = (M.take k).flatMap intC
 | [], k => by simp
 | a :: M, 0 => rfl
 | a :: M, k + 1 => by rw [List.flatMap_cons, List.take_succ_cons, List.flatMap_cons, <- takeI M k]; rfl
theorem kCloneI (M : List Int) (k : Nat) (h0 : 0 < k) (hk : k <= M.length) (hM : M.length <= 1000) {H : Heap} {L : Nat} (hL : H.length = L) {i : Nat} {o : Bool} {z : Nat} (e : H[i]? = some (.cells o z (M.flatMap intC))) :
  KCall prog 85 [slQ i 2 k] H [] (Is (slQ L 1 k) (H ++ [.cells true 1 ((M.take k).flatMap intC)])) := by
 subst hL
 refine KCall.wkA (args2 := [.slice (some ⟨i, 0, none⟩) k k]) (valQ (fun i => slQ i 1 k) (Eq.mpr (EclI M k) ?_) (plainIL 0 M) (fun n => plainIL n _) rfl rfl (fun _ => rfl) e rfl) (wks_cons (wk_ofR h0) wks_nil)
 delta RclI kl7
 refine ⟨fun h => absurd h (by omega), fun h => ⟨⟨by omega, h, ⟨Nat.le_refl _, Nat.zero_le _⟩, ⟨Nat.le_refl _, by rw [flat_len intC_len]; omega⟩, ?_⟩, rfl, rfl, ?_, ⟨?_, plainIL _ _⟩, trivial⟩⟩
 ·rw [List.drop_zero, Nat.mul_one, takeI, List.all_eq_true]
  exact one1_I
 ·rw [Nat.zero_add]; exact wk_Q h0
 ·rw [show List.take (k * 1) (List.drop 0 (M.flatMap intC)) = (M.take k).flatMap intC by rw [List.drop_zero, Nat.mul_one, takeI]]; rfl
theorem keqI (a b : Int) : keqIn prog Op.maxDepth 3 (.int .i64 a) (.int .i64 b) = some (decide (a = b)) := by
 show some (a == b) = _
 congr 1
theorem eqI (a : Int) : keyEq (.int .i64 a) (.int .i64 a) = true := by show (a == a) = true; exact beq_self_eq_true a
theorem lookZ (F : List (Int × Int)) (x : Int) : klookE prog 3 (.int .i64 0) (.int .i64 x) false (mapI F) = some (.int .i64 (getA x 0 F)) :=
 look_A (key := fun k : Int => .int .i64 k) (val := fun v : Int => .int .i64 v) keqI x 0 rfl false F
theorem setZ (F : List (Int × Int)) (x v : Int) : ksetE prog 3 (.int .i64 x) (.int .i64 v) (mapI F) = some (mapI (putA x v F)) :=
 set_A (key := fun k : Int => .int .i64 k) (val := fun v : Int => .int .i64 v) keqI eqI x v F
theorem mapI_below (F : List (Int × Int)) (n : Nat) : belowO n (.map (mapI F)) = true := by
 show (mapI F).all _ = true
 unfold mapI encA
 rw [List.all_map, List.all_eq_true]
 intro m _; rfl
theorem mapI_rno (F : List (Int × Int)) (σ : Nat -> Option Nat) : rno σ 3 (.map (mapI F)) = .map (mapI F) := by
 show KObj.map ((mapI F).map _) = _
 congr 1
 unfold mapI encA
 simp only [List.map_map]
 exact List.map_congr_left fun m _ => rfl
theorem mapI_ok (F : List (Int × Int)) : rnoOk 3 (.map (mapI F)) = true := by
 show (mapI F).all _ = true
 unfold mapI encA
 rw [List.all_map, List.all_eq_true]
 intro m _; rfl
theorem mapI_len (F : List (Int × Int)) : (mapI F).length = F.length := encA_len ..
theorem srtK_perm (ss : List (Int × Int)) (L : List Int) : (isr (kyI ss) L L.length).Perm L := isr_all _ _
theorem hvHgts {o1 o2 : Bool} {z1 z2 : Nat} {o3 : Bool} {z3 : Nat} {w h : Int} {a : List Bool} {p : Int} {ss : List (Int × Int)} {rr : List (List Int)} {M : List Int} {k : Nat} (t : TrOk w h a p ss) (rk : RowsOk a ss rr) (h0 : 0 < k) (hk : k <= M.length) (hM : M.length <= 1000) (h19 : k <= 19) (hin : InS ss.length (M.take k)) (hnd : (M.take k).Nodup) : Rhgts o1 o2 z1 z2 o3 z3 w h a p ss rr M k := by
 have hl : (M.take k).length = k := take_len hk
 have hp := srtK_perm ss (M.take k)
 have hsl : (isr (kyI ss) (M.take k) (M.take k).length).length = k := by rw [isr_len, hl]
 have hsn : (isr (kyI ss) (M.take k) (M.take k).length).Nodup := hp.nodup_iff.2 hnd
 have hsi : InS ss.length (isr (kyI ss) (M.take k) (M.take k).length) := fun v hv => hin v (hp.mem_iff.1 hv)
 delta Rhgts kl7 kld kl4 klb kl9 kl1 kl5 klc kl3 kl6 kl2
 refine ⟨⟨rfl, trivial⟩, fun H' hl' g => kCloneI M k h0 hk hM hl' g.1, ⟨rfl, rfl, rfl, rfl, rfl, rfl, trivial⟩, fun H' hl' g => ?_, ?_⟩
 ·have key := kStab (M := M.take k) t hin (by omega) (D := 6) (b := 5) (r := 2) (i := 0) (j := 1) (q := 3) g.1 ⟨by decide, ⟨_, _, g.2.1⟩, ⟨_, _, g.2.2.1⟩, ⟨_, _, g.2.2.2.1⟩, ⟨_, _, g.2.2.2.2.1⟩, ⟨_, _, g.2.2.2.2.2.1⟩⟩
  rw [hl] at key ⊢
  exact key.wkA ⟨wk_QR, wk_refl _, wk_refl _, trivial⟩
 ·generalize hS : isr (kyI ss) (M.take k) (M.take k).length = S at *
  refine ⟨rfl, Nat.zero_le _, ?_, fun _ => rfl, fun x hx => ⟨fun c => ?_, fun c => ?_⟩⟩
  ·rw [show (hE (agI p ss rr) S 0) = [] from rfl]
   repeat' first | exact mapI_below _ _ | exact rfl | exact wk_refl _ | exact wks_nil | apply And.intro
  ·have hx1 : x < S.length := by have := of_decide_eq_true c; omega
   have hSx := hsi.at hx1
   refine ⟨⟨by omega, by omega⟩, intAt hx1 (by omega), setZ _ _ _, ⟨⟨.inr (.inr rfl), by omega⟩, ⟨by omega, by omega⟩, by omega⟩, ?_, rfl, Nat.zero_le _, ?_, fun _ => rfl, fun y hy => ⟨fun d => ?_, fun d => ?_⟩⟩
   ·rw [Nat.sub_zero, Int.toNat_natCast]
   ·rw [hE_put hsn hx1]
    repeat' first | exact mapI_below _ _ | exact rfl | exact wk_refl _ | exact wks_nil | apply And.intro
   ·have hy1 : y < x := by have := of_decide_eq_true d; omega
    have hSy := hsi.at (show y < S.length by omega)
    have hb := hgt_bd (agI p ss rr) S y
    refine ⟨⟨by omega, by omega⟩, intAt (by omega) (by omega), ⟨rfl, rfl, rfl, rfl, trivial⟩, fun H' _ g => kAgC t rk hSy hSx ⟨_, _, g.1⟩ ⟨_, _, g.2.1⟩ ⟨_, _, g.2.2.1⟩ ⟨_, _, g.2.2.2.1⟩, fun e => ?_, fun e => ?_⟩
    ·have v1 := hgV_1 hy1 e
     rw [hEJ_own hsn hx1, hEJ_get hsn hx1 hy1]
     refine ⟨by rw [<- hEJ_own (y := y) hsn hx1 (agr := agI p ss rr)]; exact lookZ _ _, by rw [<- hEJ_get (z := y) hsn hx1 hy1 (agr := agI p ss rr)]; exact lookZ _ _, vI64 (by omega), mxI (hgV (agI p ss rr) S (hgs (agI p ss rr) S x) x y) (hgt (agI p ss rr) S y + 1), rfl, setZ _ _ _, vI64 (by omega), y + 1, by omega, by omega, ?_⟩
     rw [hEJ_put hsn hx1 (v := mxI (hgV (agI p ss rr) S (hgs (agI p ss rr) S x) x y) (hgt (agI p ss rr) S y + 1)) v1]
     repeat' first | exact mapI_below _ _ | exact rfl | exact wk_refl _ | exact wks_nil | apply And.intro
    ·have v0 := hgV_0 (agr := agI p ss rr) (s := S) (x := x) (y := y) (by rw [e]; decide)
     have e0 : hEJ (agI p ss rr) S x (y + 1) = hEJ (agI p ss rr) S x y := by unfold hEJ; rw [v0]
     refine ⟨vI64 (by omega), y + 1, by omega, by omega, ?_⟩
     rw [e0]
     repeat' first | exact mapI_below _ _ | exact rfl | exact wk_refl _ | exact wks_nil | apply And.intro
   ·obtain rfl : y = x := by have := of_decide_eq_false d; omega
    refine ⟨vI64 (by omega), y + 1, by omega, by omega, ?_⟩
    rw [hEJ_end]
    repeat' first | exact mapI_below _ _ | exact rfl | exact wk_refl _ | exact wks_nil | apply And.intro
  ·obtain rfl : x = S.length := by have := of_decide_eq_false c; omega
   repeat' first | exact mapI_below _ _ | exact rfl | exact wk_refl _ | exact wks_nil | apply And.intro
theorem hgts_ok (o1 o2 : Bool) (z1 z2 : Nat) (w h : Int) (a : List Bool) (p : Int) (ss : List (Int × Int)) (rr : List (List Int)) (o3 : Bool) (z3 : Nat) (M : List Int) : [KObj.cells o1 z1 (a.flatMap boolC), .cells o2 z2 (ss.flatMap spC), .cells true 0 (wkCs w h a p ss rr 0 1 3), .cells true 1 (inL rr), .cells o3 z3 (M.flatMap intC)].all (rnoOk 3) = true := by
 show (rnoOk 3 (.cells o1 z1 (a.flatMap boolC)) && (rnoOk 3 (.cells o2 z2 (ss.flatMap spC)) && (rnoOk 3 (.cells true 0 (wkCs w h a p ss rr 0 1 3)) && (rnoOk 3 (.cells true 1 (inL rr)) && (rnoOk 3 (.cells o3 z3 (M.flatMap intC)) && true))))) = true
 rw [boolRok, spRok, inLRok, intRok]; rfl
theorem WkAt.objs5 {H : Heap} {o1 o2 : Bool} {z1 z2 : Nat} {w h : Int} {a : List Bool} {p : Int} {ss : List (Int × Int)} {rr : List (List Int)} {i j r q l : Nat} {o3 : Bool} {z3 : Nat} {M : List Int} (k : WkAt H o1 o2 z1 z2 w h a p ss rr i j r q) (hl : H[l]? = some (.cells o3 z3 (M.flatMap intC))) :
  objsAt H (sgI [i, j, r, q, l]) [i, j, r, q, l] [.cells o1 z1 (a.flatMap boolC), .cells o2 z2 (ss.flatMap spC), .cells true 0 (wkCs w h a p ss rr 0 1 3), .cells true 1 (inL rr), .cells o3 z3 (M.flatMap intC)] :=
 ⟨by rw [boolRno]; exact k.2.1, by rw [spRno]; exact k.2.2.1, k.2.2.2.1, by rw [inLRno]; exact k.2.2.2.2, by rw [intRno]; exact hl, trivial⟩
theorem kHgts {w h : Int} {a : List Bool} {p : Int} {ss : List (Int × Int)} {rr : List (List Int)} {M : List Int} {k : Nat} (t : TrOk w h a p ss) (rk : RowsOk a ss rr) (h0 : 0 < k) (hk : k <= M.length) (hM : M.length <= 1000) (h19 : k <= 19) (hin : InS ss.length (M.take k)) (hnd : (M.take k).Nodup) {H : Heap} {o1 o2 : Bool} {z1 z2 i j r q l : Nat} {o3 : Bool} {z3 : Nat} (kk : WkAt H o1 o2 z1 z2 w h a p ss rr i j r q) (hl : H[l]? = some (.cells o3 z3 (M.flatMap intC))) (hne : l ∉ [i, j, r, q]) :
  KCall prog 106 [.pointer (some ⟨r, 0, none⟩), slQ l 2 k] H [] (Is (.map (some H.length)) (H ++ [.map (mapI (hE (agI p ss rr) (isr (kyI ss) (M.take k) (M.take k).length) (isr (kyI ss) (M.take k) (M.take k).length).length))])) := by
 have hnd5 : [i, j, r, q, l].Nodup := by
  have := kk.1
  simp only [List.nodup_cons, List.mem_cons, List.not_mem_nil, or_false, not_or, not_false_eq_true, List.nodup_nil, and_true] at this hne ⊢
  omega
 have key := vcK mskOk mixed glob0 40 (v := .map (some 5)) (new := [(true, .map (mapI (hE (agI p ss rr) (isr (kyI ss) (M.take k) (M.take k).length) (isr (kyI ss) (M.take k) (M.take k).length).length)))]) (Eq.mpr (Ehgts o1 o2 z1 z2 o3 z3 w h a p ss rr M k) (hvHgts t rk h0 hk hM h19 hin hnd)) (hgts_ok ..) rfl
  (by show ((rnoOk 3 _ && true) && true) = true; rw [mapI_ok]; rfl) hnd5 (kk.objs5 hl)
 rw [show ([(true, KObj.map (mapI (hE (agI p ss rr) (isr (kyI ss) (M.take k) (M.take k).length) (isr (kyI ss) (M.take k) (M.take k).length).length)))] : List (Bool × KObj)).map (·.2) = [KObj.map (mapI (hE (agI p ss rr) (isr (kyI ss) (M.take k) (M.take k).length) (isr (kyI ss) (M.take k) (M.take k).length).length))] from rfl, List.map_singleton, mapI_rno] at key
 exact key
theorem hvMosts {o1 o2 : Bool} {z1 z2 : Nat} {o3 : Bool} {z3 : Nat} {w h : Int} {a : List Bool} {p : Int} {ss : List (Int × Int)} {rr : List (List Int)} {M : List Int} {k : Nat} (t : TrOk w h a p ss) (rk : RowsOk a ss rr) (h0 : 0 < k) (hk : k <= M.length) (hM : M.length <= 1000) (h19 : k <= 19) (hin : InS ss.length (M.take k)) (hnd : (M.take k).Nodup) : Rmosts o1 o2 z1 z2 o3 z3 w h a p ss rr M k := by
 delta Rmosts kl4 klb kl9 kle kl1 kl2 kla klc
 refine ⟨⟨rfl, rfl, rfl, rfl, rfl, trivial⟩, fun H' hl' g => ?_, ?_⟩
 ·have key := kHgts t rk h0 hk hM h19 hin hnd (i := 0) (j := 1) (r := 2) (q := 3) (l := 4) ⟨by decide, g.2.2.1, g.2.2.2.1, g.1, g.2.2.2.2.1⟩ g.2.1 (by decide)
  rw [hl'] at key; exact key
 ·have hmx : maxI (hE (agI p ss rr) (isr (kyI ss) (M.take k) (M.take k).length) (isr (kyI ss) (M.take k) (M.take k).length).length) = mst (agI p ss rr) (kyI ss) (M.take k) := hE_mx _ _
  generalize (hE (agI p ss rr) (isr (kyI ss) (M.take k) (M.take k).length) (isr (kyI ss) (M.take k) (M.take k).length).length) = E at *
  refine ⟨rfl, seenL_0 _, ?_, fun _ => rfl, fun x hx => ⟨rfl, fun i hi hn => ⟨rfl, entI _ (by rwa [mapI_len] at hi) x, _, rfl, x ++ [i], seenL_snoc hx (by rwa [mapI_len] at hi) hn, seenL_more hx (by rwa [mapI_len] at hi) hn, rfl, ?_⟩, fun hall => ?_⟩⟩
  ·repeat' first | exact rfl | exact wk_refl _ | exact wks_nil | apply And.intro
  ·rw [maxS_snoc]
   repeat' first | exact rfl | exact wk_refl _ | exact wks_nil | apply And.intro
  ·rw [maxS_all hx (fun i hi => hall i (by rwa [mapI_len])) hmx]
   repeat' first | exact rfl | exact wk_refl _ | exact wks_nil | apply And.intro
theorem kMosts {w h : Int} {a : List Bool} {p : Int} {ss : List (Int × Int)} {rr : List (List Int)} {M : List Int} {k : Nat} (t : TrOk w h a p ss) (rk : RowsOk a ss rr) (h0 : 0 < k) (hk : k <= M.length) (hM : M.length <= 1000) (h19 : k <= 19) (hin : InS ss.length (M.take k)) (hnd : (M.take k).Nodup) {H : Heap} {o1 o2 : Bool} {z1 z2 i j r q l : Nat} {o3 : Bool} {z3 : Nat} (kk : WkAt H o1 o2 z1 z2 w h a p ss rr i j r q) (hl : H[l]? = some (.cells o3 z3 (M.flatMap intC))) (hne : l ∉ [i, j, r, q]) :
  KCall prog 83 [.pointer (some ⟨r, 0, none⟩), slQ l 2 k] H [] (Is (.int .i64 (mst (agI p ss rr) (kyI ss) (M.take k))) H) := by
 have hnd5 : [i, j, r, q, l].Nodup := by
  have := kk.1
  simp only [List.nodup_cons, List.mem_cons, List.not_mem_nil, or_false, not_or, not_false_eq_true, List.nodup_nil, and_true] at this hne ⊢
  omega
 have key := valKs (fun _ => .int .i64 (mst (agI p ss rr) (kyI ss) (M.take k))) (new := []) (Eq.mpr (Emosts o1 o2 z1 z2 o3 z3 w h a p ss rr M k) (hvMosts t rk h0 hk hM h19 hin hnd)) (hgts_ok ..) rfl trivial hnd5 (kk.objs5 hl) (fun j => rfl) (args' := [.pointer (some ⟨r, 0, none⟩), slQ l 2 k]) rfl
 rwa [List.append_nil] at key
end
end Go.Proofs.YtbgfjemppjhmjaaGreat
