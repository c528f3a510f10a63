/- The library's sort, laid at this program (written by the kit's own tool). No condition. -/
import Derived.Shelf.SlSortCmp.Whole1
import Derived.Ground.SlsfProg
import Derived.Test.YthcjliffpebjaaaGreatChecked
import Derived.Sort.Grow
import Derived.Deep.Draws
import Derived.Test.YthcjliffpebjaaaGreatGS0xP1a
import Derived.Test.YthcjliffpebjaaaGreatGP1xB1
namespace Go.Proofs.YthcjliffpebjaaaGreat
set_option linter.unusedSimpArgs false
set_option linter.unusedVariables false
open Go Go.Shelf
def sortL_ren : Go.Shelf.Ren := ⟨fun | 6 => 140 | 15 => 153 | 14 => 158 | 28 => 171 | 29 => 172 | 20 => 176 | 21 => 177 | 22 => 178 | 23 => 179 | 24 => 180 | 25 => 181 | 26 => 182 | 27 => 183 | 46 => 190 | 47 => 186 | 48 => 187 | 49 => 191 | 50 => 192 | 57 => 194 | n => n, fun | 22 => 61 | 24 => 66 | 25 => 199 | 3 => 3 | 39 => 201 | 0 => 0 | 53 => 213 | 55 => 216 | 4 => 4 | 46 => 221 | 45 => 220 | 50 => 226 | 5 => 5 | 9 => 9 | 66 => 235 | 70 => 127 | 76 => 242 | 77 => 243 | n => n, fun | n => n⟩
theorem sortL : Go.Proofs.SlLaysF.n6 Tryz.prog sortL_ren := {
  mixed := by kernel_rfl
  f6 := ⟨Tryz.f140.name, by decide, Tryz.func140.trans (congrArg some (by kernel_rfl))⟩
  f14 := ⟨Tryz.f158.name, by decide, Tryz.func158.trans (congrArg some (by kernel_rfl))⟩
  f15 := Tryz.func153.trans (congrArg some (by kernel_rfl))
  f20 := ⟨Tryz.f176.name, by decide, Tryz.func176.trans (congrArg some (by kernel_rfl))⟩
  f21 := ⟨Tryz.f177.name, by decide, Tryz.func177.trans (congrArg some (by kernel_rfl))⟩
  f22 := ⟨Tryz.f178.name, by decide, Tryz.func178.trans (congrArg some (by kernel_rfl))⟩
  f23 := ⟨Tryz.f179.name, by decide, Tryz.func179.trans (congrArg some (by kernel_rfl))⟩
  f24 := ⟨Tryz.f180.name, by decide, Tryz.func180.trans (congrArg some (by kernel_rfl))⟩
  f25 := ⟨Tryz.f181.name, by decide, Tryz.func181.trans (congrArg some (by kernel_rfl))⟩
  f26 := ⟨Tryz.f182.name, by decide, Tryz.func182.trans (congrArg some (by kernel_rfl))⟩
  f27 := ⟨Tryz.f183.name, by decide, Tryz.func183.trans (congrArg some (by kernel_rfl))⟩
  f28 := Tryz.func171.trans (congrArg some (by kernel_rfl))
  f29 := Tryz.func172.trans (congrArg some (by kernel_rfl))
  f46 := ⟨Tryz.f190.name, by decide, Tryz.func190.trans (congrArg some (by kernel_rfl))⟩
  f47 := Tryz.func186.trans (congrArg some (by kernel_rfl))
  f48 := Tryz.func187.trans (congrArg some (by kernel_rfl))
  f49 := ⟨Tryz.f191.name, by decide, Tryz.func191.trans (congrArg some (by kernel_rfl))⟩
  f50 := ⟨Tryz.f192.name, by decide, Tryz.func192.trans (congrArg some (by kernel_rfl))⟩
  f57 := ⟨Tryz.f194.name, by decide, Tryz.func194.trans (congrArg some (by kernel_rfl))⟩
  t0 := Tryz.underlying0
  a0 := Tryz.isAgg0
  z0 := Tryz.sizeOf0
  v0 := Tryz.zeroValue0
  t3 := Tryz.underlying3
  a3 := Tryz.isAgg3
  z3 := Tryz.sizeOf3
  v3 := Tryz.zeroValue3
  t4 := Tryz.underlying4
  a4 := Tryz.isAgg4
  z4 := Tryz.sizeOf4
  v4 := Tryz.zeroValue4
  t5 := Tryz.underlying5
  a5 := Tryz.isAgg5
  z5 := Tryz.sizeOf5
  v5 := Tryz.zeroValue5
  t9 := Tryz.underlying9
  a9 := Tryz.isAgg9
  z9 := Tryz.sizeOf9
  v9 := Tryz.zeroValue9
  t22 := Tryz.underlying61
  a22 := Tryz.isAgg61
  z22 := Tryz.sizeOf61
  v22 := Tryz.zeroValue61
  a24 := Tryz.isAgg66
  z24 := Tryz.sizeOf66
  t25 := Tryz.underlying199
  a25 := Tryz.isAgg199
  z25 := Tryz.sizeOf199
  v25 := Tryz.zeroValue199
  t39 := Tryz.underlying201
  a39 := Tryz.isAgg201
  z39 := Tryz.sizeOf201
  v39 := Tryz.zeroValue201
  t45 := Tryz.underlying220
  a45 := Tryz.isAgg220
  z45 := Tryz.sizeOf220
  v45 := Tryz.zeroValue220
  t46 := Tryz.underlying221
  a46 := Tryz.isAgg221
  z46 := Tryz.sizeOf221
  v46 := Tryz.zeroValue221
  t50 := Tryz.underlying226
  a50 := Tryz.isAgg226
  z50 := Tryz.sizeOf226
  v50 := Tryz.zeroValue226
  t53 := Tryz.underlying213
  a53 := Tryz.isAgg213
  z53 := Tryz.sizeOf213
  v53 := Tryz.zeroValue213
  t55 := Tryz.underlying216
  a55 := Tryz.isAgg216
  z55 := Tryz.sizeOf216
  v55 := Tryz.zeroValue216
  t66 := Tryz.underlying235
  a66 := Tryz.isAgg235
  z66 := Tryz.sizeOf235
  v66 := Tryz.zeroValue235
  t70 := Tryz.underlying127
  a70 := Tryz.isAgg127
  z70 := Tryz.sizeOf127
  v70 := Tryz.zeroValue127
  t76 := Tryz.underlying242
  a76 := Tryz.isAgg242
  z76 := Tryz.sizeOf242
  v76 := Tryz.zeroValue242
  t77 := Tryz.underlying243
  a77 := Tryz.isAgg243
  z77 := Tryz.sizeOf243
  v77 := Tryz.zeroValue243 }
end Go.Proofs.YthcjliffpebjaaaGreat
/- The library's sort, by its contract, over canonical memory. No condition. -/
namespace Go.K
set_option linter.unusedSimpArgs false
open Go
set_option linter.unusedVariables false
variable {P : Program}

/-- The world grows, and turns where nothing is said of it. -/
theorem Rel.world {B : Nat} {ρ : Ren} {H : Heap} {w W : World} (hr : Rel P B ρ H w) (b0 : Nat) (hsz : w.heap.size ≤ W.heap.size) (hsame : ∀ b, b < w.heap.size → b ≠ b0 → W.heap[b]? = w.heap[b]?)
    (hfree : ∀ id r o, ρ id = some r → H[id]? = some o → o.alive = true → r.b ≠ b0) (hmem : ∀ m, ρ.mem b0 = some m → False) : Rel P B ρ H W := by
  refine ⟨Nat.le_trans hr.bsize hsz, hr.glob, hr.dom, fun id r h => Nat.lt_of_lt_of_le (hr.lt id r h) hsz, fun id r o h1 h2 => ?_, hr.base, hr.sep, fun b m hb => ⟨?_, (hr.mem b m hb).2⟩⟩
  · by_cases hal : o.alive = true
    · exact (hr.obj id r o h1 h2).mono (Ren.le_refl _) (hsame _ (hr.lt id r h1) (hfree id r o h1 h2 hal))
    · cases o <;> first | trivial | exact absurd rfl hal
  · obtain ⟨ty, fz, e⟩ := (hr.mem b m hb).1
    have hne : b ≠ b0 := by rintro rfl; exact hmem m hb
    exact ⟨ty, fz, (hsame b (Array.getElem?_eq_some_iff.1 e).1 hne).trans e⟩
theorem Post.grown {B base : Nat} {M : List Nat} {ρ ρ' : Ren} {H H' : Heap} {w w1 w2 : World} (p : Post P B base M ρ H w ρ' H' w1) (hsz : w1.heap.size ≤ w2.heap.size) (hsame : ∀ b, b < w1.heap.size → w2.heap[b]? = w1.heap[b]?)
    (hos : w2.os = w1.os) (ht : w2.tape = w1.tape) (ho : w2.output = w1.output) (hd : w1.drawn ≤ w2.drawn) : Post P B base M ρ H w ρ' H' w2 := by
  have hlt : ∀ id r o, ρ' id = some r → H'[id]? = some o → o.alive = true → r.b ≠ w1.heap.size := fun id r o h1 _ _ => by have := p.rel.lt id r h1; omega
  have hm : ∀ m, ρ'.mem w1.heap.size = some m → False := fun m h => by
    obtain ⟨ty, fz, e⟩ := (p.rel.mem _ m h).1
    have := (Array.getElem?_eq_some_iff.1 e).1; omega
  exact ⟨p.rel.world w1.heap.size hsz (fun b h _ => hsame b h) hlt hm, p.ext, p.new, p.len, p.same, Nat.le_trans p.size hsz, fun b h1 h2 => (hsame b (Nat.lt_of_lt_of_le h1 p.size)).trans (p.keep b h1 h2), p.ob, hos.trans p.os, ht.trans p.tape, ho.trans p.output, p.frz, Nat.le_trans p.drawn hd⟩
/-- A world that has grown and drawn. -/
theorem world_eq {w w' : World} (hos : w'.os = w.os) (ht : w'.tape = w.tape) (ho : w'.output = w.output) (hd : w.drawn ≤ w'.drawn) (hsz : w.heap.size ≤ w'.heap.size) (hsame : ∀ b, b < w.heap.size → w'.heap[b]? = w.heap[b]?) :
    ∃ q os', w' = Sort.grow (w.drewN q) os' := by
  refine ⟨w'.drawn - w.drawn, w'.heap.extract w.heap.size w'.heap.size, ?_⟩
  obtain ⟨h, t, d, o, u⟩ := w
  obtain ⟨h', t', d', o', u'⟩ := w'
  simp only at hos ht ho hd hsz hsame
  subst hos ht ho
  unfold Sort.grow World.drewN
  simp only [World.mk.injEq, true_and, and_true]
  refine ⟨?_, by omega⟩
  apply Array.ext_getElem?
  intro i
  rw [Array.getElem?_append]
  split
  · rename_i hi; exact hsame i hi
  · rename_i hi
    rw [Array.getElem?_extract]
    simp only [Nat.min_self]
    split
    · congr 1; omega
    · rw [Array.getElem?_eq_none (by omega)]
/-- A function of values, in whatever world. -/
theorem KCall.everywhere {g : FuncId} {args : List Value} {n : Nat} {v : Value} (h : KCall P g args (List.replicate n .dead) [] (Is v (List.replicate n .dead))) {B : Nat} {ρ : Ren} {H : Heap} {W : World} (hr : Rel P B ρ H W) (hn : H.length ≤ n) {args' : Array Value} (ha : VRl ρ args args'.toList) :
    Calls P g args' W fun e w' => (∃ v', e = .returned v' ∧ ∃ ρ', VR ρ' v v') ∧ ∃ q os', w' = Sort.grow (W.drewN q) os' := by
  have hdead : ∀ (id : Nat) (o : KObj), (List.replicate n KObj.dead)[id]? = some o → o = .dead := fun id o ho => by
    rw [List.getElem?_replicate] at ho
    split at ho
    · cases ho; rfl
    · cases ho
  have hrg : Rel P B ρ (List.replicate n .dead) W := by
    refine ⟨hr.bsize, hr.glob, fun id r h1 => ?_, hr.lt, fun id r o h1 h2 => ?_, fun id r o h1 h2 h3 => ?_, fun id id' r r' o o' h1 h1' h2 h2' h3 _ _ => ?_, fun b m hm => ⟨(hr.mem b m hm).1, fun id r o h1 h2 h3 => ?_⟩⟩
    · rw [List.length_replicate]; exact Nat.lt_of_lt_of_le (hr.dom id r h1) hn
    · rw [hdead id o h2]; trivial
    · rw [hdead id o h2] at h3; cases h3
    · rw [hdead id o h2] at h3; cases h3
    · rw [hdead id o h2] at h3; cases h3
  have hob : ∀ b, ¬ OB ρ (List.replicate n .dead) b := by
    rintro b ⟨id, r, o, h1, h2, h3, _⟩
    rw [hdead id o h2] at h3; cases h3
  refine callsIn_wide.1 ((h.2 B ρ W args' hrg ha).mono ?_)
  rintro e w' ⟨v1, v', ρ', H', rfl, hv', hp, rfl, rfl⟩
  exact ⟨⟨v', rfl, ρ', hv'⟩, world_eq hp.os hp.tape hp.output hp.drawn hp.size (fun b hb => hp.keep b hb (hob b))⟩
end Go.K
/- The library's sort, by the kit's contract, over canonical memory. No condition. -/
namespace Go.K
set_option linter.unusedSimpArgs false
open Go Go.Proofs Go.RowKit Go.Lib Go.Sort
set_option linter.unusedVariables false
variable {P : Program}

theorem kSortFunc {R : Go.Shelf.Ren} (L : SlLaysF.n6 P R) {β : Type} (dv : β → Value) (cf : β → β → Int) (hO : SWO (ltOf cf)) (hanti : ∀ x y, ltOf cf x y = false → ltOf cf y x = false → x = y) (g : Nat)
    (hone : ∀ (ρ : K.Ren) (x : β) (v' : Value), VR ρ (dv x) v' → v'.oneCell' = true) (eg : ∀ args w, (callFunc g args).run P w = .ok (.enter g args) w) (ef : Enters P (R.f 6))
    (hcmp : ∀ x y n, KCall P g [dv x, dv y] (List.replicate n .dead) [] (Is (.int .i64 (cf x y)) (List.replicate n .dead)))
    {H : Heap} {id : Nat} {tag : Option Nat} (htag : tag = none ∨ tag = some 1) {L0 : List β} (h0 : 0 < L0.length) (hlen : L0.length < 4611686018427387904) (ho : H[id]? = some (.cells true 1 (L0.map dv))) :
    KCall P (R.f 6) [.slice (some ⟨id, 0, tag⟩) L0.length L0.length, .func (.func g) #[] #[]] H [id] (Is (.tuple #[]) (H.set id (.cells true 1 ((L0.mergeSort (fun x y => !ltOf cf y x)).map dv)))) := by
  refine ⟨ef, fun B ρ w args' hr ha => ?_⟩
  obtain ⟨x', f', rfl⟩ : ∃ x' f', args' = #[x', f'] := by
    have hl := ha.1
    obtain ⟨l⟩ := args'
    match l, hl with
    | [a, b], _ => exact ⟨a, b, rfl⟩
  have hx := ha.2 0 _ _ rfl rfl
  have hf := ha.2 1 _ _ rfl rfl
  obtain rfl : f' = .func (.func g) #[] #[] := by
    cases hf with
    | func h1 h2 h3 h4 =>
      obtain rfl := Array.eq_empty_of_size_eq_zero (by simpa using h1.symm)
      obtain rfl := Array.eq_empty_of_size_eq_zero (by simpa using h3.symm)
      rfl
  obtain ⟨r, cap', hid, hcap, rfl⟩ : ∃ r cap', ρ id = some r ∧ L0.length ≤ cap' ∧ x' = .slice (some ⟨r.b, 0 + r.s, none⟩) L0.length cap' := by
    generalize L0.length = n at hx h0
    rcases htag with rfl | rfl
    · cases hx with
      | slice h hl hc _ => exact ⟨_, _, h, Nat.le_trans hl hc, rfl⟩
      | slice0 h => exact absurd h0 (Nat.lt_irrefl 0)
    · cases hx with
      | sliceQn => exact absurd h0 (Nat.lt_irrefl 0)
      | sliceQe => exact absurd h0 (Nat.lt_irrefl 0)
      | sliceQ h hp hl hc _ => exact ⟨_, _, h, Nat.le_trans hl hc, rfl⟩
  rw [Nat.zero_add]
  have hobj := hr.obj id r _ hid ho
  obtain ⟨ow, zz, cs', ty, fz, hb, hsz, hfz, hcs⟩ := hobj
  obtain rfl := hfz rfl
  -- the elements
  let α := {p : β × Value // VR ρ (dv p.1) p.2}
  have hel : ∀ i : _root_.Fin L0.length, ∃ v', cs'[i.1 + r.s]? = some v' ∧ VR ρ (dv L0[i.1]) v' := fun i => hcs i.1 _ (by rw [List.getElem?_map, List.getElem?_eq_getElem i.2]; rfl)
  let el : _root_.Fin L0.length → α := fun i => ⟨(L0[i.1], Classical.choose (hel i)), (Classical.choose_spec (hel i)).2⟩
  have hel2 : ∀ i, cs'[i.1 + r.s]? = some (el i).1.2 := fun i => (Classical.choose_spec (hel i)).1
  let d : Array α := Array.ofFn el
  haveI : Inhabited α := ⟨el ⟨0, h0⟩⟩
  let enc : α → Value := fun p => p.1.2
  let cf2 : α → α → Int := fun x y => cf x.1.1 y.1.1
  have hds : d.size = L0.length := Array.size_ofFn
  have hO2 : SWO (ltOf cf2) := ⟨fun x => hO.irrefl x.1.1, fun x y z => hO.trans x.1.1 y.1.1 z.1.1, fun x y z => hO.ntrans x.1.1 y.1.1 z.1.1⟩
  have hdi : ∀ j (hj : j < d.size), d[j]! = el ⟨j, by omega⟩ := fun j hj => by
    rw [getElem!_pos d j hj]; exact Array.getElem_ofFn hj
  have hH : Holds enc w r.b r.s d := fun j hj => by
    have e := hel2 ⟨j, by omega⟩
    refine ⟨?_, ?_⟩
    · rw [hdi j hj]
      simp only [World.cell?, hb, Option.isSome_none, Bool.false_eq_true, if_false]
      rw [Nat.add_comm]; exact e
    · simp [World.frozen?, hb]
  have hblk := hr.lt id r hid
  have h1 : OneCell enc := fun x => hone ρ x.1.1 x.1.2 x.2
  have hcl : CmpLays1 P g #[] enc cf2 r.b r.s d.size w := by
    intro m os dk hdk x y
    have hrd : Rel P B ρ (H.set id .dead) w := (Post.kill (base := 0) (M := []) hr hid ho rfl (fun h => absurd h (Nat.not_lt_zero _))).rel
    have hrW : Rel P B ρ (H.set id .dead) (sortWorld enc w r.b r.s m dk os) := by
      refine hrd.world r.b ?_ ?_ ?_ ?_
      · simp [sortWorld, grow, putRow, mapBlock, ahead]
      · intro b hb1 hb2
        simp only [sortWorld, grow, putRow, mapBlock, ahead]
        rw [Array.getElem?_append_left (by simpa using hb1), Array.getElem?_modify, if_neg (Ne.symm hb2)]
        rfl
      · intro i x o g1 g2 g3
        by_cases e : i = id
        · subst e; rw [List.getElem?_set_self (List.getElem?_eq_some_iff.1 ho).1] at g2; cases g2; cases g3
        · rw [List.getElem?_set_ne (Ne.symm e)] at g2
          exact (hr.sep id i r x _ o hid g1 ho g2 rfl g3 (Ne.symm e)).symm
      · exact fun m h => (hr.mem _ m h).2 id r _ hid ho rfl rfl
    have hval : VRl ρ [dv x.1.1, dv y.1.1] (#[enc x, enc y] : Array Value).toList := by
      refine ⟨rfl, fun i a b g1 g2 => ?_⟩
      match i with
      | 0 => cases g1; cases g2; exact x.2
      | 1 => cases g1; cases g2; exact y.2
      | i + 2 => cases g1
    refine (KCall.everywhere (hcmp x.1.1 y.1.1 _) hrW (Nat.le_refl _) (args' := #[enc x, enc y]) hval).mono ?_
    rintro e w' ⟨⟨v', rfl, ρ', hv⟩, q, os', rfl⟩
    cases hv
    exact ⟨rfl, q, os', rfl⟩
  have hcon := Any.slices_SortFunc L enc h1 cf2 hO2 g #[] r.b r.s cap' d w eg hcl hH hblk (by omega)
  rw [hds] at hcon
  refine callsIn_wide.2 (hcon.mono ?_)
  rintro e w' ⟨rfl, d', n1, os, hperm, hsorted, rfl⟩
  have hsz' : d'.size = L0.length := hperm.1.trans hds
  let c : α → β := fun p => p.1.1
  have hdc : d.toList.map c = L0 := by
    refine List.ext_getElem? fun i => ?_
    rw [List.getElem?_map, Array.getElem?_toList, Array.getElem?_ofFn]
    split
    · rename_i hi; rw [List.getElem?_eq_getElem hi]; rfl
    · rename_i hi; rw [List.getElem?_eq_none (by omega)]; rfl
  have hcj : ∀ j, j < L0.length → ∃ h : j < d'.size, d'[j]! = d'[j] := fun j hj => ⟨by omega, getElem!_pos d' j (by omega)⟩
  have hlist : d'.toList.map c = L0.mergeSort (fun x y => !ltOf cf y x) := by
    haveI : Inhabited β := ⟨L0[0]⟩
    have hmj : ∀ j (hj : j < L0.length), (d'.map c)[j]! = c d'[j]! := fun j hj => by
      rw [getElem!_pos _ j (by simpa [hsz'] using hj), getElem!_pos d' j (by omega), Array.getElem_map]
    have := sorted_unique_holds hO hanti L0.toArray (d'.map c) ⟨by simp [hsz'], fun i hi => ?_, ?_⟩ (fun i j _ h2 h3 => ?_)
    · simpa using this
    · have hi' : L0.length ≤ i := by rcases hi with h | h; omega; simpa using h
      rw [getElem!_neg _ i (by simp [hsz']; omega), getElem!_neg _ i (by simp; omega)]
    · have h := hperm.2.2
      rw [show d'.extract 0 L0.length = d' from by rw [← hsz']; simp, show d.extract 0 L0.length = d from by rw [← hds]; simp] at h
      have := h.map c
      rw [hdc] at this
      have e1 : (d'.map c).extract 0 L0.toArray.size = d'.map c := by
        rw [show L0.toArray.size = (d'.map c).size by simp [hsz']]; simp
      have e2 : L0.toArray.extract 0 L0.toArray.size = L0.toArray := by simp
      rw [e1, e2]
      simpa using this
    · have h3' : j < L0.length := by simpa using h3
      rw [hmj j h3', hmj i (by omega)]
      exact hsorted i j (Nat.zero_le _) h2 h3'
  have hput : ObjRel ρ r (.cells true 1 ((L0.mergeSort (fun x y => !ltOf cf y x)).map dv)) (w.putObj r.b (.cells (putCells enc r.s d' cs') ty (0, 0))) := by
    refine ⟨ow, zz, putCells enc r.s d' cs', ty, (0, 0), World.putObj_heap_same hblk, by simp [putCells, hsz], fun _ => rfl, fun i v hv => ?_⟩
    rw [← hlist, List.map_map, List.getElem?_map] at hv
    obtain ⟨a, ha1, rfl⟩ := Option.map_eq_some_iff.1 hv
    have hi : i < d'.size := by
      have := (List.getElem?_eq_some_iff.1 ha1).1; simpa using this
    obtain ⟨v', e1, _⟩ := hcs i (dv L0[i]) (by rw [List.getElem?_map, List.getElem?_eq_getElem (by omega)]; rfl)
    refine ⟨a.1.2, ?_, a.2⟩
    simp only [putCells, Array.getElem?_mapIdx, e1, Option.map_some]
    rw [if_pos ⟨by omega, by omega⟩, show i + r.s - r.s = i by omega, getElem!_pos d' i hi]
    rw [Array.getElem?_toList, Array.getElem?_eq_getElem hi] at ha1
    cases ha1; rfl
  have p1 := Post.put (base := H.length) (M := [id]) hr hid ho rfl (by rw [hb]; rfl) hput (fun _ => List.mem_singleton.2 rfl)
  have hheap : ∀ b, b < w.heap.size → (sortWorld enc w r.b r.s n1 d' os).heap[b]? = (w.putObj r.b (.cells (putCells enc r.s d' cs') ty (0, 0))).heap[b]? := by
    intro b hb1
    simp only [sortWorld, grow, putRow, mapBlock, ahead]
    rw [Array.getElem?_append_left (by simpa using hb1), Array.getElem?_modify]
    by_cases e : r.b = b
    · subst e
      rw [if_pos rfl, World.putObj_heap_same hblk]
      show Option.map (onCells _) w.heap[r.b]? = _
      rw [hb]; rfl
    · rw [if_neg e, World.putObj_heap_other (Ne.symm e)]; rfl
  have p2 := p1.grown (w2 := sortWorld enc w r.b r.s n1 d' os) (by simp [sortWorld, grow, putRow, mapBlock, ahead, World.putObj]) (fun b hb1 => hheap b (by simpa [World.putObj] using hb1)) rfl rfl rfl (by simp [sortWorld, grow, putRow, mapBlock, ahead, World.putObj])
  exact ⟨.tuple #[], .tuple #[], ρ, _, rfl, .tuple rfl (fun i a b h => by simp at h), p2, rfl, rfl⟩
end Go.K
/- Lists of numbers in their order, sorted by the library's sort. No condition. -/
namespace Go.Proofs.YthcjliffpebjaaaGreat
open Go Go.K Go.Sort
set_option maxRecDepth 100000
set_option linter.unusedVariables false
set_option linter.unusedSimpArgs false
noncomputable section
attribute [local irreducible] vF
/-- Which of two lists is less: at the first number in which they differ, or the shorter one. -/
theorem cmpL_cc {a b : Int} {l m : List Int} : cmpL (a :: l) (b :: m) = if a < b then -1 else if b < a then 1 else cmpL l m := by
  show (if cmpI a b ≠ 0 then cmpI a b else cmpL l m) = _
  unfold cmpI
  by_cases h1 : a < b
  · simp [h1]
  · by_cases h2 : b < a
    · simp [h1, h2]
    · simp [h1, h2]
theorem cmpL_refl : ∀ l, cmpL l l = 0
  | [] => rfl
  | a :: l => by rw [cmpL_cc, if_neg (by omega), if_neg (by omega)]; exact cmpL_refl l
theorem cmpL_eq : ∀ {l m : List Int}, cmpL l m = 0 → l = m
  | [], [], _ => rfl
  | [], _ :: _, h => by cases h
  | _ :: _, [], h => by cases h
  | a :: l, b :: m, h => by
    rw [cmpL_cc] at h
    split at h
    · cases h
    · split at h
      · cases h
      · obtain rfl : a = b := by omega
        rw [cmpL_eq h]
theorem cmpL_anti : ∀ (l m : List Int), cmpL m l = - cmpL l m
  | [], [] => rfl
  | [], _ :: _ => rfl
  | _ :: _, [] => rfl
  | a :: l, b :: m => by
    rw [cmpL_cc, cmpL_cc]
    by_cases h1 : a < b
    · rw [if_neg (by omega), if_pos h1, if_pos h1]; rfl
    · by_cases h2 : b < a
      · rw [if_pos h2, if_neg h1, if_pos h2]
      · rw [if_neg h2, if_neg h1, if_neg h1, if_neg h2]; exact cmpL_anti l m
theorem cmpL_trans : ∀ {l m n : List Int}, cmpL l m < 0 → cmpL m n < 0 → cmpL l n < 0
  | [], [], _, h, _ => by cases h
  | _ :: _, [], _, h, _ => by cases h
  | [], _ :: _, [], _, k => by cases k
  | [], _ :: _, _ :: _, _, _ => (by decide : (-1 : Int) < 0)
  | _ :: _, _ :: _, [], _, k => by cases k
  | a :: l, b :: m, c :: n, h, k => by
    rw [cmpL_cc] at h k ⊢
    by_cases h1 : a < b
    · by_cases h2 : b < c
      · rw [if_pos (by omega)]; decide
      · rw [if_neg h2] at k
        by_cases h3 : c < b
        · rw [if_pos h3] at k; cases k
        · rw [if_pos (by omega)]; decide
    · rw [if_neg h1] at h
      by_cases h2 : b < a
      · rw [if_pos h2] at h; cases h
      · rw [if_neg h2] at h
        by_cases h3 : b < c
        · rw [if_pos (by omega)]; decide
        · rw [if_neg h3] at k
          by_cases h4 : c < b
          · rw [if_pos h4] at k; cases k
          · rw [if_neg h4] at k
            rw [if_neg (by omega), if_neg (by omega)]
            exact cmpL_trans h k
theorem ltL_iff {l m : List Int} : ltOf cmpL l m = true ↔ cmpL l m < 0 := by unfold ltOf; exact decide_eq_true_iff
theorem ltL_false {l m : List Int} : ltOf cmpL l m = false ↔ 0 ≤ cmpL l m := by unfold ltOf; rw [decide_eq_false_iff_not]; omega
theorem swoL : SWO (ltOf cmpL) where
  irrefl x := by rw [ltL_false, cmpL_refl]; exact Int.le_refl _
  trans x y z h k := by rw [ltL_iff] at *; exact cmpL_trans h k
  ntrans x y z h k := by
    rw [ltL_false] at *
    rcases Int.lt_or_eq_of_le h with h1 | h1
    · rcases Int.lt_or_eq_of_le k with k1 | k1
      · have := cmpL_trans (l := z) (m := y) (n := x) (by rw [cmpL_anti]; omega) (by rw [cmpL_anti]; omega)
        rw [cmpL_anti] at this; omega
      · rw [← cmpL_eq k1.symm]; exact h
    · rw [cmpL_eq h1.symm]; exact k
theorem antiL (x y : List Int) (h : ltOf cmpL x y = false) (k : ltOf cmpL y x = false) : x = y := by
  rw [ltL_false] at h k
  rw [cmpL_anti] at k
  exact cmpL_eq (by omega)
/-- Lists of numbers in their order. -/
def srtL (L : List (List Int)) : List (List Int) := L.mergeSort (fun x y => !ltOf cmpL y x)
def dIL (L : List (List Int)) : List Value := L.map dI
theorem enters_some {P : Program} {f : FuncId} {fn : Func} (hf : P.funcs[f]? = some fn) (hname : (fn.name == "runtime.NumGoroutine") = false) (hb : fn.body.isSome = true) : Enters P f := by
  obtain ⟨c, hc⟩ := Option.isSome_iff_exists.1 hb
  exact enters_of hf hname hc
theorem enters65 : Enters prog 140 := enters_some Tryz.func140 (by kernel_rfl) (by kernel_rfl)
theorem enters66 : Enters prog 141 := enters_some Tryz.func141 (by kernel_rfl) (by kernel_rfl)
theorem dI_one (ρ : K.Ren) (x : List Int) (v' : Value) (h : VR ρ (dI x) v') : v'.oneCell' = true := by
  unfold dI at h
  generalize x.length + 1 = n at h
  cases h <;> rfl
abbrev ShortL : Type := {l : List Int // l.length ≤ 4294967296}
theorem kSort {L : List (List Int)} (h0 : 0 < L.length) (hn : L.length < 4611686018427387904) (hL : ∀ l ∈ L, l.length ≤ 4294967296) {H : Heap} {id : Nat} {tag : Option Nat} (htag : tag = none ∨ tag = some 1) (hid : H[id]? = some (.cells true 1 (dIL L))) :
    KCall prog 140 [.slice (some ⟨id, 0, tag⟩) L.length L.length, .func (.func 141) #[] #[]] H [id] (Is (.tuple #[]) (H.set id (.cells true 1 (dIL (srtL L))))) := by
  obtain ⟨L0, rfl⟩ : ∃ L0 : List ShortL, L = L0.map (·.1) := ⟨L.attach.map (fun p => ⟨p.1, hL p.1 p.2⟩), by rw [List.map_map]; exact (List.attach_map_subtype_val L).symm⟩
  rw [List.length_map] at h0 hn ⊢
  have e1 : ∀ M : List ShortL, dIL (M.map (·.1)) = M.map (fun x => dI x.1) := fun M => by unfold dIL; rw [List.map_map]; rfl
  rw [e1] at hid
  have := kSortFunc sortL (fun x : ShortL => dI x.1) (fun x y : ShortL => cmpL x.1 y.1) ⟨fun x => swoL.irrefl x.1, fun x y z => swoL.trans x.1 y.1 z.1, fun x y z => swoL.ntrans x.1 y.1 z.1⟩ (fun x y h k => Subtype.ext (antiL x.1 y.1 h k)) 141 (fun ρ x v h => dI_one ρ x.1 v h) enters66 enters65
    (fun x y n => kCompare x.1 y.1 x.2 y.2 _) htag h0 hn hid
  have e2 : srtL (L0.map (·.1)) = (L0.mergeSort (fun x y => !ltOf (fun x y : ShortL => cmpL x.1 y.1) y x)).map (·.1) := by
    unfold srtL
    exact (List.map_mergeSort (f := fun x : ShortL => x.1) (r := fun x y => !ltOf (fun x y : ShortL => cmpL x.1 y.1) y x) (s := fun x y => !ltOf cmpL y x) (l := L0) (fun a _ b _ => rfl)).symm
  rw [e2, e1]
  exact this
end
end Go.Proofs.YthcjliffpebjaaaGreat
/- Ice: blamed sets: what functions answer. No condition. -/
namespace Go.Proofs.YthcjliffpebjaaaGreat
set_option linter.unusedSimpArgs false
set_option linter.unusedVariables false
open Go Go.K
noncomputable section
/-- The first x reports that are not in a set. -/
def outTo (n s : Nat) : Nat → List Int
  | 0 => []
  | x + 1 => if inSet n s x then outTo n s x else outTo n s x ++ [((x : Nat) : Int)]
def blL (ts : List Cell) (x : Nat) : List (List Int) := tabP (fun i => outTo ts.length ((agrA ts).getD i 0) ts.length) x
def blamedL (ts : List Cell) : List (List Int) := srtL (blL ts (agrA ts).length)
/-- In how many of the first y lists a number is. -/
def inCnt (L : List (List Int)) (i : Int) (y : Nat) : Nat := (L.take y).countP fun l => decide (i ∈ l)
/-- How far a report is to blame. -/
def guiltOf (L : List (List Int)) (i : Nat) : Int := if inCnt L ((i : Nat) : Int) L.length = 0 then 0 else if inCnt L ((i : Nat) : Int) L.length = L.length then 2 else 1
def guiltTo (L : List (List Int)) (n x : Nat) : List Int := tabP (fun i => if i < x then guiltOf L i else 0) n
def fBlame (l : List Report) (m : Rates) (now : Int) : List (List Int) × Int :=
  if errOpen l m now = 0 then (blamedL (told l m now), 0) else ([], errOpen l m now)
def fGuilt (l : List Report) (m : Rates) (now : Int) : List Int × Int :=
  if errOpen l m now = 0 then (guiltTo (blamedL (told l m now)) l.length l.length, 0) else ([], errOpen l m now)
end
end Go.Proofs.YthcjliffpebjaaaGreat
/- What is to be shown of functions. Printed by a program. No condition. -/
namespace Go.Proofs.YthcjliffpebjaaaGreat
set_option linter.unusedSimpArgs false
open Go Go.K
set_option maxRecDepth 100000
set_option maxHeartbeats 4000000
set_option linter.unusedVariables false
noncomputable section
def Rblamed (m : Rates) (ts : List Cell) : Prop :=
  (((some (.cells false 0 [.int .i64 m.up.conc, .int .i64 m.up.thick, .int .i64 m.up.ridge, .int .i64 m.up.press, .int .i64 m.down.conc, .int .i64 m.down.thick, .int .i64 m.down.ridge, .int .i64 m.down.press, .slice (some ⟨1, 0, some 1⟩) (List.length ts) (List.length ts)] : KObj) = some (.cells false 0 [.int .i64 m.up.conc, .int .i64 m.up.thick, .int .i64 m.up.ridge, .int .i64 m.up.press, .int .i64 m.down.conc, .int .i64 m.down.thick, .int .i64 m.down.ridge, .int .i64 m.down.press, .slice (some ⟨1, 0, some 1⟩) (List.length ts) (List.length ts)] : KObj)) ∧ (some (.cells false 0 (List.flatMap cellC ts) : KObj) = some (.cells false 0 (List.flatMap cellC ts) : KObj)) ∧ True) ∧ (∀ H' : Heap, H'.length = 2 → (H'[0]? = some (.cells false 0 [.int .i64 m.up.conc, .int .i64 m.up.thick, .int .i64 m.up.ridge, .int .i64 m.up.press, .int .i64 m.down.conc, .int .i64 m.down.thick, .int .i64 m.down.ridge, .int .i64 m.down.press, .slice (some ⟨1, 0, some 1⟩) (List.length ts) (List.length ts)] : KObj) ∧ H'[1]? = some (.cells false 0 (List.flatMap cellC ts) : KObj) ∧ True) → KCall prog 138 [.pointer (some ⟨0, 0, none⟩)] H' [] (Is (.slice (some ⟨2, 0, some 1⟩) (List.length (agrA ts)) (List.length (agrA ts))) (H' ++ [(.cells true 1 (List.flatMap natC (agrA ts)) : KObj)]))) ∧ (true = true ∧ (0 ≤ List.length (agrA ts)) ∧ (true = true ∧ ((.int .i64 0 : Value) = .int .i64 ((0 : Nat) : Int) ∧ wk (.slice none 0 0 : Value) (.slice (some ⟨0, 0, some 1⟩) 0 0 : Value) ∧ (.pointer (some ⟨0, 0, none⟩) : Value) = .pointer (some ⟨0, 0, none⟩) ∧ (.slice none 0 0 : Value) = .slice none 0 0 ∧ wk (.slice (some ⟨2, 0, some 1⟩) (List.length (agrA ts)) (List.length (agrA ts)) : Value) (.slice (some ⟨2, 0, some 1⟩) (List.length (agrA ts)) (List.length (agrA ts)) : Value) ∧ (.int .i64 (((List.length (agrA ts)) : Nat) : Int) : Value) = .int .i64 (((List.length (agrA ts)) : Nat) : Int) ∧ True) ∧ (True) ∧ (True ∧ True) ∧ (True)) ∧ (∀ x1 : Nat, true = true) ∧ ∀ x1 : Nat, (x1 ≤ List.length (agrA ts)) → (((decide ((x1 : Int) < (((List.length (agrA ts)) : Nat) : Int))) = true → (((0 : Int) ≤ (x1 : Int) ∧ (x1 : Int) < (((List.length (agrA ts)) : Nat) : Int)) ∧ (((List.flatMap natC (agrA ts))[(0 + Int.toNat (x1 : Int) * 1)]? = some (.int .i64 (((List.getD (agrA ts) x1 0) : Nat) : Int))) ∧ (true = true ∧ (0 ≤ List.length ts) ∧ (true = true ∧ ((.int .i64 0 : Value) = .int .i64 ((0 : Nat) : Int) ∧ wk (.slice none 0 0 : Value) (.slice (some ⟨0, 0, some 1⟩) (List.length (outTo (List.length ts) (List.getD (agrA ts) x1 0) 0)) (List.length (outTo (List.length ts) (List.getD (agrA ts) x1 0) 0)) : Value) ∧ (.int .i64 (((List.length (agrA ts)) : Nat) : Int) : Value) = .int .i64 (((List.length (agrA ts)) : Nat) : Int) ∧ wk (.slice (some ⟨2, 0, some 1⟩) (List.length (agrA ts)) (List.length (agrA ts)) : Value) (.slice (some ⟨2, 0, some 1⟩) (List.length (agrA ts)) (List.length (agrA ts)) : Value) ∧ (.slice none 0 0 : Value) = .slice none 0 0 ∧ (.pointer (some ⟨0, 0, none⟩) : Value) = .pointer (some ⟨0, 0, none⟩) ∧ wk (.slice (some ⟨3, 0, some 1⟩) x1 x1 : Value) (.slice (some ⟨3, 0, some 1⟩) x1 x1 : Value) ∧ (.int .i64 (x1 : Int) : Value) = .int .i64 (x1 : Int) ∧ (.int .i64 (((List.getD (agrA ts) x1 0) : Nat) : Int) : Value) = .int .i64 (((List.getD (agrA ts) x1 0) : Nat) : Int) ∧ (.int .i64 (((List.length ts) : Nat) : Int) : Value) = .int .i64 (((List.length ts) : Nat) : Int) ∧ True) ∧ (True) ∧ (True ∧ True) ∧ (True)) ∧ (∀ x2 : Nat, true = true) ∧ ∀ x2 : Nat, (x2 ≤ List.length ts) → (((decide ((x2 : Int) < (((List.length ts) : Nat) : Int))) = true → (∃ r3 : Int, (((some (.cells false 0 [.int .i64 m.up.conc, .int .i64 m.up.thick, .int .i64 m.up.ridge, .int .i64 m.up.press, .int .i64 m.down.conc, .int .i64 m.down.thick, .int .i64 m.down.ridge, .int .i64 m.down.press, .slice (some ⟨1, 0, some 1⟩) (List.length ts) (List.length ts)] : KObj) = some (.cells false 0 [.int .i64 m.up.conc, .int .i64 m.up.thick, .int .i64 m.up.ridge, .int .i64 m.up.press, .int .i64 m.down.conc, .int .i64 m.down.thick, .int .i64 m.down.ridge, .int .i64 m.down.press, .slice (some ⟨1, 0, some 1⟩) (List.length ts) (List.length ts)] : KObj)) ∧ (some (.cells false 0 (List.flatMap cellC ts) : KObj) = some (.cells false 0 (List.flatMap cellC ts) : KObj)) ∧ True) ∧ (∀ H' : Heap, H'.length = 5 → (H'[0]? = some (.cells false 0 [.int .i64 m.up.conc, .int .i64 m.up.thick, .int .i64 m.up.ridge, .int .i64 m.up.press, .int .i64 m.down.conc, .int .i64 m.down.thick, .int .i64 m.down.ridge, .int .i64 m.down.press, .slice (some ⟨1, 0, some 1⟩) (List.length ts) (List.length ts)] : KObj) ∧ H'[1]? = some (.cells false 0 (List.flatMap cellC ts) : KObj) ∧ True) → KCall prog 135 [.pointer (some ⟨0, 0, none⟩), .int .i64 (x2 : Int)] H' [] (Is (.int .i64 r3) H')) ∧ (∃ y4 : Int, (.int .i64 (IntKind.wrap .i64 ((BitVec.ofInt (IntKind.bits .i64) (((List.getD (agrA ts) x1 0) : Nat) : Int) &&& BitVec.ofInt (IntKind.bits .i64) r3).toNat : Nat)) : Value) = .int .i64 y4 ∧ ((((y4 : Int) == 0) = true → ((((List.length (outTo (List.length ts) (List.getD (agrA ts) x1 0) x2)) + 1) * 8 ≤ 2 ^ 44 ∧ 1 ≠ 0 ∧ ((List.length (outTo (List.length ts) (List.getD (agrA ts) x1 0) x2)) ≤ (List.length (outTo (List.length ts) (List.getD (agrA ts) x1 0) x2)) ∧ 0 + (List.length (outTo (List.length ts) (List.getD (agrA ts) x1 0) x2)) * 1 ≤ List.length (List.flatMap intC (outTo (List.length ts) (List.getD (agrA ts) x1 0) x2))) ∧ (1 ≤ 1 ∧ 0 + 1 * 1 ≤ List.length ([.int .i64 (x2 : Int)] : List Value)) ∧ ((List.take (1 * 1) (List.drop 0 ([.int .i64 (x2 : Int)] : List Value))) : List Value).all (fun v => one1 v) = true) ∧ true = true ∧ ((.int .i64 (IntKind.wrap .i64 ((x2 : Int) + 1)) : Value) = .int .i64 ((x2 : Int) + 1) ∧ (∃ x2' : Nat, (x2' ≤ List.length ts) ∧ (List.length ts - x2') < (List.length ts - x2) ∧ true = true ∧ ((.int .i64 ((x2 : Int) + 1) : Value) = .int .i64 ((x2' : Nat) : Int) ∧ wk (.slice (some ⟨6, 0, none⟩) ((List.length (outTo (List.length ts) (List.getD (agrA ts) x1 0) x2)) + 1) ((List.length (outTo (List.length ts) (List.getD (agrA ts) x1 0) x2)) + 1) : Value) (.slice (some ⟨6, 0, some 1⟩) (List.length (outTo (List.length ts) (List.getD (agrA ts) x1 0) x2')) (List.length (outTo (List.length ts) (List.getD (agrA ts) x1 0) x2')) : Value) ∧ (.int .i64 (((List.length (agrA ts)) : Nat) : Int) : Value) = .int .i64 (((List.length (agrA ts)) : Nat) : Int) ∧ wk (.slice (some ⟨2, 0, some 1⟩) (List.length (agrA ts)) (List.length (agrA ts)) : Value) (.slice (some ⟨2, 0, some 1⟩) (List.length (agrA ts)) (List.length (agrA ts)) : Value) ∧ (.slice none 0 0 : Value) = .slice none 0 0 ∧ (.pointer (some ⟨0, 0, none⟩) : Value) = .pointer (some ⟨0, 0, none⟩) ∧ wk (.slice (some ⟨3, 0, some 1⟩) x1 x1 : Value) (.slice (some ⟨3, 0, some 1⟩) x1 x1 : Value) ∧ (.int .i64 (x1 : Int) : Value) = .int .i64 (x1 : Int) ∧ (.int .i64 (((List.getD (agrA ts) x1 0) : Nat) : Int) : Value) = .int .i64 (((List.getD (agrA ts) x1 0) : Nat) : Int) ∧ (.int .i64 (((List.length ts) : Nat) : Int) : Value) = .int .i64 (((List.length ts) : Nat) : Int) ∧ True) ∧ (True) ∧ ((some (.cells true 1 ((List.take ((List.length (outTo (List.length ts) (List.getD (agrA ts) x1 0) x2)) * 1) (List.drop 0 (List.flatMap intC (outTo (List.length ts) (List.getD (agrA ts) x1 0) x2)))) ++ (List.take (1 * 1) (List.drop 0 ([.int .i64 (x2 : Int)] : List Value)))) : KObj) = some (.cells true 1 (List.flatMap intC (outTo (List.length ts) (List.getD (agrA ts) x1 0) x2')) : KObj) ∧ belowO 4 (.cells true 1 (List.flatMap intC (outTo (List.length ts) (List.getD (agrA ts) x1 0) x2')) : KObj) = true) ∧ True) ∧ (True))))) ∧ (((y4 : Int) == 0) = false → ((.int .i64 (IntKind.wrap .i64 ((x2 : Int) + 1)) : Value) = .int .i64 ((x2 : Int) + 1) ∧ (∃ x2' : Nat, (x2' ≤ List.length ts) ∧ (List.length ts - x2') < (List.length ts - x2) ∧ true = true ∧ ((.int .i64 ((x2 : Int) + 1) : Value) = .int .i64 ((x2' : Nat) : Int) ∧ wk (.slice (some ⟨4, 0, some 1⟩) (List.length (outTo (List.length ts) (List.getD (agrA ts) x1 0) x2)) (List.length (outTo (List.length ts) (List.getD (agrA ts) x1 0) x2)) : Value) (.slice (some ⟨4, 0, some 1⟩) (List.length (outTo (List.length ts) (List.getD (agrA ts) x1 0) x2')) (List.length (outTo (List.length ts) (List.getD (agrA ts) x1 0) x2')) : Value) ∧ (.int .i64 (((List.length (agrA ts)) : Nat) : Int) : Value) = .int .i64 (((List.length (agrA ts)) : Nat) : Int) ∧ wk (.slice (some ⟨2, 0, some 1⟩) (List.length (agrA ts)) (List.length (agrA ts)) : Value) (.slice (some ⟨2, 0, some 1⟩) (List.length (agrA ts)) (List.length (agrA ts)) : Value) ∧ (.slice none 0 0 : Value) = .slice none 0 0 ∧ (.pointer (some ⟨0, 0, none⟩) : Value) = .pointer (some ⟨0, 0, none⟩) ∧ wk (.slice (some ⟨3, 0, some 1⟩) x1 x1 : Value) (.slice (some ⟨3, 0, some 1⟩) x1 x1 : Value) ∧ (.int .i64 (x1 : Int) : Value) = .int .i64 (x1 : Int) ∧ (.int .i64 (((List.getD (agrA ts) x1 0) : Nat) : Int) : Value) = .int .i64 (((List.getD (agrA ts) x1 0) : Nat) : Int) ∧ (.int .i64 (((List.length ts) : Nat) : Int) : Value) = .int .i64 (((List.length ts) : Nat) : Int) ∧ True) ∧ (True) ∧ ((some (.cells true 1 (List.flatMap intC (outTo (List.length ts) (List.getD (agrA ts) x1 0) x2)) : KObj) = some (.cells true 1 (List.flatMap intC (outTo (List.length ts) (List.getD (agrA ts) x1 0) x2')) : KObj) ∧ belowO 4 (.cells true 1 (List.flatMap intC (outTo (List.length ts) (List.getD (agrA ts) x1 0) x2')) : KObj) = true) ∧ True) ∧ (True))))))))) ∧ ((decide ((x2 : Int) < (((List.length ts) : Nat) : Int))) = false → (((x1 + 1) * 24 ≤ 2 ^ 44 ∧ 1 ≠ 0 ∧ (x1 ≤ x1 ∧ 0 + x1 * 1 ≤ List.length (dIL (blL ts x1))) ∧ (1 ≤ 1 ∧ 0 + 1 * 1 ≤ List.length ([.iface ((List.length (outTo (List.length ts) (List.getD (agrA ts) x1 0) x2)) + 1) (.agg ⟨(List.flatMap intC (outTo (List.length ts) (List.getD (agrA ts) x1 0) x2))⟩)] : List Value)) ∧ ((List.take (1 * 1) (List.drop 0 ([.iface ((List.length (outTo (List.length ts) (List.getD (agrA ts) x1 0) x2)) + 1) (.agg ⟨(List.flatMap intC (outTo (List.length ts) (List.getD (agrA ts) x1 0) x2))⟩)] : List Value))) : List Value).all (fun v => one1 v) = true) ∧ true = true ∧ ((.int .i64 (IntKind.wrap .i64 ((x1 : Int) + 1)) : Value) = .int .i64 ((x1 : Int) + 1) ∧ (∃ x1' : Nat, (x1' ≤ List.length (agrA ts)) ∧ (List.length (agrA ts) - x1') < (List.length (agrA ts) - x1) ∧ true = true ∧ ((.int .i64 ((x1 : Int) + 1) : Value) = .int .i64 ((x1' : Nat) : Int) ∧ wk (.slice (some ⟨6, 0, none⟩) (x1 + 1) (x1 + 1) : Value) (.slice (some ⟨6, 0, some 1⟩) x1' x1' : Value) ∧ (.pointer (some ⟨0, 0, none⟩) : Value) = .pointer (some ⟨0, 0, none⟩) ∧ (.slice none 0 0 : Value) = .slice none 0 0 ∧ wk (.slice (some ⟨2, 0, some 1⟩) (List.length (agrA ts)) (List.length (agrA ts)) : Value) (.slice (some ⟨2, 0, some 1⟩) (List.length (agrA ts)) (List.length (agrA ts)) : Value) ∧ (.int .i64 (((List.length (agrA ts)) : Nat) : Int) : Value) = .int .i64 (((List.length (agrA ts)) : Nat) : Int) ∧ True) ∧ (True) ∧ ((some (.cells true 1 ((List.take (x1 * 1) (List.drop 0 (dIL (blL ts x1)))) ++ (List.take (1 * 1) (List.drop 0 ([.iface ((List.length (outTo (List.length ts) (List.getD (agrA ts) x1 0) x2)) + 1) (.agg ⟨(List.flatMap intC (outTo (List.length ts) (List.getD (agrA ts) x1 0) x2))⟩)] : List Value)))) : KObj) = some (.cells true 1 (dIL (blL ts x1')) : KObj) ∧ belowO 3 (.cells true 1 (dIL (blL ts x1')) : KObj) = true) ∧ True) ∧ (True)))))))))) ∧ ((decide ((x1 : Int) < (((List.length (agrA ts)) : Nat) : Int))) = false → (((some (.cells true 1 (dIL (blL ts x1)) : KObj) = some (.cells true 1 (dIL (blL ts x1)) : KObj)) ∧ True) ∧ (∀ H' : Heap, H'.length = 4 → (H'[3]? = some (.cells true 1 (dIL (blL ts x1)) : KObj) ∧ True) → KCall prog 140 [.slice (some ⟨3, 0, some 1⟩) x1 x1, .func (.func 141) #[] #[]] H' [3] (Is (.tuple #[]) (List.set H' 3 (.cells true 1 (dIL (srtL (blL ts x1))) : KObj)))) ∧ (true = true ∧ wk (.slice (some ⟨3, 0, some 1⟩) x1 x1 : Value) (rn (sg 2 [(2, 3)]) 3 (.slice (some ⟨2, 0, some 1⟩) (List.length (blamedL ts)) (List.length (blamedL ts)) : Value)) ∧ ((some (.cells true 1 (dIL (srtL (blL ts x1))) : KObj) = some (.cells true 1 (dIL (blamedL ts)) : KObj) ∧ belowO 2 (.cells true 1 (dIL (blamedL ts)) : KObj) = true) ∧ True)))))))
theorem Eblamed (m : Rates) (ts : List Cell) : vF prog msk (dm 0) 100000 true 40 true 87 [.pointer (some ⟨0, 0, none⟩)] (readsT 0 [[.int .i64 m.up.conc, .int .i64 m.up.thick, .int .i64 m.up.ridge, .int .i64 m.up.press, .int .i64 m.down.conc, .int .i64 m.down.thick, .int .i64 m.down.ridge, .int .i64 m.down.press, .slice (some ⟨1, 0, some 1⟩) (List.length ts) (List.length ts)], ts.flatMap cellC]) (some [])
  (.go 2 (.ans [(0, .cells false 0 [.int .i64 m.up.conc, .int .i64 m.up.thick, .int .i64 m.up.ridge, .int .i64 m.up.press, .int .i64 m.down.conc, .int .i64 m.down.thick, .int .i64 m.down.ridge, .int .i64 m.down.press, .slice (some ⟨1, 0, some 1⟩) (List.length ts) (List.length ts)]), (1, .cells false 0 (List.flatMap cellC ts))] (.slice (some ⟨2, 0, some 1⟩) (List.length (agrA ts)) (List.length (agrA ts))) [.cells true 1 (List.flatMap natC (agrA ts))] (.go 1 (.inv 3 (Nat) (0) [] [] (fun x1 => [(11, .int .i64 (x1 : Int)), (3, .slice (some ⟨3, 0, some 1⟩) x1 x1), (0, .pointer (some ⟨0, 0, none⟩)), (2, .slice none 0 0), (9, .slice (some ⟨2, 0, some 1⟩) (List.length (agrA ts)) (List.length (agrA ts))), (10, .int .i64 (((List.length (agrA ts)) : Nat) : Int))]) (fun x1 => []) (fun x1 => [(true, .cells true 1 (dIL (blL ts x1)))]) (fun x1 => []) (fun x1 => (x1 ≤ List.length (agrA ts))) (fun x1 => (List.length (agrA ts) - x1)) (fun x1 => .go 0 (.fork (.need (.val (.int .i64 (((List.getD (agrA ts) x1 0) : Nat) : Int)) (.go 7 (.inv 3 (Nat) (0) [] [] (fun x2 => [(20, .int .i64 (x2 : Int)), (6, .slice (some ⟨4, 0, some 1⟩) (List.length (outTo (List.length ts) (List.getD (agrA ts) x1 0) x2)) (List.length (outTo (List.length ts) (List.getD (agrA ts) x1 0) x2))), (10, .int .i64 (((List.length (agrA ts)) : Nat) : Int)), (9, .slice (some ⟨2, 0, some 1⟩) (List.length (agrA ts)) (List.length (agrA ts))), (2, .slice none 0 0), (0, .pointer (some ⟨0, 0, none⟩)), (3, .slice (some ⟨3, 0, some 1⟩) x1 x1), (11, .int .i64 (x1 : Int)), (5, .int .i64 (((List.getD (agrA ts) x1 0) : Nat) : Int)), (19, .int .i64 (((List.length ts) : Nat) : Int))]) (fun x2 => []) (fun x2 => [(true, .cells true 1 (List.flatMap intC (outTo (List.length ts) (List.getD (agrA ts) x1 0) x2)))]) (fun x2 => []) (fun x2 => (x2 ≤ List.length ts)) (fun x2 => (List.length ts - x2)) (fun x2 => .go 0 (.fork (.go 4 (.bind (Int) (fun r3 => .ans [(0, .cells false 0 [.int .i64 m.up.conc, .int .i64 m.up.thick, .int .i64 m.up.ridge, .int .i64 m.up.press, .int .i64 m.down.conc, .int .i64 m.down.thick, .int .i64 m.down.ridge, .int .i64 m.down.press, .slice (some ⟨1, 0, some 1⟩) (List.length ts) (List.length ts)]), (1, .cells false 0 (List.flatMap cellC ts))] (.int .i64 r3) [] (.go 0 (.bind Int (fun y4 => .slot 27 (.int .i64 y4) (.go 0 (.fork (.go 2 (.need (.go 1 (.slot 33 (.int .i64 ((x2 : Int) + 1)) (.go 0 (.again [(4, 6)])))))) (.go 0 (.slot 33 (.int .i64 ((x2 : Int) + 1)) (.go 0 (.again [(4, 4)])))))))))))) (.frz [6] (.go 2 (.need (.go 1 (.slot 38 (.int .i64 ((x1 : Int) + 1)) (.go 0 (.again [(3, 6)]))))))))))))) (.go 0 (.answ [(3, .cells true 1 (dIL (blL ts x1)))] (.tuple #[]) [(3, .cells true 1 (dIL (srtL (blL ts x1))))] (.go 1 (.again [(2, 3)]))))))))))
  (newK ((readsT 0 [[.int .i64 m.up.conc, .int .i64 m.up.thick, .int .i64 m.up.ridge, .int .i64 m.up.press, .int .i64 m.down.conc, .int .i64 m.down.thick, .int .i64 m.down.ridge, .int .i64 m.down.press, .slice (some ⟨1, 0, some 1⟩) (List.length ts) (List.length ts)], ts.flatMap cellC]) : HT).n 3 (.slice (some ⟨2, 0, some 1⟩) (List.length (blamedL ts)) (List.length (blamedL ts))) [(true, .cells true 1 (dIL (blamedL ts)))]) = Rblamed m ts := by kernel_rfl
def RBlame (l : List Report) (m : Rates) (now : Int) : Prop :=
  (((errOpen l m now = 0) → (((some (.cells false 0 (List.flatMap reportC l) : KObj) = some (.cells false 0 (List.flatMap reportC l) : KObj)) ∧ True) ∧ (∀ H' : Heap, H'.length = 2 → (H'[0]? = some (.cells false 0 (List.flatMap reportC l) : KObj) ∧ True) → KCall prog 79 [.slice (some ⟨0, 0, some 2⟩) (List.length l) (List.length l), (ratesV m), .int .i64 now] H' [] (Is (.tuple #[.pointer (some ⟨2, 0, none⟩), .int .i64 0]) (H' ++ [(.cells true 0 [.int .i64 m.up.conc, .int .i64 m.up.thick, .int .i64 m.up.ridge, .int .i64 m.up.press, .int .i64 m.down.conc, .int .i64 m.down.thick, .int .i64 m.down.ridge, .int .i64 m.down.press, .slice (some ⟨3, 0, some 1⟩) (List.length (told l m now)) (List.length (told l m now))] : KObj), (.cells true 8 (List.flatMap cellC (told l m now)) : KObj)]))) ∧ (((some (.cells true 0 [.int .i64 m.up.conc, .int .i64 m.up.thick, .int .i64 m.up.ridge, .int .i64 m.up.press, .int .i64 m.down.conc, .int .i64 m.down.thick, .int .i64 m.down.ridge, .int .i64 m.down.press, .slice (some ⟨3, 0, some 1⟩) (List.length (told l m now)) (List.length (told l m now))] : KObj) = some (.cells true 0 [.int .i64 m.up.conc, .int .i64 m.up.thick, .int .i64 m.up.ridge, .int .i64 m.up.press, .int .i64 m.down.conc, .int .i64 m.down.thick, .int .i64 m.down.ridge, .int .i64 m.down.press, .slice (some ⟨3, 0, some 1⟩) (List.length (told l m now)) (List.length (told l m now))] : KObj)) ∧ (some (.cells true 8 (List.flatMap cellC (told l m now)) : KObj) = some (.cells true 8 (List.flatMap cellC (told l m now)) : KObj)) ∧ True) ∧ (∀ H' : Heap, H'.length = 4 → (H'[2]? = some (.cells true 0 [.int .i64 m.up.conc, .int .i64 m.up.thick, .int .i64 m.up.ridge, .int .i64 m.up.press, .int .i64 m.down.conc, .int .i64 m.down.thick, .int .i64 m.down.ridge, .int .i64 m.down.press, .slice (some ⟨3, 0, some 1⟩) (List.length (told l m now)) (List.length (told l m now))] : KObj) ∧ H'[3]? = some (.cells true 8 (List.flatMap cellC (told l m now)) : KObj) ∧ True) → KCall prog 87 [.pointer (some ⟨2, 0, none⟩)] H' [] (Is (.slice (some ⟨4, 0, some 1⟩) (List.length (blamedL (told l m now))) (List.length (blamedL (told l m now)))) (H' ++ [(.cells true 1 (dIL (blamedL (told l m now))) : KObj)]))) ∧ (true = true ∧ wk (.tuple #[.slice (some ⟨4, 0, some 1⟩) (List.length (blamedL (told l m now))) (List.length (blamedL (told l m now))), .int .i64 0] : Value) (rn (sg 1 [(1, 4)]) 3 (.tuple #[.slice (some ⟨1, 0, some 1⟩) (List.length (fBlame l m now).1) (List.length (fBlame l m now).1), .int .i64 (fBlame l m now).2] : Value)) ∧ ((some (.cells true 1 (dIL (blamedL (told l m now))) : KObj) = some (.cells true 1 (dIL (fBlame l m now).1) : KObj) ∧ belowO 1 (.cells true 1 (dIL (fBlame l m now).1) : KObj) = true) ∧ True))))) ∧ ((¬ (errOpen l m now = 0)) → (((some (.cells false 0 (List.flatMap reportC l) : KObj) = some (.cells false 0 (List.flatMap reportC l) : KObj)) ∧ True) ∧ (∀ H' : Heap, H'.length = 2 → (H'[0]? = some (.cells false 0 (List.flatMap reportC l) : KObj) ∧ True) → KCall prog 79 [.slice (some ⟨0, 0, some 2⟩) (List.length l) (List.length l), (ratesV m), .int .i64 now] H' [] (Is (.tuple #[.pointer none, .int .i64 (errOpen l m now)]) H')) ∧ ((.bool (((errOpen l m now) : Int) != 0) : Value) = .bool true ∧ (true = true ∧ wk (.tuple #[.slice none 0 0, .int .i64 (errOpen l m now)] : Value) (rn (sg 1 []) 3 (.tuple #[.slice (some ⟨1, 0, some 1⟩) (List.length (fBlame l m now).1) (List.length (fBlame l m now).1), .int .i64 (fBlame l m now).2] : Value)) ∧ (True ∧ True))))))
theorem EBlame (l : List Report) (m : Rates) (now : Int) : vF prog msk (dm 0) 100000 true 40 true 21 [.slice (some ⟨0, 0, some 2⟩) (List.length l) (List.length l), (ratesV m), .int .i64 now] (readsT 0 [l.flatMap reportC]) (some [])
  (.go 5 (.cas (errOpen l m now = 0) (.ans [(0, .cells false 0 (List.flatMap reportC l))] (.tuple #[.pointer (some ⟨2, 0, none⟩), .int .i64 0]) [.cells true 0 [.int .i64 m.up.conc, .int .i64 m.up.thick, .int .i64 m.up.ridge, .int .i64 m.up.press, .int .i64 m.down.conc, .int .i64 m.down.thick, .int .i64 m.down.ridge, .int .i64 m.down.press, .slice (some ⟨3, 0, some 1⟩) (List.length (told l m now)) (List.length (told l m now))], .cells true 8 (List.flatMap cellC (told l m now))] (.go 8 (.ans [(2, .cells true 0 [.int .i64 m.up.conc, .int .i64 m.up.thick, .int .i64 m.up.ridge, .int .i64 m.up.press, .int .i64 m.down.conc, .int .i64 m.down.thick, .int .i64 m.down.ridge, .int .i64 m.down.press, .slice (some ⟨3, 0, some 1⟩) (List.length (told l m now)) (List.length (told l m now))]), (3, .cells true 8 (List.flatMap cellC (told l m now)))] (.slice (some ⟨4, 0, some 1⟩) (List.length (blamedL (told l m now))) (List.length (blamedL (told l m now)))) [.cells true 1 (dIL (blamedL (told l m now)))] (.go 1 (.again [(1, 4)]))))) (.ans [(0, .cells false 0 (List.flatMap reportC l))] (.tuple #[.pointer none, .int .i64 (errOpen l m now)]) [] (.go 6 (.slot 18 (.bool true) (.go 3 (.again [])))))))
  (newK ((readsT 0 [l.flatMap reportC]) : HT).n 3 (.tuple #[.slice (some ⟨1, 0, some 1⟩) (List.length (fBlame l m now).1) (List.length (fBlame l m now).1), .int .i64 (fBlame l m now).2]) [(true, .cells true 1 (dIL (fBlame l m now).1))]) = RBlame l m now := by kernel_rfl
def RGuilt (l : List Report) (m : Rates) (now : Int) : Prop :=
  (((errOpen l m now = 0) → (((some (.cells false 0 (List.flatMap reportC l) : KObj) = some (.cells false 0 (List.flatMap reportC l) : KObj)) ∧ True) ∧ (∀ H' : Heap, H'.length = 2 → (H'[0]? = some (.cells false 0 (List.flatMap reportC l) : KObj) ∧ True) → KCall prog 79 [.slice (some ⟨0, 0, some 2⟩) (List.length l) (List.length l), (ratesV m), .int .i64 now] H' [] (Is (.tuple #[.pointer (some ⟨2, 0, none⟩), .int .i64 0]) (H' ++ [(.cells true 0 [.int .i64 m.up.conc, .int .i64 m.up.thick, .int .i64 m.up.ridge, .int .i64 m.up.press, .int .i64 m.down.conc, .int .i64 m.down.thick, .int .i64 m.down.ridge, .int .i64 m.down.press, .slice (some ⟨3, 0, some 1⟩) (List.length (told l m now)) (List.length (told l m now))] : KObj), (.cells true 8 (List.flatMap cellC (told l m now)) : KObj)]))) ∧ (((some (.cells true 0 [.int .i64 m.up.conc, .int .i64 m.up.thick, .int .i64 m.up.ridge, .int .i64 m.up.press, .int .i64 m.down.conc, .int .i64 m.down.thick, .int .i64 m.down.ridge, .int .i64 m.down.press, .slice (some ⟨3, 0, some 1⟩) (List.length (told l m now)) (List.length (told l m now))] : KObj) = some (.cells true 0 [.int .i64 m.up.conc, .int .i64 m.up.thick, .int .i64 m.up.ridge, .int .i64 m.up.press, .int .i64 m.down.conc, .int .i64 m.down.thick, .int .i64 m.down.ridge, .int .i64 m.down.press, .slice (some ⟨3, 0, some 1⟩) (List.length (told l m now)) (List.length (told l m now))] : KObj)) ∧ (some (.cells true 8 (List.flatMap cellC (told l m now)) : KObj) = some (.cells true 8 (List.flatMap cellC (told l m now)) : KObj)) ∧ True) ∧ (∀ H' : Heap, H'.length = 4 → (H'[2]? = some (.cells true 0 [.int .i64 m.up.conc, .int .i64 m.up.thick, .int .i64 m.up.ridge, .int .i64 m.up.press, .int .i64 m.down.conc, .int .i64 m.down.thick, .int .i64 m.down.ridge, .int .i64 m.down.press, .slice (some ⟨3, 0, some 1⟩) (List.length (told l m now)) (List.length (told l m now))] : KObj) ∧ H'[3]? = some (.cells true 8 (List.flatMap cellC (told l m now)) : KObj) ∧ True) → KCall prog 87 [.pointer (some ⟨2, 0, none⟩)] H' [] (Is (.slice (some ⟨4, 0, some 1⟩) (List.length (blamedL (told l m now))) (List.length (blamedL (told l m now)))) (H' ++ [(.cells true 1 (dIL (blamedL (told l m now))) : KObj)]))) ∧ (((0 : Int) ≤ (((List.length l) : Nat) : Int) ∧ ((((List.length l) : Nat) : Int) : Int) ≤ (((List.length l) : Nat) : Int) ∧ ((((List.length l) : Nat) : Int) : Int) < 2 ^ 62 ∧ 8 * ((((List.length l) : Nat) : Int) : Int) ≤ 2 ^ 48) ∧ (true = true ∧ (0 ≤ List.length l) ∧ (true = true ∧ ((.int .i64 0 : Value) = .int .i64 ((0 : Nat) : Int) ∧ (.slice none 0 0 : Value) = .slice none 0 0 ∧ (.int .i64 0 : Value) = .int .i64 0 ∧ wk (.slice (some ⟨4, 0, some 1⟩) (List.length (blamedL (told l m now))) (List.length (blamedL (told l m now))) : Value) (.slice (some ⟨4, 0, some 1⟩) (List.length (blamedL (told l m now))) (List.length (blamedL (told l m now))) : Value) ∧ (.slice (some ⟨5, 0, none⟩) (List.length l) (List.length l) : Value) = .slice (some ⟨5, 0, none⟩) (List.length l) (List.length l) ∧ (.int .i64 (((List.length l) : Nat) : Int) : Value) = .int .i64 (((List.length l) : Nat) : Int) ∧ True) ∧ ((some (.cells true 1 (krep [.int .i64 0] (List.length l)) : KObj) = some (.cells true 1 (List.flatMap intC (guiltTo (blamedL (told l m now)) (List.length l) 0)) : KObj) ∧ belowO 6 (.cells true 1 (List.flatMap intC (guiltTo (blamedL (told l m now)) (List.length l) 0)) : KObj) = true) ∧ True) ∧ (True) ∧ (True)) ∧ (∀ x2 : Nat, true = true) ∧ ∀ x2 : Nat, (x2 ≤ List.length l) → (((decide ((x2 : Int) < (((List.length l) : Nat) : Int))) = true → (true = true ∧ (0 ≤ List.length (blamedL (told l m now))) ∧ (true = true ∧ ((.int .i64 0 : Value) = .int .i64 ((0 : Nat) : Int) ∧ (.int .i64 0 : Value) = .int .i64 (((inCnt (blamedL (told l m now)) (x2 : Int) 0) : Nat) : Int) ∧ (.int .i64 (((List.length l) : Nat) : Int) : Value) = .int .i64 (((List.length l) : Nat) : Int) ∧ (.slice (some ⟨5, 0, none⟩) (List.length l) (List.length l) : Value) = .slice (some ⟨5, 0, none⟩) (List.length l) (List.length l) ∧ wk (.slice (some ⟨4, 0, some 1⟩) (List.length (blamedL (told l m now))) (List.length (blamedL (told l m now))) : Value) (.slice (some ⟨4, 0, some 1⟩) (List.length (blamedL (told l m now))) (List.length (blamedL (told l m now))) : Value) ∧ (.int .i64 0 : Value) = .int .i64 0 ∧ (.slice none 0 0 : Value) = .slice none 0 0 ∧ (.int .i64 (x2 : Int) : Value) = .int .i64 (x2 : Int) ∧ (.int .i64 (x2 : Int) : Value) = .int .i64 (x2 : Int) ∧ wk (.slice (some ⟨4, 0, some 1⟩) (List.length (blamedL (told l m now))) (List.length (blamedL (told l m now))) : Value) (.slice (some ⟨4, 0, some 1⟩) (List.length (blamedL (told l m now))) (List.length (blamedL (told l m now))) : Value) ∧ (.int .i64 (((List.length (blamedL (told l m now))) : Nat) : Int) : Value) = .int .i64 (((List.length (blamedL (told l m now))) : Nat) : Int) ∧ True) ∧ (True) ∧ (True) ∧ (True)) ∧ (∀ x3 : Nat, true = true) ∧ ∀ x3 : Nat, (x3 ≤ List.length (blamedL (told l m now))) → (((decide ((x3 : Int) < (((List.length (blamedL (told l m now))) : Nat) : Int))) = true → (((0 : Int) ≤ (x3 : Int) ∧ (x3 : Int) < (((List.length (blamedL (told l m now))) : Nat) : Int)) ∧ (((dIL (blamedL (told l m now)))[(0 + Int.toNat (x3 : Int) * 1)]? = some (.iface ((List.length (List.getD (blamedL (told l m now)) x3 [])) + 1) (.agg ⟨(List.flatMap intC (List.getD (blamedL (told l m now)) x3 []))⟩))) ∧ (∃ r4 : Bool, ((True) ∧ (∀ H' : Heap, H'.length = 6 → (True) → KCall prog 89 [.iface ((List.length (List.getD (blamedL (told l m now)) x3 [])) + 1) (.agg ⟨(List.flatMap intC (List.getD (blamedL (told l m now)) x3 []))⟩), .int .i64 (x2 : Int)] H' [] (Is (.bool r4) H')) ∧ ((r4 = true → ((.int .i64 (IntKind.wrap .i64 ((((inCnt (blamedL (told l m now)) (x2 : Int) x3) : Nat) : Int) + 1)) : Value) = .int .i64 ((((inCnt (blamedL (told l m now)) (x2 : Int) x3) : Nat) : Int) + 1) ∧ ((.int .i64 (IntKind.wrap .i64 ((x3 : Int) + 1)) : Value) = .int .i64 ((x3 : Int) + 1) ∧ (∃ x3' : Nat, (x3' ≤ List.length (blamedL (told l m now))) ∧ (List.length (blamedL (told l m now)) - x3') < (List.length (blamedL (told l m now)) - x3) ∧ true = true ∧ ((.int .i64 ((x3 : Int) + 1) : Value) = .int .i64 ((x3' : Nat) : Int) ∧ (.int .i64 ((((inCnt (blamedL (told l m now)) (x2 : Int) x3) : Nat) : Int) + 1) : Value) = .int .i64 (((inCnt (blamedL (told l m now)) (x2 : Int) x3') : Nat) : Int) ∧ (.int .i64 (((List.length l) : Nat) : Int) : Value) = .int .i64 (((List.length l) : Nat) : Int) ∧ (.slice (some ⟨5, 0, none⟩) (List.length l) (List.length l) : Value) = .slice (some ⟨5, 0, none⟩) (List.length l) (List.length l) ∧ wk (.slice (some ⟨4, 0, some 1⟩) (List.length (blamedL (told l m now))) (List.length (blamedL (told l m now))) : Value) (.slice (some ⟨4, 0, some 1⟩) (List.length (blamedL (told l m now))) (List.length (blamedL (told l m now))) : Value) ∧ (.int .i64 0 : Value) = .int .i64 0 ∧ (.slice none 0 0 : Value) = .slice none 0 0 ∧ (.int .i64 (x2 : Int) : Value) = .int .i64 (x2 : Int) ∧ (.int .i64 (x2 : Int) : Value) = .int .i64 (x2 : Int) ∧ wk (.slice (some ⟨4, 0, some 1⟩) (List.length (blamedL (told l m now))) (List.length (blamedL (told l m now))) : Value) (.slice (some ⟨4, 0, some 1⟩) (List.length (blamedL (told l m now))) (List.length (blamedL (told l m now))) : Value) ∧ (.int .i64 (((List.length (blamedL (told l m now))) : Nat) : Int) : Value) = .int .i64 (((List.length (blamedL (told l m now))) : Nat) : Int) ∧ True) ∧ (True) ∧ (True) ∧ (True))))) ∧ (r4 = false → ((.int .i64 (IntKind.wrap .i64 ((x3 : Int) + 1)) : Value) = .int .i64 ((x3 : Int) + 1) ∧ (∃ x3' : Nat, (x3' ≤ List.length (blamedL (told l m now))) ∧ (List.length (blamedL (told l m now)) - x3') < (List.length (blamedL (told l m now)) - x3) ∧ true = true ∧ ((.int .i64 ((x3 : Int) + 1) : Value) = .int .i64 ((x3' : Nat) : Int) ∧ (.int .i64 (((inCnt (blamedL (told l m now)) (x2 : Int) x3) : Nat) : Int) : Value) = .int .i64 (((inCnt (blamedL (told l m now)) (x2 : Int) x3') : Nat) : Int) ∧ (.int .i64 (((List.length l) : Nat) : Int) : Value) = .int .i64 (((List.length l) : Nat) : Int) ∧ (.slice (some ⟨5, 0, none⟩) (List.length l) (List.length l) : Value) = .slice (some ⟨5, 0, none⟩) (List.length l) (List.length l) ∧ wk (.slice (some ⟨4, 0, some 1⟩) (List.length (blamedL (told l m now))) (List.length (blamedL (told l m now))) : Value) (.slice (some ⟨4, 0, some 1⟩) (List.length (blamedL (told l m now))) (List.length (blamedL (told l m now))) : Value) ∧ (.int .i64 0 : Value) = .int .i64 0 ∧ (.slice none 0 0 : Value) = .slice none 0 0 ∧ (.int .i64 (x2 : Int) : Value) = .int .i64 (x2 : Int) ∧ (.int .i64 (x2 : Int) : Value) = .int .i64 (x2 : Int) ∧ wk (.slice (some ⟨4, 0, some 1⟩) (List.length (blamedL (told l m now))) (List.length (blamedL (told l m now))) : Value) (.slice (some ⟨4, 0, some 1⟩) (List.length (blamedL (told l m now))) (List.length (blamedL (told l m now))) : Value) ∧ (.int .i64 (((List.length (blamedL (told l m now))) : Nat) : Int) : Value) = .int .i64 (((List.length (blamedL (told l m now))) : Nat) : Int) ∧ True) ∧ (True) ∧ (True) ∧ (True)))))))))) ∧ ((decide ((x3 : Int) < (((List.length (blamedL (told l m now))) : Nat) : Int))) = false → (((((((inCnt (blamedL (told l m now)) (x2 : Int) x3) : Nat) : Int) : Int) == 0) = true → ((.int .i64 (IntKind.wrap .i64 ((x2 : Int) + 1)) : Value) = .int .i64 ((x2 : Int) + 1) ∧ (∃ x2' : Nat, (x2' ≤ List.length l) ∧ (List.length l - x2') < (List.length l - x2) ∧ true = true ∧ ((.int .i64 ((x2 : Int) + 1) : Value) = .int .i64 ((x2' : Nat) : Int) ∧ (.slice none 0 0 : Value) = .slice none 0 0 ∧ (.int .i64 0 : Value) = .int .i64 0 ∧ wk (.slice (some ⟨4, 0, some 1⟩) (List.length (blamedL (told l m now))) (List.length (blamedL (told l m now))) : Value) (.slice (some ⟨4, 0, some 1⟩) (List.length (blamedL (told l m now))) (List.length (blamedL (told l m now))) : Value) ∧ (.slice (some ⟨5, 0, none⟩) (List.length l) (List.length l) : Value) = .slice (some ⟨5, 0, none⟩) (List.length l) (List.length l) ∧ (.int .i64 (((List.length l) : Nat) : Int) : Value) = .int .i64 (((List.length l) : Nat) : Int) ∧ True) ∧ ((some (.cells true 1 (List.flatMap intC (guiltTo (blamedL (told l m now)) (List.length l) x2)) : KObj) = some (.cells true 1 (List.flatMap intC (guiltTo (blamedL (told l m now)) (List.length l) x2')) : KObj) ∧ belowO 6 (.cells true 1 (List.flatMap intC (guiltTo (blamedL (told l m now)) (List.length l) x2')) : KObj) = true) ∧ True) ∧ (True) ∧ (True)))) ∧ ((((((inCnt (blamedL (told l m now)) (x2 : Int) x3) : Nat) : Int) : Int) == 0) = false → (((((((inCnt (blamedL (told l m now)) (x2 : Int) x3) : Nat) : Int) : Int) == (((List.length (blamedL (told l m now))) : Nat) : Int)) = true → (((0 : Int) ≤ (x2 : Int) ∧ (x2 : Int) < (((List.length l) : Nat) : Int)) ∧ (((0 + Int.toNat (x2 : Int) * 1) + 1 ≤ List.length (List.flatMap intC (guiltTo (blamedL (told l m now)) (List.length l) x2))) ∧ true = true ∧ ((.int .i64 (IntKind.wrap .i64 ((x2 : Int) + 1)) : Value) = .int .i64 ((x2 : Int) + 1) ∧ (∃ x2' : Nat, (x2' ≤ List.length l) ∧ (List.length l - x2') < (List.length l - x2) ∧ true = true ∧ ((.int .i64 ((x2 : Int) + 1) : Value) = .int .i64 ((x2' : Nat) : Int) ∧ (.slice none 0 0 : Value) = .slice none 0 0 ∧ (.int .i64 0 : Value) = .int .i64 0 ∧ wk (.slice (some ⟨4, 0, some 1⟩) (List.length (blamedL (told l m now))) (List.length (blamedL (told l m now))) : Value) (.slice (some ⟨4, 0, some 1⟩) (List.length (blamedL (told l m now))) (List.length (blamedL (told l m now))) : Value) ∧ (.slice (some ⟨5, 0, none⟩) (List.length l) (List.length l) : Value) = .slice (some ⟨5, 0, none⟩) (List.length l) (List.length l) ∧ (.int .i64 (((List.length l) : Nat) : Int) : Value) = .int .i64 (((List.length l) : Nat) : Int) ∧ True) ∧ ((some (.cells true 1 (setl (List.flatMap intC (guiltTo (blamedL (told l m now)) (List.length l) x2)) (0 + Int.toNat (x2 : Int) * 1) [.int .i64 2]) : KObj) = some (.cells true 1 (List.flatMap intC (guiltTo (blamedL (told l m now)) (List.length l) x2')) : KObj) ∧ belowO 6 (.cells true 1 (List.flatMap intC (guiltTo (blamedL (told l m now)) (List.length l) x2')) : KObj) = true) ∧ True) ∧ (True) ∧ (True)))))) ∧ ((((((inCnt (blamedL (told l m now)) (x2 : Int) x3) : Nat) : Int) : Int) == (((List.length (blamedL (told l m now))) : Nat) : Int)) = false → (((0 : Int) ≤ (x2 : Int) ∧ (x2 : Int) < (((List.length l) : Nat) : Int)) ∧ (((0 + Int.toNat (x2 : Int) * 1) + 1 ≤ List.length (List.flatMap intC (guiltTo (blamedL (told l m now)) (List.length l) x2))) ∧ true = true ∧ ((.int .i64 (IntKind.wrap .i64 ((x2 : Int) + 1)) : Value) = .int .i64 ((x2 : Int) + 1) ∧ (∃ x2' : Nat, (x2' ≤ List.length l) ∧ (List.length l - x2') < (List.length l - x2) ∧ true = true ∧ ((.int .i64 ((x2 : Int) + 1) : Value) = .int .i64 ((x2' : Nat) : Int) ∧ (.slice none 0 0 : Value) = .slice none 0 0 ∧ (.int .i64 0 : Value) = .int .i64 0 ∧ wk (.slice (some ⟨4, 0, some 1⟩) (List.length (blamedL (told l m now))) (List.length (blamedL (told l m now))) : Value) (.slice (some ⟨4, 0, some 1⟩) (List.length (blamedL (told l m now))) (List.length (blamedL (told l m now))) : Value) ∧ (.slice (some ⟨5, 0, none⟩) (List.length l) (List.length l) : Value) = .slice (some ⟨5, 0, none⟩) (List.length l) (List.length l) ∧ (.int .i64 (((List.length l) : Nat) : Int) : Value) = .int .i64 (((List.length l) : Nat) : Int) ∧ True) ∧ ((some (.cells true 1 (setl (List.flatMap intC (guiltTo (blamedL (told l m now)) (List.length l) x2)) (0 + Int.toNat (x2 : Int) * 1) [.int .i64 1]) : KObj) = some (.cells true 1 (List.flatMap intC (guiltTo (blamedL (told l m now)) (List.length l) x2')) : KObj) ∧ belowO 6 (.cells true 1 (List.flatMap intC (guiltTo (blamedL (told l m now)) (List.length l) x2')) : KObj) = true) ∧ True) ∧ (True) ∧ (True))))))))))))) ∧ ((decide ((x2 : Int) < (((List.length l) : Nat) : Int))) = false → (true = true ∧ wk (.tuple #[.slice (some ⟨5, 0, none⟩) (List.length l) (List.length l), .int .i64 0] : Value) (rn (sg 1 [(1, 5)]) 3 (.tuple #[.slice (some ⟨1, 0, some 2⟩) (List.length (fGuilt l m now).1) (List.length (fGuilt l m now).1), .int .i64 (fGuilt l m now).2] : Value)) ∧ ((some (.cells true 1 (List.flatMap intC (guiltTo (blamedL (told l m now)) (List.length l) x2)) : KObj) = some (.cells true 1 (List.flatMap intC (fGuilt l m now).1) : KObj) ∧ belowO 1 (.cells true 1 (List.flatMap intC (fGuilt l m now).1) : KObj) = true) ∧ True))))))))) ∧ ((¬ (errOpen l m now = 0)) → (((some (.cells false 0 (List.flatMap reportC l) : KObj) = some (.cells false 0 (List.flatMap reportC l) : KObj)) ∧ True) ∧ (∀ H' : Heap, H'.length = 2 → (H'[0]? = some (.cells false 0 (List.flatMap reportC l) : KObj) ∧ True) → KCall prog 79 [.slice (some ⟨0, 0, some 2⟩) (List.length l) (List.length l), (ratesV m), .int .i64 now] H' [] (Is (.tuple #[.pointer none, .int .i64 (errOpen l m now)]) H')) ∧ ((.bool (((errOpen l m now) : Int) != 0) : Value) = .bool true ∧ (true = true ∧ wk (.tuple #[.slice none 0 0, .int .i64 (errOpen l m now)] : Value) (rn (sg 1 []) 3 (.tuple #[.slice (some ⟨1, 0, some 2⟩) (List.length (fGuilt l m now).1) (List.length (fGuilt l m now).1), .int .i64 (fGuilt l m now).2] : Value)) ∧ (True ∧ True))))))
theorem EGuilt (l : List Report) (m : Rates) (now : Int) : vF prog msk (dm 0) 100000 true 40 true 24 [.slice (some ⟨0, 0, some 2⟩) (List.length l) (List.length l), (ratesV m), .int .i64 now] (readsT 0 [l.flatMap reportC]) (some [])
  (.go 5 (.cas (errOpen l m now = 0) (.ans [(0, .cells false 0 (List.flatMap reportC l))] (.tuple #[.pointer (some ⟨2, 0, none⟩), .int .i64 0]) [.cells true 0 [.int .i64 m.up.conc, .int .i64 m.up.thick, .int .i64 m.up.ridge, .int .i64 m.up.press, .int .i64 m.down.conc, .int .i64 m.down.thick, .int .i64 m.down.ridge, .int .i64 m.down.press, .slice (some ⟨3, 0, some 1⟩) (List.length (told l m now)) (List.length (told l m now))], .cells true 8 (List.flatMap cellC (told l m now))] (.go 8 (.ans [(2, .cells true 0 [.int .i64 m.up.conc, .int .i64 m.up.thick, .int .i64 m.up.ridge, .int .i64 m.up.press, .int .i64 m.down.conc, .int .i64 m.down.thick, .int .i64 m.down.ridge, .int .i64 m.down.press, .slice (some ⟨3, 0, some 1⟩) (List.length (told l m now)) (List.length (told l m now))]), (3, .cells true 8 (List.flatMap cellC (told l m now)))] (.slice (some ⟨4, 0, some 1⟩) (List.length (blamedL (told l m now))) (List.length (blamedL (told l m now)))) [.cells true 1 (dIL (blamedL (told l m now)))] (.go 2 (.need (.go 3 (.inv 3 (Nat) (0) [] [5] (fun x2 => [(33, .int .i64 (x2 : Int)), (6, .slice none 0 0), (7, .int .i64 0), (10, .slice (some ⟨4, 0, some 1⟩) (List.length (blamedL (told l m now))) (List.length (blamedL (told l m now)))), (11, .slice (some ⟨5, 0, none⟩) (List.length l) (List.length l)), (32, .int .i64 (((List.length l) : Nat) : Int))]) (fun x2 => [(5, true, .cells true 1 (List.flatMap intC (guiltTo (blamedL (told l m now)) (List.length l) x2)))]) (fun x2 => []) (fun x2 => []) (fun x2 => (x2 ≤ List.length l)) (fun x2 => (List.length l - x2)) (fun x2 => .go 0 (.fork (.go 5 (.inv 3 (Nat) (0) [] [] (fun x3 => [(38, .int .i64 (x3 : Int)), (13, .int .i64 (((inCnt (blamedL (told l m now)) (x2 : Int) x3) : Nat) : Int)), (32, .int .i64 (((List.length l) : Nat) : Int)), (11, .slice (some ⟨5, 0, none⟩) (List.length l) (List.length l)), (10, .slice (some ⟨4, 0, some 1⟩) (List.length (blamedL (told l m now))) (List.length (blamedL (told l m now)))), (7, .int .i64 0), (6, .slice none 0 0), (33, .int .i64 (x2 : Int)), (12, .int .i64 (x2 : Int)), (36, .slice (some ⟨4, 0, some 1⟩) (List.length (blamedL (told l m now))) (List.length (blamedL (told l m now)))), (37, .int .i64 (((List.length (blamedL (told l m now))) : Nat) : Int))]) (fun x3 => []) (fun x3 => []) (fun x3 => []) (fun x3 => (x3 ≤ List.length (blamedL (told l m now)))) (fun x3 => (List.length (blamedL (told l m now)) - x3)) (fun x3 => .go 0 (.fork (.need (.val (.iface ((List.length (List.getD (blamedL (told l m now)) x3 [])) + 1) (.agg ⟨(List.flatMap intC (List.getD (blamedL (told l m now)) x3 []))⟩)) (.go 2 (.bind (Bool) (fun r4 => .ans [] (.bool r4) [] (.fork (.go 1 (.slot 46 (.int .i64 ((((inCnt (blamedL (told l m now)) (x2 : Int) x3) : Nat) : Int) + 1)) (.go 1 (.slot 47 (.int .i64 ((x3 : Int) + 1)) (.go 0 (.again [])))))) (.go 0 (.slot 47 (.int .i64 ((x3 : Int) + 1)) (.go 0 (.again [])))))))))) (.go 2 (.fork (.go 0 (.slot 61 (.int .i64 ((x2 : Int) + 1)) (.go 0 (.again [])))) (.go 3 (.fork (.go 1 (.need (.need (.go 0 (.slot 61 (.int .i64 ((x2 : Int) + 1)) (.go 0 (.again []))))))) (.go 1 (.need (.need (.go 0 (.slot 61 (.int .i64 ((x2 : Int) + 1)) (.go 0 (.again []))))))))))))))) (.go 2 (.again [(1, 5)]))))))))))) (.ans [(0, .cells false 0 (List.flatMap reportC l))] (.tuple #[.pointer none, .int .i64 (errOpen l m now)]) [] (.go 6 (.slot 24 (.bool true) (.go 3 (.again [])))))))
  (newK ((readsT 0 [l.flatMap reportC]) : HT).n 3 (.tuple #[.slice (some ⟨1, 0, some 2⟩) (List.length (fGuilt l m now).1) (List.length (fGuilt l m now).1), .int .i64 (fGuilt l m now).2]) [(true, .cells true 1 (List.flatMap intC (fGuilt l m now).1))]) = RGuilt l m now := by kernel_rfl
end
end Go.Proofs.YthcjliffpebjaaaGreat
/- Ice: blamed sets. No condition. -/
namespace Go.Proofs.YthcjliffpebjaaaGreat
open Go Go.K
set_option maxRecDepth 100000
set_option linter.unusedVariables false
set_option linter.unusedSimpArgs false
noncomputable section
attribute [local irreducible] vF popc
theorem plainDL (n : Nat) (L : List (List Int)) : (dIL L).all (belowC n) = true := by
  unfold dIL
  rw [List.all_map, List.all_eq_true]
  intro l _
  exact belowC_mono (dI_below l)
theorem srtL_len (L : List (List Int)) : (srtL L).length = L.length := List.length_mergeSort _
theorem dIL_len (L : List (List Int)) : (dIL L).length = L.length := List.length_map ..
theorem dIL_snoc (L : List (List Int)) (l : List Int) : dIL (L ++ [l]) = dIL L ++ [dI l] := List.map_append ..
theorem outTo_len (n s x : Nat) : (outTo n s x).length ≤ x := by
  induction x with
  | zero => exact Nat.le_refl _
  | succ x ih =>
    unfold outTo
    split
    · omega
    · rw [List.length_append]; simp; omega
theorem blL_len (ts : List Cell) (x : Nat) : (blL ts x).length = x := tabP_len ..
theorem blL_succ (ts : List Cell) (x : Nat) : blL ts (x + 1) = blL ts x ++ [outTo ts.length ((agrA ts).getD x 0) ts.length] := tabP_succ ..
theorem outTo_a {n s x : Nat} (h : inSet n s x = true) : outTo n s (x + 1) = outTo n s x := if_pos h
theorem outTo_b {n s x : Nat} (h : ¬ inSet n s x = true) : outTo n s (x + 1) = outTo n s x ++ [((x : Nat) : Int)] := if_neg h
theorem agrA_lt (ts : List Cell) (x : Nat) : (agrA ts).getD x 0 < 2 ^ ts.length := by
  rw [List.getD_eq_getElem?_getD]
  cases h : (agrA ts)[x]? with
  | none => exact Nat.two_pow_pos _
  | some s => exact ((agr_inv ts _ (Nat.le_refl _)).2 s (List.mem_of_getElem? h)).1
theorem natAt {l : List Nat} {x : Nat} (h : x < l.length) : (l.flatMap natC)[0 + Int.toNat ((x : Nat) : Int) * 1]? = some (.int .i64 (((l.getD x 0 : Nat)) : Int)) :=
  cell_at (n := 1) (f := natC) (d := 0) (c := 0) (k := x) (fun _ => rfl) h (by rw [Int.toNat_natCast]; omega) rfl
theorem kblamed (m : Rates) {ts : List Cell} (hn : ts.length ≤ 12) {H : Heap} {L : Nat} (hL : H.length = L) {w j : Nat} {own own2 : Bool} {z z2 : Nat} (h1 : H[w]? = some (.cells own z (workC m j ts.length))) (h2 : H[j]? = some (.cells own2 z2 (ts.flatMap cellC))) :
    KCall prog F.ice_work_blamed [.pointer (some ⟨w, 0, none⟩)] H [] (Is (.slice (some ⟨L, 0, some 1⟩) (blamedL ts).length (blamedL ts).length) (H ++ [.cells true 1 (dIL (blamedL ts))])) := by
  subst hL
  have key := fun hc => valNA (css := [workC m 1 ts.length, ts.flatMap cellC]) (v := .slice (some ⟨2, 0, some 1⟩) (blamedL ts).length (blamedL ts).length) (new := [(true, .cells true 1 (dIL (blamedL ts)))]) (Eq.mpr (Eblamed m ts) hc) rfl (by simp [rn, sgOnly])
    (by show ((rnoOk 3 (.cells true 1 (dIL (blamedL ts))) && true) && true) = true
        rw [Bool.and_true, Bool.and_true]; exact (rnCl (σ := fun _ => none) (d := 0) (plainDL 0 _)).2)
    (congrArg (fun q => [KObj.cells true 1 q]) (rnCl (d := 0) (plainDL 0 _)).1) (H := H) [w, j] rfl (work_ids h1 h2)
  have e1 : rn (sgUp (0 + [workC m 1 ts.length, ts.flatMap cellC].length) H.length) 3 (.slice (some ⟨2, 0, some 1⟩) (blamedL ts).length (blamedL ts).length) = .slice (some ⟨H.length, 0, some 1⟩) (blamedL ts).length (blamedL ts).length := by simp [rn, sgUp]
  have e2 : (List.map (fun x : Bool × KObj => x.2) [(true, KObj.cells true 1 (dIL (blamedL ts)))]).map (rno (sgUp (0 + [workC m 1 ts.length, ts.flatMap cellC].length) H.length) 3) = [.cells true 1 (dIL (blamedL ts))] :=
    congrArg (fun q => [KObj.cells true 1 q]) (rnCl (d := 0) (plainDL 0 _)).1
  rw [e1, e2] at key
  refine key ?_
  clear key e1 e2
  unfold Rblamed
  have hne := agrA_ne ts
  have hne1 : 0 < (agrA ts).length := List.length_pos_iff.2 hne
  have hp := pow12 hn
  have hag : (agrA ts).length ≤ 4096 := Nat.le_trans (agr_len ts _) hp.2
  have hset : ∀ x, (agrA ts).getD x 0 < 4096 := fun x => by have := agrA_lt ts x; omega
  refine ⟨⟨rfl, rfl, trivial⟩, fun H' hl hd => kagreeing m hn hl hd.1 hd.2.1, rfl, Nat.zero_le _, ?_, fun _ => rfl, ?_⟩
  · repeat' first | exact trivial | exact rfl | exact wk_refl _ | refine wkO_cells ?_ | refine wks_cons ?_ ?_ | exact wks_nil | exact wk_nil _ _ _ (.inl rfl) | (exact wk_Q (by omega)) | refine wk_tupL ?_ | refine wk_aggL ?_ | refine joinMax ?_ ?_ ?_ | refine joinMin ?_ ?_ ?_ | refine toMax ?_ | refine toMin ?_ | refine ⟨rfl, ?_⟩ | refine ⟨trivial, ?_⟩ | (refine forkD (fun h => ?_) (fun h => ?_)) | (refine forkNe (fun h => ?_) (fun h => ?_)) | (refine forkEq (fun h => ?_) (fun h => ?_)) | refine forkNot ?_ | (refine ⟨vI64 (by omega), ?_⟩) | (refine And.intro (by omega) ?_) | apply And.intro | (exact iEq (by omega)) | (exact vI64 (by omega))
  intro x hx
  refine forkD (fun h => ?_) (fun h => ?_)
  · have hlt : x < (agrA ts).length := by omega
    refine ⟨by omega, natAt hlt, rfl, Nat.zero_le _, ?_, fun _ => rfl, ?_⟩
    · repeat' first | exact trivial | exact rfl | exact wk_refl _ | refine wkO_cells ?_ | refine wks_cons ?_ ?_ | exact wks_nil | exact wk_nil _ _ _ (.inl rfl) | (exact wk_Q (by omega)) | refine wk_tupL ?_ | refine wk_aggL ?_ | refine joinMax ?_ ?_ ?_ | refine joinMin ?_ ?_ ?_ | refine toMax ?_ | refine toMin ?_ | refine ⟨rfl, ?_⟩ | refine ⟨trivial, ?_⟩ | (refine forkD (fun h => ?_) (fun h => ?_)) | (refine forkNe (fun h => ?_) (fun h => ?_)) | (refine forkEq (fun h => ?_) (fun h => ?_)) | refine forkNot ?_ | (refine ⟨vI64 (by omega), ?_⟩) | (refine And.intro (by omega) ?_) | apply And.intro | (exact iEq (by omega)) | (exact vI64 (by omega))
    intro y hy
    refine forkD (fun h2 => ?_) (fun h2 => ?_)
    · have hb := andBit (n := (agrA ts).getD x 0) (k := ts.length - 1 - y) (by have := hset x; omega) (by omega)
      have hpk := pow12 (k := ts.length - 1 - y) (by omega)
      have hol := outTo_len ts.length ((agrA ts).getD x 0) y
      refine ⟨_, ⟨rfl, rfl, trivial⟩, fun H' _ hd => kbit m y hn (by omega) hd.1 hd.2.1, _, iEq hb, forkEq (fun h3 => ?_) (fun h3 => ?_)⟩
      · have hin : ¬ inSet ts.length ((agrA ts).getD x 0) y = true := by
          intro hq
          rw [if_pos (show ((agrA ts).getD x 0).testBit (ts.length - 1 - y) = true from hq)] at h3
          omega
        have hl1 := outTo_b hin
        have hl2 : (outTo ts.length ((agrA ts).getD x 0) (y + 1)).length = (outTo ts.length ((agrA ts).getD x 0) y).length + 1 := by rw [hl1, List.length_append]; rfl
        refine ⟨⟨by omega, by decide, ⟨Nat.le_refl _, by rw [flat_len intC_len]; omega⟩, ⟨by decide, Nat.le_refl _⟩, rfl⟩, rfl, vI64 (by omega), y + 1, by omega, by omega, ?_⟩
        rw [hl2]
        repeat' first | exact plainZ _ _ | (exact congrArg (fun l => some (KObj.cells true 1 l)) (by rw [hl1]; exact flat_snoc intC_len _ ((y : Nat) : Int) rfl)) | exact trivial | exact rfl | exact wk_refl _ | refine wkO_cells ?_ | refine wks_cons ?_ ?_ | exact wks_nil | exact wk_nil _ _ _ (.inl rfl) | (exact wk_Q (by omega)) | refine wk_tupL ?_ | refine wk_aggL ?_ | refine joinMax ?_ ?_ ?_ | refine joinMin ?_ ?_ ?_ | refine toMax ?_ | refine toMin ?_ | refine ⟨rfl, ?_⟩ | refine ⟨trivial, ?_⟩ | (refine forkD (fun h => ?_) (fun h => ?_)) | (refine forkNe (fun h => ?_) (fun h => ?_)) | (refine forkEq (fun h => ?_) (fun h => ?_)) | refine forkNot ?_ | (refine ⟨vI64 (by omega), ?_⟩) | (refine And.intro (by omega) ?_) | apply And.intro | (exact iEq (by omega)) | (exact vI64 (by omega))
      · have hin : inSet ts.length ((agrA ts).getD x 0) y = true := by
          cases hq : inSet ts.length ((agrA ts).getD x 0) y with
          | true => rfl
          | false =>
            rw [if_neg (show ¬ ((agrA ts).getD x 0).testBit (ts.length - 1 - y) = true from by rw [show ((agrA ts).getD x 0).testBit (ts.length - 1 - y) = false from hq]; decide)] at h3
            exact absurd rfl h3
        have hl1 := outTo_a hin
        refine ⟨vI64 (by omega), y + 1, by omega, by omega, ?_⟩
        rw [hl1]
        repeat' first | exact plainZ _ _ | exact trivial | exact rfl | exact wk_refl _ | refine wkO_cells ?_ | refine wks_cons ?_ ?_ | exact wks_nil | exact wk_nil _ _ _ (.inl rfl) | (exact wk_Q (by omega)) | refine wk_tupL ?_ | refine wk_aggL ?_ | refine joinMax ?_ ?_ ?_ | refine joinMin ?_ ?_ ?_ | refine toMax ?_ | refine toMin ?_ | refine ⟨rfl, ?_⟩ | refine ⟨trivial, ?_⟩ | (refine forkD (fun h => ?_) (fun h => ?_)) | (refine forkNe (fun h => ?_) (fun h => ?_)) | (refine forkEq (fun h => ?_) (fun h => ?_)) | refine forkNot ?_ | (refine ⟨vI64 (by omega), ?_⟩) | (refine And.intro (by omega) ?_) | apply And.intro | (exact iEq (by omega)) | (exact vI64 (by omega))
    · obtain rfl : y = ts.length := by omega
      have hd1 := dIL_len (blL ts x)
      have hd2 := blL_len ts x
      have hs : List.take (x * 1) (List.drop 0 (dIL (blL ts x))) ++ [dI (outTo ts.length ((agrA ts).getD x 0) ts.length)] = dIL (blL ts (x + 1)) := by
        rw [blL_succ, dIL_snoc, List.drop_zero, List.take_of_length_le (by omega)]
      refine ⟨⟨by omega, by decide, ⟨Nat.le_refl _, by omega⟩, ⟨by decide, Nat.le_refl _⟩, rfl⟩, rfl, vI64 (by omega), x + 1, by omega, by omega, ?_⟩
      repeat' first | exact plainDL _ _ | (exact congrArg (fun l => some (KObj.cells true 1 l)) hs) | exact trivial | exact rfl | exact wk_refl _ | refine wkO_cells ?_ | refine wks_cons ?_ ?_ | exact wks_nil | exact wk_nil _ _ _ (.inl rfl) | (exact wk_Q (by omega)) | refine wk_tupL ?_ | refine wk_aggL ?_ | refine joinMax ?_ ?_ ?_ | refine joinMin ?_ ?_ ?_ | refine toMax ?_ | refine toMin ?_ | refine ⟨rfl, ?_⟩ | refine ⟨trivial, ?_⟩ | (refine forkD (fun h => ?_) (fun h => ?_)) | (refine forkNe (fun h => ?_) (fun h => ?_)) | (refine forkEq (fun h => ?_) (fun h => ?_)) | refine forkNot ?_ | (refine ⟨vI64 (by omega), ?_⟩) | (refine And.intro (by omega) ?_) | apply And.intro | (exact iEq (by omega)) | (exact vI64 (by omega))
  · obtain rfl : x = (agrA ts).length := by omega
    have hd2 := blL_len ts (agrA ts).length
    have hsl := srtL_len (blL ts (agrA ts).length)
    refine ⟨⟨rfl, trivial⟩, fun H' _ hd => ?_, ?_⟩
    · have := kSort (L := blL ts (agrA ts).length) (by omega) (by omega) (fun l hl => ?_) (tag := some 1) (.inr rfl) hd.1
      · rw [hd2] at this; exact this
      · obtain ⟨i, _, rfl⟩ := List.mem_map.1 hl
        have := outTo_len ts.length ((agrA ts).getD i 0) ts.length
        omega
    · refine ⟨rfl, ?_, ⟨rfl, plainDL _ _⟩, trivial⟩
      rw [show (blamedL ts).length = (agrA ts).length from hsl.trans hd2]
      exact wk_refl _
theorem fBlame_0 {l : List Report} {m : Rates} {now : Int} (h : ¬ errOpen l m now = 0) : fBlame l m now = ([], errOpen l m now) := if_neg h
theorem fBlame_1 {l : List Report} {m : Rates} {now : Int} (h : errOpen l m now = 0) : fBlame l m now = (blamedL (told l m now), 0) := if_pos h
theorem fGuilt_0 {l : List Report} {m : Rates} {now : Int} (h : ¬ errOpen l m now = 0) : fGuilt l m now = ([], errOpen l m now) := if_neg h
theorem fGuilt_1 {l : List Report} {m : Rates} {now : Int} (h : errOpen l m now = 0) : fGuilt l m now = (guiltTo (blamedL (told l m now)) l.length l.length, 0) := if_pos h
theorem kBlame (l : List Report) (m : Rates) (now : Int) {H : Heap} {L : Nat} (hL : H.length = L) {id : Nat} {own : Bool} {z : Nat} (hid : H[id]? = some (.cells own z (l.flatMap reportC))) :
    KCall prog F.ice_Blame [.slice (some ⟨id, 0, some 2⟩) l.length l.length, ratesV m, .int .i64 now] H []
      (Is (.tuple #[.slice (some ⟨L, 0, some 1⟩) (fBlame l m now).1.length (fBlame l m now).1.length, .int .i64 (fBlame l m now).2]) (H ++ [.cells true 1 (dIL (fBlame l m now).1)])) := by
  subst hL
  have key := fun hc => valN (css := [l.flatMap reportC]) (v := .tuple #[.slice (some ⟨1, 0, some 1⟩) (fBlame l m now).1.length (fBlame l m now).1.length, .int .i64 (fBlame l m now).2]) (new := [(true, .cells true 1 (dIL (fBlame l m now).1))]) (Eq.mpr (EBlame l m now) hc) (one_cs (plainR 0 l)) rfl (by simp [rn, sgOnly])
    (by show ((rnoOk 3 (.cells true 1 (dIL (fBlame l m now).1)) && true) && true) = true
        rw [Bool.and_true, Bool.and_true]; exact (rnCl (σ := fun _ => none) (d := 0) (plainDL 0 _)).2)
    (congrArg (fun q => [KObj.cells true 1 q]) (rnCl (d := 0) (plainDL 0 _)).1) (H := H) [id] rfl (one_id hid)
  have e1 : rn (sgUp (0 + [l.flatMap reportC].length) H.length) 3 (.tuple #[.slice (some ⟨1, 0, some 1⟩) (fBlame l m now).1.length (fBlame l m now).1.length, .int .i64 (fBlame l m now).2]) = .tuple #[.slice (some ⟨H.length, 0, some 1⟩) (fBlame l m now).1.length (fBlame l m now).1.length, .int .i64 (fBlame l m now).2] := by simp [rn, sgUp]
  have e2 : (List.map (fun x : Bool × KObj => x.2) [(true, KObj.cells true 1 (dIL (fBlame l m now).1))]).map (rno (sgUp (0 + [l.flatMap reportC].length) H.length) 3) = [.cells true 1 (dIL (fBlame l m now).1)] :=
    congrArg (fun q => [KObj.cells true 1 q]) (rnCl (d := 0) (plainDL 0 _)).1
  rw [e1, e2] at key
  refine key ?_
  clear key e1 e2
  unfold RBlame
  refine ⟨fun he => ?_, fun he => ?_⟩
  · have hn2 : (told l m now).length ≤ 12 := by rw [told_len]; exact errOpen_len he
    rw [fBlame_1 he]
    repeat' first | (refine ⟨⟨rfl, trivial⟩, fun H' hl hd => kopen1 l m now he hl hd.1, ?_⟩) | (refine ⟨⟨rfl, rfl, trivial⟩, fun H' hl hd => kblamed m hn2 hl hd.1 hd.2.1, ?_⟩) | exact plainDL _ _ | exact trivial | exact rfl | exact wk_refl _ | refine wkO_cells ?_ | refine wks_cons ?_ ?_ | exact wks_nil | exact wk_nil _ _ _ (.inl rfl) | (exact wk_Q (by omega)) | refine wk_tupL ?_ | refine wk_aggL ?_ | refine joinMax ?_ ?_ ?_ | refine joinMin ?_ ?_ ?_ | refine toMax ?_ | refine toMin ?_ | refine ⟨rfl, ?_⟩ | refine ⟨trivial, ?_⟩ | (refine forkD (fun h => ?_) (fun h => ?_)) | (refine forkNe (fun h => ?_) (fun h => ?_)) | (refine forkEq (fun h => ?_) (fun h => ?_)) | refine forkNot ?_ | (refine ⟨vI64 (by omega), ?_⟩) | (refine And.intro (by omega) ?_) | apply And.intro | (exact iEq (by omega)) | (exact vI64 (by omega))
  · rw [fBlame_0 he]
    repeat' first | (refine ⟨⟨rfl, trivial⟩, fun H' _ hd => kopen0 l m now he hd.1, ?_⟩) | refine ⟨vbT (bne_iff_ne.2 he), ?_⟩ | exact trivial | exact rfl | exact wk_refl _ | refine wkO_cells ?_ | refine wks_cons ?_ ?_ | exact wks_nil | exact wk_nil _ _ _ (.inl rfl) | (exact wk_Q (by omega)) | refine wk_tupL ?_ | refine wk_aggL ?_ | refine joinMax ?_ ?_ ?_ | refine joinMin ?_ ?_ ?_ | refine toMax ?_ | refine toMin ?_ | refine ⟨rfl, ?_⟩ | refine ⟨trivial, ?_⟩ | (refine forkD (fun h => ?_) (fun h => ?_)) | (refine forkNe (fun h => ?_) (fun h => ?_)) | (refine forkEq (fun h => ?_) (fun h => ?_)) | refine forkNot ?_ | (refine ⟨vI64 (by omega), ?_⟩) | (refine And.intro (by omega) ?_) | apply And.intro | (exact iEq (by omega)) | (exact vI64 (by omega))
theorem inCnt_le (L : List (List Int)) (i : Int) (y : Nat) : inCnt L i y ≤ y := by
  unfold inCnt
  exact Nat.le_trans List.countP_le_length (by rw [List.length_take]; omega)
theorem inCnt_succ {L : List (List Int)} {i : Int} {y : Nat} (hy : y < L.length) : inCnt L i (y + 1) = inCnt L i y + if i ∈ L.getD y [] then 1 else 0 := by
  unfold inCnt
  rw [List.take_add_one, List.getElem?_eq_getElem hy, List.countP_append, List.getD_eq_getElem?_getD, List.getElem?_eq_getElem hy]
  by_cases h : i ∈ L[y]
  · simp [h]
  · simp [h]
theorem dIL_at {L : List (List Int)} {y : Nat} (hy : y < L.length) : (dIL L)[0 + Int.toNat ((y : Nat) : Int) * 1]? = some (dI (L.getD y [])) := by
  unfold dIL
  rw [Int.toNat_natCast, show 0 + y * 1 = y by omega, List.getElem?_map, List.getElem?_eq_getElem hy, List.getD_eq_getElem?_getD, List.getElem?_eq_getElem hy]; rfl
theorem guiltTo_len (L : List (List Int)) (n x : Nat) : (guiltTo L n x).length = n := tabP_len ..
theorem guiltTo_0 (L : List (List Int)) (n : Nat) : (guiltTo L n 0).flatMap intC = krep [.int .i64 0] n := by
  induction n with
  | zero => rfl
  | succ n ih =>
    unfold guiltTo at ih ⊢
    rw [tabP_succ, List.flatMap_append, ih]
    have : ∀ k, krep [Value.int .i64 0] k ++ [.int .i64 0] = .int .i64 0 :: krep [.int .i64 0] k := by
      intro k
      induction k with
      | zero => rfl
      | succ k ih => show .int .i64 0 :: (krep _ k ++ _) = _; rw [ih]; rfl
    exact this n
theorem intC_set {xs : List Int} {k : Nat} {v : Int} (h : k < xs.length) : setl (xs.flatMap intC) k [.int .i64 v] = (xs.set k v).flatMap intC := by
  show (xs.flatMap intC).set k (.int .i64 v) = _
  have e : ∀ ys : List Int, ys.flatMap intC = ys.map (fun y => Value.int .i64 y) := fun ys => by
    induction ys with
    | nil => rfl
    | cons y ys ih => rw [List.flatMap_cons, ih]; rfl
  rw [e, e, List.map_set]
theorem guiltTo_succ {L : List (List Int)} {n x : Nat} (h : x < n) : guiltTo L n (x + 1) = (guiltTo L n x).set x (guiltOf L x) := by
  refine List.ext_getElem? fun i => ?_
  unfold guiltTo tabP
  rw [List.getElem?_set]
  simp only [List.getElem?_map, List.length_map, List.length_range]
  by_cases hi : i < n
  · rw [List.getElem?_range hi]
    by_cases e : x = i
    · subst e; simp [h]
    · simp only [Option.map_some, if_neg e]
      congr 1
      by_cases h1 : i < x
      · rw [if_pos (by omega), if_pos h1]
      · rw [if_neg (by omega), if_neg h1]
  · rw [List.getElem?_eq_none (by simpa using hi)]
    by_cases e : x = i
    · omega
    · simp [if_neg e]
theorem guiltTo_same {L : List (List Int)} {n x : Nat} (h : guiltOf L x = 0) : guiltTo L n (x + 1) = guiltTo L n x := by
  unfold guiltTo tabP
  refine List.map_congr_left fun i _ => ?_
  by_cases h1 : i < x
  · rw [if_pos (by omega), if_pos h1]
  · by_cases h2 : i = x
    · subst h2; rw [if_pos (by omega), if_neg h1, h]
    · rw [if_neg (by omega), if_neg h1]
theorem blamedL_len (ts : List Cell) : (blamedL ts).length = (agrA ts).length := (srtL_len _).trans (blL_len ts _)
theorem mem_blamedL {ts : List Cell} {l : List Int} (h : l ∈ blamedL ts) : ∃ s ∈ agrA ts, l = outTo ts.length s ts.length := by
  unfold blamedL srtL at h
  rw [List.mem_mergeSort] at h
  obtain ⟨i, hi, rfl⟩ := List.mem_map.1 h
  rw [List.mem_range] at hi
  exact ⟨_, (by rw [List.getD_eq_getElem?_getD, List.getElem?_eq_getElem hi]; exact List.getElem_mem hi), rfl⟩
theorem kGuilt (l : List Report) (m : Rates) (now : Int) {H : Heap} {L : Nat} (hL : H.length = L) {id : Nat} {own : Bool} {z : Nat} (hid : H[id]? = some (.cells own z (l.flatMap reportC))) :
    KCall prog F.ice_Guilt [.slice (some ⟨id, 0, some 2⟩) l.length l.length, ratesV m, .int .i64 now] H []
      (Is (.tuple #[.slice (some ⟨L, 0, some 2⟩) (fGuilt l m now).1.length (fGuilt l m now).1.length, .int .i64 (fGuilt l m now).2]) (H ++ [.cells true 1 ((fGuilt l m now).1.flatMap intC)])) := by
  subst hL
  have key := fun hc => valN (css := [l.flatMap reportC]) (v := .tuple #[.slice (some ⟨1, 0, some 2⟩) (fGuilt l m now).1.length (fGuilt l m now).1.length, .int .i64 (fGuilt l m now).2]) (new := [(true, .cells true 1 ((fGuilt l m now).1.flatMap intC))]) (Eq.mpr (EGuilt l m now) hc) (one_cs (plainR 0 l)) rfl (by simp [rn, sgOnly])
    (by show ((rnoOk 3 (.cells true 1 ((fGuilt l m now).1.flatMap intC)) && true) && true) = true
        rw [Bool.and_true, Bool.and_true]; exact (rnCl (σ := fun _ => none) (d := 0) (plainZ 0 _)).2)
    (congrArg (fun q => [KObj.cells true 1 q]) (rnCl (d := 0) (plainZ 0 _)).1) (H := H) [id] rfl (one_id hid)
  have e1 : rn (sgUp (0 + [l.flatMap reportC].length) H.length) 3 (.tuple #[.slice (some ⟨1, 0, some 2⟩) (fGuilt l m now).1.length (fGuilt l m now).1.length, .int .i64 (fGuilt l m now).2]) = .tuple #[.slice (some ⟨H.length, 0, some 2⟩) (fGuilt l m now).1.length (fGuilt l m now).1.length, .int .i64 (fGuilt l m now).2] := by simp [rn, sgUp]
  have e2 : (List.map (fun x : Bool × KObj => x.2) [(true, KObj.cells true 1 ((fGuilt l m now).1.flatMap intC))]).map (rno (sgUp (0 + [l.flatMap reportC].length) H.length) 3) = [.cells true 1 ((fGuilt l m now).1.flatMap intC)] :=
    congrArg (fun q => [KObj.cells true 1 q]) (rnCl (d := 0) (plainZ 0 _)).1
  rw [e1, e2] at key
  refine key ?_
  clear key e1 e2
  unfold RGuilt
  refine ⟨fun he => ?_, fun he => ?_⟩
  · have hn := errOpen_len he
    have hn2 : (told l m now).length ≤ 12 := by rw [told_len]; exact hn
    obtain ⟨B, hB⟩ : ∃ B, blamedL (told l m now) = B := ⟨_, rfl⟩
    have hBl : B.length ≤ 4096 := by rw [← hB, blamedL_len]; exact Nat.le_trans (agr_len _ _) (pow12 hn2).2
    have hBe : ∀ s ∈ B, s.length ≤ 12 := by
      rw [← hB]; intro s hs
      obtain ⟨x, _, rfl⟩ := mem_blamedL hs
      exact Nat.le_trans (outTo_len ..) hn2
    refine ⟨⟨rfl, trivial⟩, fun H' hl hd => kopen1 l m now he hl hd.1, ⟨rfl, rfl, trivial⟩, fun H' hl hd => kblamed m hn2 hl hd.1 hd.2.1, ?_⟩
    rw [hB]
    have hf : fGuilt l m now = (guiltTo B l.length l.length, 0) := by rw [fGuilt_1 he, hB]
    rw [hf]
    refine ⟨⟨by omega, by omega, by omega, by omega⟩, rfl, Nat.zero_le _, ?_, fun _ => rfl, ?_⟩
    · repeat' first | exact plainZ _ _ | (exact congrArg (fun l => some (KObj.cells true 1 l)) (guiltTo_0 B _).symm) | exact trivial | exact rfl | exact wk_refl _ | refine wkO_cells ?_ | refine wks_cons ?_ ?_ | exact wks_nil | exact wk_nil _ _ _ (.inl rfl) | (exact wk_Q (by omega)) | refine wk_tupL ?_ | refine wk_aggL ?_ | refine joinMax ?_ ?_ ?_ | refine joinMin ?_ ?_ ?_ | refine toMax ?_ | refine toMin ?_ | refine ⟨rfl, ?_⟩ | refine ⟨trivial, ?_⟩ | (refine forkD (fun h => ?_) (fun h => ?_)) | (refine forkNe (fun h => ?_) (fun h => ?_)) | (refine forkEq (fun h => ?_) (fun h => ?_)) | refine forkNot ?_ | (refine ⟨vI64 (by omega), ?_⟩) | (refine And.intro (by omega) ?_) | apply And.intro | (exact iEq (by omega)) | (exact vI64 (by omega))
    intro x hx
    have hgl := guiltTo_len B l.length x
    refine forkD (fun h => ?_) (fun h => ?_)
    · have hlt : x < l.length := by omega
      refine ⟨rfl, Nat.zero_le _, ?_, fun _ => rfl, ?_⟩
      · repeat' first | exact trivial | exact rfl | exact wk_refl _ | refine wkO_cells ?_ | refine wks_cons ?_ ?_ | exact wks_nil | exact wk_nil _ _ _ (.inl rfl) | (exact wk_Q (by omega)) | refine wk_tupL ?_ | refine wk_aggL ?_ | refine joinMax ?_ ?_ ?_ | refine joinMin ?_ ?_ ?_ | refine toMax ?_ | refine toMin ?_ | refine ⟨rfl, ?_⟩ | refine ⟨trivial, ?_⟩ | (refine forkD (fun h => ?_) (fun h => ?_)) | (refine forkNe (fun h => ?_) (fun h => ?_)) | (refine forkEq (fun h => ?_) (fun h => ?_)) | refine forkNot ?_ | (refine ⟨vI64 (by omega), ?_⟩) | (refine And.intro (by omega) ?_) | apply And.intro | (exact iEq (by omega)) | (exact vI64 (by omega))
      intro y hy
      have hic := inCnt_le B ((x : Nat) : Int) y
      refine forkD (fun h2 => ?_) (fun h2 => ?_)
      · have hlt2 : y < B.length := by omega
        have hsu := inCnt_succ (i := ((x : Nat) : Int)) hlt2
        have hle : (B.getD y []).length ≤ 4294967296 := by
          rw [List.getD_eq_getElem?_getD, List.getElem?_eq_getElem hlt2]
          have := hBe _ (List.getElem_mem hlt2)
          show (B[y]).length ≤ _
          omega
        refine ⟨by omega, dIL_at hlt2, _, trivial, fun H' _ _ => kContains _ _ hle H', forkD (fun h3 => ?_) (fun h3 => ?_)⟩
        · rw [if_pos h3] at hsu
          refine ⟨vI64 (by omega), vI64 (by omega), y + 1, by omega, by omega, ?_⟩
          rw [hsu]
          repeat' first | exact trivial | exact rfl | exact wk_refl _ | refine wkO_cells ?_ | refine wks_cons ?_ ?_ | exact wks_nil | exact wk_nil _ _ _ (.inl rfl) | (exact wk_Q (by omega)) | refine wk_tupL ?_ | refine wk_aggL ?_ | refine joinMax ?_ ?_ ?_ | refine joinMin ?_ ?_ ?_ | refine toMax ?_ | refine toMin ?_ | refine ⟨rfl, ?_⟩ | refine ⟨trivial, ?_⟩ | (refine forkD (fun h => ?_) (fun h => ?_)) | (refine forkNe (fun h => ?_) (fun h => ?_)) | (refine forkEq (fun h => ?_) (fun h => ?_)) | refine forkNot ?_ | (refine ⟨vI64 (by omega), ?_⟩) | (refine And.intro (by omega) ?_) | apply And.intro | (exact iEq (by omega)) | (exact vI64 (by omega))
        · rw [if_neg h3] at hsu
          refine ⟨vI64 (by omega), y + 1, by omega, by omega, ?_⟩
          rw [hsu]
          repeat' first | exact trivial | exact rfl | exact wk_refl _ | refine wkO_cells ?_ | refine wks_cons ?_ ?_ | exact wks_nil | exact wk_nil _ _ _ (.inl rfl) | (exact wk_Q (by omega)) | refine wk_tupL ?_ | refine wk_aggL ?_ | refine joinMax ?_ ?_ ?_ | refine joinMin ?_ ?_ ?_ | refine toMax ?_ | refine toMin ?_ | refine ⟨rfl, ?_⟩ | refine ⟨trivial, ?_⟩ | (refine forkD (fun h => ?_) (fun h => ?_)) | (refine forkNe (fun h => ?_) (fun h => ?_)) | (refine forkEq (fun h => ?_) (fun h => ?_)) | refine forkNot ?_ | (refine ⟨vI64 (by omega), ?_⟩) | (refine And.intro (by omega) ?_) | apply And.intro | (exact iEq (by omega)) | (exact vI64 (by omega))
      · obtain rfl : y = B.length := by omega
        have hst : ∀ v, guiltOf B x = v → setl (List.flatMap intC (guiltTo B l.length x)) (0 + (((x : Nat) : Int)).toNat * 1) [.int .i64 v] = List.flatMap intC (guiltTo B l.length (x + 1)) := by
          intro v hv
          rw [Int.toNat_natCast, show 0 + x * 1 = x by omega, intC_set (by omega), guiltTo_succ hlt, hv]
        have hfl : (List.flatMap intC (guiltTo B l.length x)).length = l.length := by rw [flat_len intC_len]; omega
        have hx1 : 0 + (((x : Nat) : Int)).toNat * 1 + 1 ≤ l.length := by rw [Int.toNat_natCast]; omega
        refine forkEq (fun h3 => ?_) (fun h3 => forkEq (fun h4 => ?_) (fun h4 => ?_))
        · have hg : guiltOf B x = 0 := if_pos (by omega)
          refine ⟨vI64 (by omega), x + 1, by omega, by omega, ?_⟩
          rw [guiltTo_same hg]
          repeat' first | exact plainZ _ _ | exact trivial | exact rfl | exact wk_refl _ | refine wkO_cells ?_ | refine wks_cons ?_ ?_ | exact wks_nil | exact wk_nil _ _ _ (.inl rfl) | (exact wk_Q (by omega)) | refine wk_tupL ?_ | refine wk_aggL ?_ | refine joinMax ?_ ?_ ?_ | refine joinMin ?_ ?_ ?_ | refine toMax ?_ | refine toMin ?_ | refine ⟨rfl, ?_⟩ | refine ⟨trivial, ?_⟩ | (refine forkD (fun h => ?_) (fun h => ?_)) | (refine forkNe (fun h => ?_) (fun h => ?_)) | (refine forkEq (fun h => ?_) (fun h => ?_)) | refine forkNot ?_ | (refine ⟨vI64 (by omega), ?_⟩) | (refine And.intro (by omega) ?_) | apply And.intro | (exact iEq (by omega)) | (exact vI64 (by omega))
        · have hg : guiltOf B x = 2 := (if_neg (by omega)).trans (if_pos (by omega))
          refine ⟨by omega, by rw [hfl]; exact hx1, rfl, vI64 (by omega), x + 1, by omega, by omega, ?_⟩
          rw [hst 2 hg]
          repeat' first | exact plainZ _ _ | exact trivial | exact rfl | exact wk_refl _ | refine wkO_cells ?_ | refine wks_cons ?_ ?_ | exact wks_nil | exact wk_nil _ _ _ (.inl rfl) | (exact wk_Q (by omega)) | refine wk_tupL ?_ | refine wk_aggL ?_ | refine joinMax ?_ ?_ ?_ | refine joinMin ?_ ?_ ?_ | refine toMax ?_ | refine toMin ?_ | refine ⟨rfl, ?_⟩ | refine ⟨trivial, ?_⟩ | (refine forkD (fun h => ?_) (fun h => ?_)) | (refine forkNe (fun h => ?_) (fun h => ?_)) | (refine forkEq (fun h => ?_) (fun h => ?_)) | refine forkNot ?_ | (refine ⟨vI64 (by omega), ?_⟩) | (refine And.intro (by omega) ?_) | apply And.intro | (exact iEq (by omega)) | (exact vI64 (by omega))
        · have hg : guiltOf B x = 1 := (if_neg (by omega)).trans (if_neg (by omega))
          refine ⟨by omega, by rw [hfl]; exact hx1, rfl, vI64 (by omega), x + 1, by omega, by omega, ?_⟩
          rw [hst 1 hg]
          repeat' first | exact plainZ _ _ | exact trivial | exact rfl | exact wk_refl _ | refine wkO_cells ?_ | refine wks_cons ?_ ?_ | exact wks_nil | exact wk_nil _ _ _ (.inl rfl) | (exact wk_Q (by omega)) | refine wk_tupL ?_ | refine wk_aggL ?_ | refine joinMax ?_ ?_ ?_ | refine joinMin ?_ ?_ ?_ | refine toMax ?_ | refine toMin ?_ | refine ⟨rfl, ?_⟩ | refine ⟨trivial, ?_⟩ | (refine forkD (fun h => ?_) (fun h => ?_)) | (refine forkNe (fun h => ?_) (fun h => ?_)) | (refine forkEq (fun h => ?_) (fun h => ?_)) | refine forkNot ?_ | (refine ⟨vI64 (by omega), ?_⟩) | (refine And.intro (by omega) ?_) | apply And.intro | (exact iEq (by omega)) | (exact vI64 (by omega))
    · obtain rfl : x = l.length := by omega
      repeat' first | exact plainZ _ _ | (exact (by rw [hgl]; exact wk_R)) | exact trivial | exact rfl | exact wk_refl _ | refine wkO_cells ?_ | refine wks_cons ?_ ?_ | exact wks_nil | exact wk_nil _ _ _ (.inl rfl) | (exact wk_Q (by omega)) | refine wk_tupL ?_ | refine wk_aggL ?_ | refine joinMax ?_ ?_ ?_ | refine joinMin ?_ ?_ ?_ | refine toMax ?_ | refine toMin ?_ | refine ⟨rfl, ?_⟩ | refine ⟨trivial, ?_⟩ | (refine forkD (fun h => ?_) (fun h => ?_)) | (refine forkNe (fun h => ?_) (fun h => ?_)) | (refine forkEq (fun h => ?_) (fun h => ?_)) | refine forkNot ?_ | (refine ⟨vI64 (by omega), ?_⟩) | (refine And.intro (by omega) ?_) | apply And.intro | (exact iEq (by omega)) | (exact vI64 (by omega))
  · rw [fGuilt_0 he]
    repeat' first | (refine ⟨⟨rfl, trivial⟩, fun H' _ hd => kopen0 l m now he hd.1, ?_⟩) | refine ⟨vbT (bne_iff_ne.2 he), ?_⟩ | exact wk_nil _ _ _ (.inr rfl) | exact trivial | exact rfl | exact wk_refl _ | refine wkO_cells ?_ | refine wks_cons ?_ ?_ | exact wks_nil | exact wk_nil _ _ _ (.inl rfl) | (exact wk_Q (by omega)) | refine wk_tupL ?_ | refine wk_aggL ?_ | refine joinMax ?_ ?_ ?_ | refine joinMin ?_ ?_ ?_ | refine toMax ?_ | refine toMin ?_ | refine ⟨rfl, ?_⟩ | refine ⟨trivial, ?_⟩ | (refine forkD (fun h => ?_) (fun h => ?_)) | (refine forkNe (fun h => ?_) (fun h => ?_)) | (refine forkEq (fun h => ?_) (fun h => ?_)) | refine forkNot ?_ | (refine ⟨vI64 (by omega), ?_⟩) | (refine And.intro (by omega) ?_) | apply And.intro | (exact iEq (by omega)) | (exact vI64 (by omega))
end
end Go.Proofs.YthcjliffpebjaaaGreat
/- Ice: reports in conflict: which sets agree, and the greatest ones. No condition. -/
namespace Go.Proofs.YthcjliffpebjaaaGreat
set_option linter.unusedSimpArgs false
open Go Go.K
set_option linter.unusedVariables false
noncomputable section
attribute [local irreducible] vF popc
/-! ## The spans of a cell by their numbers -/
def sp (c : Cell) : Nat → Span
  | 0 => c.conc
  | 1 => c.thick
  | 2 => c.ridge
  | _ => c.press
theorem okC_iff (c : Cell) : okC c ↔ ∀ d, (sp c d).lo ≤ (sp c d).hi := by
  constructor
  · rintro ⟨h0, h1, h2, h3⟩ d
    match d with
    | 0 => exact h0
    | 1 => exact h1
    | 2 => exact h2
    | _ + 3 => exact h3
  · intro h; exact ⟨h 0, h 1, h 2, h 3⟩
theorem sp_meet (a b : Cell) (d : Nat) : sp (meetC a b) d = meetS (sp a d) (sp b d) := by
  match d with
  | 0 => rfl
  | 1 => rfl
  | 2 => rfl
  | _ + 3 => rfl
theorem right_sp {c : Cell} (h : rightC c) (d : Nat) : (sp wholeC d).lo ≤ (sp c d).lo ∧ (sp c d).lo ≤ (sp c d).hi ∧ (sp c d).hi ≤ (sp wholeC d).hi := by
  obtain ⟨⟨a1, a2, a3, a4⟩, ⟨b1, b2, b3, b4⟩, ⟨c1, c2, c3, c4⟩, ⟨d1, d2, d3, d4⟩⟩ := h
  match d with
  | 0 => exact ⟨a1, a3, a4⟩
  | 1 => exact ⟨b1, b3, b4⟩
  | 2 => exact ⟨c1, c3, c4⟩
  | _ + 3 => exact ⟨d1, d3, d4⟩
theorem okM {a b : Cell} : okC (meetC a b) ↔ ∀ d, max (sp a d).lo (sp b d).lo ≤ min (sp a d).hi (sp b d).hi := by
  rw [okC_iff]
  constructor
  · intro h d; have := h d; rw [sp_meet] at this; exact this
  · intro h d; rw [sp_meet]; exact h d
/-! ## Which sets agree -/
def okA (ts : List Cell) (p : Nat → Bool) : Prop := ∀ i j, i < ts.length → j < ts.length → p i = true → p j = true → okC (meetC (ts.getD i zeroC) (ts.getD j zeroC))
def rightTs (ts : List Cell) : Prop := ∀ i, i < ts.length → rightC (ts.getD i zeroC)
structure TogInv (ts : List Cell) (s j : Nat) (c : Cell) : Prop where
  ok : ∀ d, (sp c d).lo ≤ (sp c d).hi
  le : ∀ i d, i < j → inSet ts.length s i = true → (sp (ts.getD i zeroC) d).lo ≤ (sp c d).lo ∧ (sp c d).hi ≤ (sp (ts.getD i zeroC) d).hi
  lo : ∀ d, (sp c d).lo = (sp wholeC d).lo ∨ ∃ i, i < j ∧ inSet ts.length s i = true ∧ (sp c d).lo = (sp (ts.getD i zeroC) d).lo
  hi : ∀ d, (sp c d).hi = (sp wholeC d).hi ∨ ∃ i, i < j ∧ inSet ts.length s i = true ∧ (sp c d).hi = (sp (ts.getD i zeroC) d).hi
theorem tog_inv {ts : List Cell} {s : Nat} : ∀ j, j ≤ ts.length → ∀ c, tog ts s j = some c → TogInv ts s j c := by
  intro j
  induction j with
  | zero =>
    intro _ c h
    cases h
    refine ⟨fun d => ?_, fun i d h => absurd h (Nat.not_lt_zero _), fun d => .inl rfl, fun d => .inl rfl⟩
    match d with
    | 0 => exact (show (0 : Int) ≤ 100 by decide)
    | 1 => exact (show (0 : Int) ≤ 400 by decide)
    | 2 => exact (show (0 : Int) ≤ 100 by decide)
    | _ + 3 => exact (show (0 : Int) ≤ 3 by decide)
  | succ j ih =>
    intro hj c h
    cases h0 : tog ts s j with
    | none => rw [tog_none h0 (Nat.le_succ j)] at h; cases h
    | some c0 =>
      have I := ih (by omega) c0 h0
      rw [tog_succ h0] at h
      split at h
      · rename_i hin
        split at h
        · rename_i hok
          cases h
          rw [okM] at hok
          refine ⟨fun d => by rw [sp_meet]; exact hok d, fun i d hi hs => ?_, fun d => ?_, fun d => ?_⟩
          · rw [sp_meet]
            rcases Nat.lt_or_ge i j with h1 | h1
            · have := I.le i d h1 hs
              show _ ≤ max _ _ ∧ min _ _ ≤ _
              omega
            · obtain rfl : i = j := by omega
              show _ ≤ max _ _ ∧ min _ _ ≤ _
              omega
          · rw [sp_meet]
            show max _ _ = _ ∨ ∃ i, _ ∧ _ ∧ max _ _ = _
            rcases Int.le_total (sp c0 d).lo (sp (ts.getD j zeroC) d).lo with h1 | h1
            · exact .inr ⟨j, by omega, hin, by omega⟩
            · rw [show max (sp c0 d).lo (sp (ts.getD j zeroC) d).lo = (sp c0 d).lo by omega]
              rcases I.lo d with h2 | ⟨i, h2, h3, h4⟩
              · exact .inl h2
              · exact .inr ⟨i, by omega, h3, h4⟩
          · rw [sp_meet]
            show min _ _ = _ ∨ ∃ i, _ ∧ _ ∧ min _ _ = _
            rcases Int.le_total (sp (ts.getD j zeroC) d).hi (sp c0 d).hi with h1 | h1
            · exact .inr ⟨j, by omega, hin, by omega⟩
            · rw [show min (sp c0 d).hi (sp (ts.getD j zeroC) d).hi = (sp c0 d).hi by omega]
              rcases I.hi d with h2 | ⟨i, h2, h3, h4⟩
              · exact .inl h2
              · exact .inr ⟨i, by omega, h3, h4⟩
        · cases h
      · rename_i hin
        cases h
        refine ⟨I.ok, fun i d hi hs => ?_, fun d => ?_, fun d => ?_⟩
        · rcases Nat.lt_or_ge i j with h1 | h1
          · exact I.le i d h1 hs
          · obtain rfl : i = j := by omega
            exact absurd hs hin
        · rcases I.lo d with h2 | ⟨i, h2, h3, h4⟩
          · exact .inl h2
          · exact .inr ⟨i, by omega, h3, h4⟩
        · rcases I.hi d with h2 | ⟨i, h2, h3, h4⟩
          · exact .inl h2
          · exact .inr ⟨i, by omega, h3, h4⟩
theorem tog_some {ts : List Cell} {s : Nat} (hr : rightTs ts) (h : okA ts (inSet ts.length s)) : ∀ j, j ≤ ts.length → ∃ c, tog ts s j = some c := by
  intro j
  induction j with
  | zero => intro _; exact ⟨_, rfl⟩
  | succ j ih =>
    intro hj
    obtain ⟨c, hc⟩ := ih (by omega)
    have I := tog_inv j (by omega) c hc
    rw [tog_succ hc]
    split
    · rename_i hin
      have hok : okC (meetC c (ts.getD j zeroC)) := by
        rw [okM]
        intro d
        have r := right_sp (hr j (by omega)) d
        have o := I.ok d
        have k1 : (sp c d).lo ≤ (sp (ts.getD j zeroC) d).hi := by
          rcases I.lo d with h2 | ⟨i, h2, h3, h4⟩
          · omega
          · have := (okM.1 (h i j (by omega) (by omega) h3 hin)) d
            omega
        have k2 : (sp (ts.getD j zeroC) d).lo ≤ (sp c d).hi := by
          rcases I.hi d with h2 | ⟨i, h2, h3, h4⟩
          · omega
          · have := (okM.1 (h i j (by omega) (by omega) h3 hin)) d
            omega
        omega
      rw [if_pos hok]; exact ⟨_, rfl⟩
    · exact ⟨_, rfl⟩
/-- A set of reports agrees just if no two of it are in conflict. -/
theorem tog_iff {ts : List Cell} (hr : rightTs ts) (s : Nat) : (togA ts s).isSome = true ↔ okA ts (inSet ts.length s) := by
  constructor
  · intro h i j hi hj h1 h2
    obtain ⟨c, hc⟩ := Option.isSome_iff_exists.1 h
    have I := tog_inv ts.length (Nat.le_refl _) c hc
    rw [okM]
    intro d
    have a := I.le i d hi h1
    have b := I.le j d hj h2
    have o := I.ok d
    have r1 := right_sp (hr i hi) d
    have r2 := right_sp (hr j hj) d
    omega
  · intro h
    obtain ⟨c, hc⟩ := tog_some hr h ts.length (Nat.le_refl _)
    show (tog ts s ts.length).isSome = true
    rw [hc]; rfl
/-! ## Sets and their numbers -/
def cnt (n : Nat) (p : Nat → Bool) : Nat := (List.range n).countP p
theorem cnt_succ (n : Nat) (p : Nat → Bool) : cnt (n + 1) p = cnt n p + (p n).toNat := by
  unfold cnt
  rw [List.range_succ, List.countP_append]
  cases h : p n <;> simp [h]
theorem cnt_congr {n : Nat} {p q : Nat → Bool} (h : ∀ i, i < n → p i = q i) : cnt n p = cnt n q := by
  induction n with
  | zero => rfl
  | succ n ih => rw [cnt_succ, cnt_succ, ih (fun i hi => h i (by omega)), h n (by omega)]
theorem inSet_lt {n s i : Nat} (hi : i < n) : inSet (n + 1) s i = inSet n (s / 2) i := by
  unfold inSet
  rw [show n + 1 - 1 - i = (n - 1 - i) + 1 by omega, Nat.testBit_succ]
theorem inSet_last (n s : Nat) : inSet (n + 1) s n = s.testBit 0 := by unfold inSet; rw [show n + 1 - 1 - n = 0 by omega]
theorem pop_half : (List.range 4096).all (fun s => Nat.beq (popc s) (popc (s / 2) + s % 2)) = true := by kernel_rfl
theorem pop_2 {s : Nat} (h : s < 4096) : popc s = popc (s / 2) + s % 2 := Nat.eq_of_beq_eq_true (List.all_eq_true.1 pop_half s (List.mem_range.2 h))
theorem popc_cnt : ∀ (n s : Nat), s < 2 ^ n → n ≤ 12 → popc s = cnt n (inSet n s)
  | 0, s, h, _ => by
    obtain rfl : s = 0 := by simpa using h
    kernel_rfl
  | n + 1, s, h, hn => by
    have h12 : 2 ^ (n + 1) ≤ 2 ^ 12 := Nat.pow_le_pow_right (by decide) hn
    rw [pop_2 (by omega), popc_cnt n (s / 2) (by rw [Nat.pow_succ] at h; omega) (by omega), cnt_succ, cnt_congr (fun i hi => inSet_lt hi), inSet_last]
    congr 1
    rw [Nat.testBit_zero]
    rcases Nat.mod_two_eq_zero_or_one s with h1 | h1 <;> rw [h1] <;> rfl
def encP (p : Nat → Bool) : Nat → Nat
  | 0 => 0
  | n + 1 => 2 * encP p n + (p n).toNat
theorem encP_lt (p : Nat → Bool) (n : Nat) : encP p n < 2 ^ n := by
  induction n with
  | zero => exact Nat.one_pos
  | succ n ih =>
    rw [Nat.pow_succ]
    show 2 * encP p n + (p n).toNat < _
    cases p n <;> simp <;> omega
theorem inSet_enc (p : Nat → Bool) : ∀ (n i : Nat), i < n → inSet n (encP p n) i = p i
  | 0, _, h => absurd h (Nat.not_lt_zero _)
  | n + 1, i, h => by
    rcases Nat.lt_or_ge i n with h1 | h1
    · rw [inSet_lt h1]
      show inSet n ((2 * encP p n + (p n).toNat) / 2) i = _
      rw [show (2 * encP p n + (p n).toNat) / 2 = encP p n by cases p n <;> simp <;> omega]
      exact inSet_enc p n i h1
    · obtain rfl : i = n := by omega
      rw [inSet_last, Nat.testBit_zero]
      show decide ((2 * encP p i + (p i).toNat) % 2 = 1) = _
      cases p i <;> simp <;> omega
/-! ## The greatest sets that agree -/
def maxP (ts : List Cell) : Nat := ((agr ts (2 ^ ts.length)).1).toNat
theorem agr_max (ts : List Cell) : ∀ j, j ≤ 2 ^ ts.length → ∀ s, s < 2 ^ ts.length → 2 ^ ts.length ≤ s + j → (togA ts s).isSome = true → ((popc s : Nat) : Int) ≤ (agr ts j).1 ∧ (((popc s : Nat) : Int) = (agr ts j).1 → s ∈ (agr ts j).2) := by
  intro j
  induction j with
  | zero => intro _ s h1 h2; omega
  | succ j ih =>
    intro hj s h1 h2 h3
    obtain ⟨q, hq⟩ : ∃ q, 2 ^ ts.length - 1 - j = q := ⟨_, rfl⟩
    rcases Nat.lt_or_ge (s + j) (2 ^ ts.length) with hl | hl
    · obtain rfl : s = q := by omega
      rcases Classical.em ((popc s : Int) < (agr ts j).1) with k1 | k1
      · rw [agr_a hq k1]; exact ⟨by omega, fun h => by omega⟩
      · rcases Classical.em ((agr ts j).1 < popc s) with k2 | k2
        · rw [agr_c hq k1 h3 k2]; exact ⟨Int.le_refl _, fun _ => List.mem_singleton.2 rfl⟩
        · rw [agr_d hq k1 h3 k2]; exact ⟨by show _ ≤ (agr ts j).1; omega, fun _ => List.mem_append_right _ (List.mem_singleton.2 rfl)⟩
    · obtain ⟨i1, i2⟩ := ih (by omega) s h1 hl h3
      rcases Classical.em ((popc q : Int) < (agr ts j).1) with k1 | k1
      · rw [agr_a hq k1]; exact ⟨i1, i2⟩
      · cases k3 : (togA ts q).isSome with
        | false => rw [agr_b hq k1 k3]; exact ⟨i1, i2⟩
        | true =>
          rcases Classical.em ((agr ts j).1 < popc q) with k2 | k2
          · rw [agr_c hq k1 k3 k2]
            exact ⟨by show _ ≤ ((popc q : Nat) : Int); omega, fun (h : ((popc s : Nat) : Int) = ((popc q : Nat) : Int)) => by omega⟩
          · rw [agr_d hq k1 k3 k2]; exact ⟨i1, fun h => List.mem_append_left _ (i2 h)⟩
theorem agr_nonneg (ts : List Cell) : 0 ≤ (agr ts (2 ^ ts.length)).1 := by
  rcases (agr_inv ts _ (Nat.le_refl _)).1 with ⟨_, h⟩ | ⟨h, _⟩
  · exact absurd h (agrA_ne ts)
  · exact h
theorem mem_agrA {ts : List Cell} (hr : rightTs ts) (hn : ts.length ≤ 12) {s : Nat} : s ∈ agrA ts ↔ s < 2 ^ ts.length ∧ okA ts (inSet ts.length s) ∧ cnt ts.length (inSet ts.length s) = maxP ts := by
  have h0 := agr_nonneg ts
  constructor
  · intro h
    obtain ⟨h1, h2, h3⟩ := (agr_inv ts _ (Nat.le_refl _)).2 s h
    refine ⟨h1, (tog_iff hr s).1 h2, ?_⟩
    rw [← popc_cnt _ s h1 hn]
    unfold maxP; omega
  · rintro ⟨h1, h2, h3⟩
    refine (agr_max ts _ (Nat.le_refl _) s h1 (by omega) ((tog_iff hr s).2 h2)).2 ?_
    rw [popc_cnt _ s h1 hn, h3]
    unfold maxP; omega
theorem cnt_max {ts : List Cell} (hr : rightTs ts) (hn : ts.length ≤ 12) {p : Nat → Bool} (h : okA ts p) : cnt ts.length p ≤ maxP ts := by
  have h0 := agr_nonneg ts
  have e : ∀ i, i < ts.length → inSet ts.length (encP p ts.length) i = p i := fun i hi => inSet_enc p _ i hi
  have h2 : okA ts (inSet ts.length (encP p ts.length)) := fun i j hi hj h1 h2 => h i j hi hj (by rw [← e i hi]; exact h1) (by rw [← e j hj]; exact h2)
  have := (agr_max ts _ (Nat.le_refl _) _ (encP_lt p ts.length) (by omega) ((tog_iff hr _).2 h2)).1
  rw [popc_cnt _ _ (encP_lt p ts.length) hn, cnt_congr e] at this
  unfold maxP; omega
theorem max_some {ts : List Cell} (hr : rightTs ts) (hn : ts.length ≤ 12) : okA ts (inSet ts.length (trustS ts)) ∧ cnt ts.length (inSet ts.length (trustS ts)) = maxP ts :=
  ((mem_agrA hr hn).1 (trustS_mem ts)).2
end
end Go.Proofs.YthcjliffpebjaaaGreat
