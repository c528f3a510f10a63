/- Ice: what reports tell together, conflicts, trusted reports. No condition. -/
import Derived.Test.YthcjliffpebjaaaGreatGP1gxP5g
import Derived.Test.YthcjliffpebjaaaGreatGX0xS4a
import Derived.Shelf.SlSortCmp.Whole1
import Derived.Ground.SlsfProg
import Derived.Test.YthcjliffpebjaaaGreatChecked
import Derived.Sort.Grow
import Derived.Deep.Draws
import Derived.Test.YthcjliffpebjaaaGreatGS4gxP1a
open Go Go.K
set_option maxRecDepth 1000000
set_option maxHeartbeats 4000000
set_option linter.unusedVariables false
set_option linter.unusedSimpArgs false
namespace Go.Proofs.YthcjliffpebjaaaGreat
noncomputable section
theorem qk(ts:List Cell)(j:Nat)(hj:j<=2 ^ ts.length):(((agr ts j).1 = -1/\(agr ts j).2=[])∨(0<=(agr ts j).1/\(agr ts j).2≠[]))/\∀s∈(agr ts j).2,s<2 ^ ts.length/\(di ts s).isSome=true/\((dt s:Nat):Int)=(agr ts j).1:=by
 induction j with
 |zero=>exact ⟨.inl ⟨rfl,rfl⟩,fun s h=>by cases h⟩
 |succ j ih =>
  obtain ⟨i1,i2⟩:=ih Om
  have hs:2 ^ ts.length-1-j<2 ^ ts.length:=Om
  rcases Classical.em ((dt (2 ^ ts.length-1-j):Int)<(agr ts j).1) with h1|h1
  ·rw[wS rfl h1];exact ⟨i1,i2⟩
  ·cases h2:(di ts (2 ^ ts.length-1-j)).isSome with
   |false=>rw[D4 rfl h1 h2];exact ⟨i1,i2⟩
   |true =>
    rcases Classical.em ((agr ts j).1<dt (2 ^ ts.length-1-j)) with h3|h3
    ·rw[wQ rfl h1 h2 h3]
     refine ⟨.inr ⟨Om,by simp⟩,fun s hm =>?_⟩
     rw[List.mem_singleton.1 hm];exact ⟨hs,h2,rfl⟩
    ·rw[wP rfl h1 h2 h3]
     refine ⟨.inr ⟨by show 0<=(agr ts j).1;omega,by simp⟩,fun s hm =>?_⟩
     rcases List.mem_append.1 hm with hm|hm
     ·exact i2 s hm
     ·rw[List.mem_singleton.1 hm];exact ⟨hs,h2,Om⟩
theorem Gr(ts:List Cell)(j:Nat):tog ts 0 j=some aO:=by
 induction j with
 |zero=>rfl
 |succ j ih=>rw[jW ih,show bM ts.length 0 j=false from Nat.zero_testBit _,if_neg (by decide)]
theorem qm(ts:List Cell):bt ts≠[]:=by
 unfold bt
 have h0:1<=2 ^ ts.length:=Nat.one_le_two_pow
 obtain ⟨j,hj⟩:∃j,2 ^ ts.length=j+1:=⟨2 ^ ts.length-1,Om⟩
 obtain ⟨i1,_⟩:=qk ts j Om
 have hs:2 ^ ts.length-1-j=0:=Om
 have hz:(di ts 0).isSome=true:=by unfold di;rw[Gr];rfl
 rw[hj]
 rcases Classical.em ((dt 0:Int)<(agr ts j).1) with h1|h1
 ·rw[wS hs h1]
  rcases i1 with ⟨a,_⟩|⟨_,b⟩
  ·rw[a]at h1;omega
  ·exact b
 ·rcases Classical.em ((agr ts j).1<dt 0) with h3|h3
  ·rw[wQ hs h1 hz h3];simp
  ·rw[wP hs h1 hz h3];simp
attribute [local irreducible] vF iP dt
theorem sM(ts:List Cell):bI ts∈bt ts:=by
 unfold bI
 cases h:bt ts with
 |nil=>exact absurd h (qm ts)
 |cons a r=>simp
theorem vD(ts:List Cell):bI ts<2 ^ ts.length/\(di ts (bI ts)).isSome=true :=
 let h:=(qk ts (2 ^ ts.length) (Nat.le_refl _)).2 _ (sM ts); ⟨h.1,h.2.1⟩
theorem fU{l:List Report}{m:af}{now:Int}(h:av l m now=0):l.length<=12:=by
 rcases Classical.em (dx m now=0) with h1|h1
 ·rcases Nat.lt_or_ge 12 l.length with h2|h2
  ·rw[mQ h1 h2]at h;cases h
  ·exact h2
 ·rw[kn h1]at h;exact absurd h h1
theorem cz(l:List Report)(m:af)(now:Int):(told l m now).length=l.length:=iV ..
theorem DR{l:List Report}{m:af}{now:Int}(h:¬ av l m now=0):lw l m now=(aj,av l m now):=by unfold lw;rw[if_neg h]
theorem DQ{l:List Report}{m:af}{now:Int}(h:av l m now=0)(k:(di (told l m now) (2 ^ l.length-1)).isSome=false):lw l m now=(aj,21):=by
 unfold lw;rw[if_pos h]
 cases hq:di (told l m now) (2 ^ l.length-1) with
 |none=>rfl
 |some c=>rw[hq]at k;cases k
theorem DP{l:List Report}{m:af}{now:Int}(h:av l m now=0)(k:(di (told l m now) (2 ^ l.length-1)).isSome=true):lw l m now=((di (told l m now) (2 ^ l.length-1)).getD aj,0):=by
 unfold lw;rw[if_pos h]
 cases hq:di (told l m now) (2 ^ l.length-1) with
 |none=>rw[hq]at k;cases k
 |some c=>rfl
theorem ES(n:Nat):((2:Int) ^ n)-1=(((2 ^ n-1:Nat)):Int):=by
 have h1:((2:Int) ^ n)=(((2 ^ n:Nat)):Int):=by simp
 have h2:1<=2 ^ n:=Nat.one_le_two_pow
 rw[h1];omega
theorem N4(l:List Report)(m:af)(now:Int){H:Heap}{id:Nat}{own:Bool}{z:Nat}(hid:H[id]?=some (.cells own z (l.flatMap ai))) :
  ak prog F.Hz [slQ id 2 l.length,ao m,nI now] H [] (Is (.tuple #[cellV (lw l m now).1,nI (lw l m now).2]) H):=by
 refine ix (Eq.mpr (O6 _ l m now) ?_) (cU (b9 0 l)) rfl [id] rfl (cT hid)
 delta Lp Ft vq jkh oC jr JY Fs nI slQ pt fk ck nw bw c1q c2q n1q
 refine ⟨fun he =>?_,fun he =>?_⟩
 ·have hn:=fU he
  have hs:=Gv hn
  have hp:=ls hn
  have hpi:=ES l.length
  have hn2:(told l m now).length<=12:=by rw[cz];exact hn
  refine ⟨⟨rfl,trivial⟩,fun H' hl hd=>tw l m now he hl hd.1,Om,ay (by rw[hs];omega),_,iEq hs,ay Om,(_,_),⟨rfl,rfl,trivial⟩,fun H' _ hd=>by rw[hpi];exact qG m _ hn2 Om hd.1 hd.2.1,cy (pZ (fun h2 =>?_) (fun h2 =>?_))⟩
  ·exact ej (DP he h2)
  ·exact ej (DQ he h2)
 ·repeat' first|(refine ⟨⟨rfl,trivial⟩,fun H' _ hd=>tz l m now he hd.1,?_⟩)|refine ⟨vbT (bne_iff_ne.2 he),?_⟩|exact ej (DR he)
theorem gS(p:Nat×Nat):(bo p).length=2:=rfl
theorem eD(n:Nat)(l:List (Nat×Nat)):(l.flatMap bo).all (aw n)=true:=cD (fun _=>rfl) l
theorem kM(n:Nat)(l:List Bool):(l.flatMap aC).all (aw n)=true:=cD (fun _=>rfl) l
theorem mt(ts:List Cell)(i k:Nat):(aU ts i k).length<=k:=by
 induction k with
 |zero=>exact Nat.le_refl _
 |succ k ih =>
  unfold aU
  split
  ·omega
  ·rw[aI];simp;omega
theorem qf(ts:List Cell)(i:Nat):(conf ts i).length<=i*ts.length:=by
 induction i with
 |zero=>exact Nat.zero_le _
 |succ i ih =>
  unfold conf
  have:=mt ts i (ts.length-(i+1))
  rw[aI,Nat.succ_mul];omega
theorem kw{ts:List Cell}{i k:Nat}(h:okC (bK (ts.getD i aj) (ts.getD (i+1+k) aj))):aU ts i (k+1)=aU ts i k:=if_pos h
theorem ku{ts:List Cell}{i k:Nat}(h:¬ okC (bK (ts.getD i aj) (ts.getD (i+1+k) aj))):aU ts i (k+1)=aU ts i k ++ [(i,i+1+k)]:=if_neg h
theorem yi{l:List Report}{m:af}{now:Int}(h:¬ av l m now=0):a7 l m now=([],av l m now):=if_neg h
theorem yh{l:List Report}{m:af}{now:Int}(h:av l m now=0):a7 l m now=(conf (told l m now) l.length,0):=if_pos h
theorem ET{xs:List Cell}{i k:Nat}(h:i+1+k<xs.length):cu 8 (List.flatMap cellC xs) (0+Int.toNat (((i:Nat):Int)+1)*8+Int.toNat ((k:Nat):Int)*8)=some (.agg ⟨cellC (List.getD xs (i+1+k) aj)⟩) :=
 mH (f:=cellC) (d:=aj) (c:=0) (m:=8) fc h (by rw[Int.toNat_natCast,show Int.toNat (((i:Nat):Int)+1)=i+1 by omega];omega) (by decide)
theorem B5(l:List Report)(m:af)(now:Int){H:Heap}{L:Nat}(hL:H.length=L){id:Nat}{own:Bool}{z:Nat}(hid:H[id]?=some (.cells own z (l.flatMap ai))) :
    ak prog F.vu [slQ id 2 l.length,ao m,nI now] H []
      (Is (.tuple #[.slice (some ⟨L,0,some 1⟩) (a7 l m now).1.length (a7 l m now).1.length,nI (a7 l m now).2]) (H ++ [.cells true 2 ((a7 l m now).1.flatMap bo)])):=by
  subst hL
  have key:=fun hc=>rU (css:=[l.flatMap ai]) (v:=.tuple #[.slice (some ⟨1,0,some 1⟩) (a7 l m now).1.length (a7 l m now).1.length,nI (a7 l m now).2]) (new:=[(true,.cells true 2 ((a7 l m now).1.flatMap bo))]) (Eq.mpr (CP l m now) hc) (cU (b9 0 l)) rfl (by simp[rn,bD])
    (by show ((cY 3 (.cells true 2 ((a7 l m now).1.flatMap bo)) && true) && true) = true
        rw[Bool.and_true,Bool.and_true];exact (dw (σ:=fun _=>none) (d:=0) (eD 0 _)).2)
    (congrArg (fun q=>[ah.cells true 2 q]) (dw (d:=0) (eD 0 _)).1) (H:=H) [id] rfl (cT hid)
  have e1:rn (bT (0 + [l.flatMap ai].length) H.length) 3 (.tuple #[.slice (some ⟨1,0,some 1⟩) (a7 l m now).1.length (a7 l m now).1.length,nI (a7 l m now).2]) = .tuple #[.slice (some ⟨H.length,0,some 1⟩) (a7 l m now).1.length (a7 l m now).1.length,nI (a7 l m now).2]:=by simp[rn,bT]
  have e2:(List.map (fun x:Bool×ah=>x.2) [(true,ah.cells true 2 ((a7 l m now).1.flatMap bo))]).map (rno (bT (0 + [l.flatMap ai].length) H.length) 3)=[.cells true 2 ((a7 l m now).1.flatMap bo)] :=
    congrArg (fun q=>[ah.cells true 2 q]) (dw (d:=0) (eD 0 _)).1
  rw[e1,e2]at key
  refine key ?_
  clear key e1 e2
  delta uV Ft vq jkh nm tX Ml qQ zQ JZ jkx jks Fs jkf nI slQ pt slN fk ck nw bw eR wR kbq lq apq c0q c1q n1q
  refine ⟨fun he =>?_,fun he =>?_⟩
  · have hn := fU he
    have hn2:=cz l m now
    refine ⟨⟨rfl,trivial⟩,fun H' hl hd=>tw l m now he hl hd.1,rfl,Nat.zero_le _,?_,fun _=>rfl,?_⟩
    · repeat' first|exact trivial|exact ad _|exact bx _ _ _ (.inl rfl)|refine ⟨rfl,?_⟩|refine ⟨trivial,?_⟩|apply And.intro
    intro x hx
    have hcx:(conf (told l m now) x).length<=12*12:=Nat.le_trans (qf (told l m now) x) (Nat.mul_le_mul Om Om)
    refine aq (fun h =>?_) (fun h =>?_)
    · refine ⟨Om, vQ Om, ay Om, ⟨⟨.inr (.inr rfl), Nat.le_refl _⟩, Nat.le_refl _, Om, Om⟩, rfl, _, rfl, rfl, Om, ?_, fun _ => rfl, ?_⟩
      · have ea : conf (told l m now) x ++ aU (told l m now) x 0 = conf (told l m now) x := List.append_nil _
        rw[ea]
        repeat' first|exact eD _ _|exact trivial|exact ad _|refine ⟨rfl,?_⟩|refine ⟨trivial,?_⟩|apply And.intro
      intro k hk
      have hcr:=mt (told l m now) x k
      have hap:(conf (told l m now) x++aU (told l m now) x k).length=(conf (told l m now) x).length+(aU (told l m now) x k).length:=aI
      refine aq (fun h2 =>?_) (fun h2 =>?_)
      · refine ⟨Om, ET Om, (_, _), trivial, fun H' _ _ => xx _ _ H', cy (aq (fun ok => ?_) (fun ok => ?_))⟩
        · refine ⟨ay Om, k + 1, Om, Om, ?_⟩
          rw[kw ok]
          repeat' first|exact eD _ _|exact trivial|exact ad _|refine ⟨rfl,?_⟩|refine ⟨trivial,?_⟩|apply And.intro
        · repeat' first | refine ⟨ay Om, ?_⟩ | (refine ⟨⟨Om, by decide, ⟨Nat.le_refl _, by rw [aK gS]; omega⟩, ⟨by decide, Nat.le_refl _⟩, rfl⟩, rfl, ?_⟩) | refine ⟨k + 1, Om, Om, ?_⟩
          rw[ku ok,<- List.append_assoc]
          have hl1:(conf (told l m now) x++aU (told l m now) x k ++ [(x,x+1+k)]).length=(conf (told l m now) x++aU (told l m now) x k).length+1:=aI
          repeat' first|exact eD _ _|(exact (by rw[hl1];exact eJ Om))|(exact congrArg (fun l=>some (ah.cells true 2 l)) (cF gS _ (x,x+1+k) rfl))|exact trivial|exact ad _|refine ⟨rfl,?_⟩|refine ⟨trivial,?_⟩|apply And.intro
      · have e:conf (told l m now) (x+1)=conf (told l m now) x++aU (told l m now) x k:=by
          show _++aU _ _ _=_
          rw[show (told l m now).length-(x+1)=k by omega]
        refine ⟨ay Om,x+1,Om,Om,?_⟩
        rw[e]
        repeat' first|exact eD _ _|exact trivial|exact ad _|refine ⟨rfl,?_⟩|refine ⟨trivial,?_⟩|apply And.intro
    · obtain rfl : x = l.length := Om
      have hf:=yh he
      rw[hf]
      repeat' first|exact eD _ _|exact trivial|exact ad _|refine ⟨rfl,?_⟩|apply And.intro
  · rw [yi he]
    repeat' first|(refine ⟨⟨rfl,trivial⟩,fun H' _ hd=>tz l m now he hd.1,?_⟩)|refine ⟨vbT (bne_iff_ne.2 he),?_⟩|exact trivial|exact ad _|refine aD ?_ ?_|exact bx _ _ _ (.inl rfl)|refine dz ?_|refine ⟨rfl,?_⟩|refine ⟨trivial,?_⟩|apply And.intro
theorem fX(b:Bool):(aC b).length=1:=rfl
theorem Pk{l:List Nat}(h:l≠[]):(l.flatMap jb)[0]?=some (nI (((l.getD 0 0:Nat)):Int)):=by
 cases l with
 |nil=>exact absurd rfl h
 |cons x r=>rfl
theorem yM(ts:List Cell)(x:Nat):bh ts (x+1)=bh ts x ++ [bM ts.length (bI ts) x]:=ew _ _
theorem i6(ts:List Cell)(x:Nat):(bh ts x).length=x:=bY _ _
theorem GY(m:af){ts:List Cell}(hn:ts.length<=12){H:Heap}{L:Nat}(hL:H.length=L){w j:Nat}{own dp:Bool}{z z2:Nat}(h1:H[w]?=some (.cells own z (eH m j ts.length)))(h2:H[j]?=some (.cells dp z2 (ts.flatMap cellC))) :
    ak prog F.t8 [pt w] H [] (Is (.tuple #[.slice (some ⟨L,0,some 1⟩) (bh ts ts.length).length (bh ts ts.length).length,cellV ((di ts (bI ts)).getD aj)]) (H ++ [.cells true 1 ((bh ts ts.length).flatMap aC)])):=by
  subst hL
  have key:=fun hc=>Gm (css:=[eH m 1 ts.length,ts.flatMap cellC]) (v:=.tuple #[.slice (some ⟨2,0,some 1⟩) (bh ts ts.length).length (bh ts ts.length).length,cellV ((di ts (bI ts)).getD aj)]) (new:=[(true,.cells true 1 ((bh ts ts.length).flatMap aC))]) (Eq.mpr (Nc m ts) hc) rfl (by simp[rn,bD])
    (by show ((cY 3 (.cells true 1 ((bh ts ts.length).flatMap aC)) && true) && true) = true
        rw[Bool.and_true,Bool.and_true];exact (dw (σ:=fun _=>none) (d:=0) (kM 0 _)).2)
    (congrArg (fun q=>[ah.cells true 1 q]) (dw (d:=0) (kM 0 _)).1) (H:=H) [w,j] rfl (lK h1 h2)
  have e1:rn (bT (0 + [eH m 1 ts.length,ts.flatMap cellC].length) H.length) 3 (.tuple #[.slice (some ⟨2,0,some 1⟩) (bh ts ts.length).length (bh ts ts.length).length,cellV ((di ts (bI ts)).getD aj)]) = .tuple #[.slice (some ⟨H.length,0,some 1⟩) (bh ts ts.length).length (bh ts ts.length).length,cellV ((di ts (bI ts)).getD aj)]:=by simp[rn,bT]
  have e2:(List.map (fun x:Bool×ah=>x.2) [(true,ah.cells true 1 ((bh ts ts.length).flatMap aC))]).map (rno (bT (0 + [eH m 1 ts.length,ts.flatMap cellC].length) H.length) 3)=[.cells true 1 ((bh ts ts.length).flatMap aC)] :=
    congrArg (fun q=>[ah.cells true 1 q]) (dw (d:=0) (kM 0 _)).1
  rw[e1,e2]at key
  refine key ?_
  clear key e1 e2
  delta Iw jk8 zP Cd nm tX Mm qQ jt jr Fv nI slQ pt slN fk nw bw eR kbq ixq lq c2q n2q
  obtain ⟨t1,t2⟩:=vD ts
  have hp:=ls hn
  have hne:=qm ts
  have hne1:0<(bt ts).length:=List.length_pos_iff.2 hne
  have hs:bI ts<4096:=Om
  refine ⟨⟨rfl,rfl,trivial⟩,fun H' hl hd=>wq m hn hl hd.1 hd.2.1,Om,Pk hne,(_,_),⟨rfl,rfl,trivial⟩,fun H' _ hd=>qG m (bI ts) hn hs hd.1 hd.2.1,?_⟩
  refine ⟨rfl,Nat.zero_le _,?_,fun _=>rfl,?_⟩
  · repeat' first|exact trivial|exact bx _ _ _ (.inl rfl)|refine ⟨rfl,?_⟩|refine ⟨trivial,?_⟩|apply And.intro
  intro x hx
  refine aq (fun h =>?_) (fun h =>?_)
  · have hlt : x < ts.length := Om
    have hb:=CA (n:=bI ts) (k:=ts.length-1-x) Om Om
    have hpk:=ls (k:=ts.length-1-x) Om
    have hbit:(Value.bool ((if (bI ts).testBit (ts.length-1-x) then (((2 ^ (ts.length-1-x):Nat)):Int) else 0) != 0)) = .bool (bM ts.length (bI ts) x):=by
      show _=Value.bool ((bI ts).testBit (ts.length-1-x))
      cases (bI ts).testBit (ts.length-1-x) with
      |true=>refine congrArg Value.bool ?_;rw[if_pos rfl];exact bne_iff_ne.2 Om
      |false=>rfl
    refine ⟨_,⟨rfl,rfl,trivial⟩,fun H' _ hd=>LQ m x hn hlt hd.1 hd.2.1,_,iEq hb,?_⟩
    repeat' first|refine ⟨ay Om,?_⟩|(refine ⟨⟨Om,by decide,⟨Nat.le_refl _,by rw[aK fX,i6];omega⟩,⟨by decide,Nat.le_refl _⟩,rfl⟩,rfl,?_⟩)|refine ⟨x+1,Om,Om,?_⟩
    rw[yM]
    repeat' first|exact kM _ _|(exact congrArg (fun l=>some (ah.cells true 1 l)) (by rw[hbit];exact cF fX (bh ts x) _ (i6 ..).symm))|exact trivial|exact eJ Om|refine ⟨rfl,?_⟩|refine ⟨trivial,?_⟩|apply And.intro
  · obtain rfl : x = ts.length := Om
    repeat' first|exact kM _ _|exact trivial|exact ad _|refine aD ?_ ?_|refine dz ?_|refine ⟨rfl,?_⟩|apply And.intro
    all_goals (rw[i6];exact ad _)
theorem uu{l:List Report}{m:af}{now:Int}(h:¬ av l m now=0):aB l m now=([],aj,av l m now):=if_neg h
theorem HU{l:List Report}{m:af}{now:Int}(h:av l m now=0):aB l m now=(bh (told l m now) (told l m now).length,(di (told l m now) (bI (told l m now))).getD aj,0):=by rw[cz];exact if_pos h
theorem LS(l:List Report)(m:af)(now:Int){H:Heap}{L:Nat}(hL:H.length=L){id:Nat}{own:Bool}{z:Nat}(hid:H[id]?=some (.cells own z (l.flatMap ai))) :
    ak prog F.FC [slQ id 2 l.length,ao m,nI now] H []
      (Is (.tuple #[.slice (some ⟨L,0,some 1⟩) (aB l m now).1.length (aB l m now).1.length,cellV (aB l m now).2.1,nI (aB l m now).2.2]) (H ++ [.cells true 1 ((aB l m now).1.flatMap aC)])):=by
  subst hL
  have key:=fun hc=>rU (css:=[l.flatMap ai]) (v:=.tuple #[.slice (some ⟨1,0,some 1⟩) (aB l m now).1.length (aB l m now).1.length,cellV (aB l m now).2.1,nI (aB l m now).2.2]) (new:=[(true,.cells true 1 ((aB l m now).1.flatMap aC))]) (Eq.mpr (Nq l m now) hc) (cU (b9 0 l)) rfl (by simp[rn,bD])
    (by show ((cY 3 (.cells true 1 ((aB l m now).1.flatMap aC)) && true) && true) = true
        rw[Bool.and_true,Bool.and_true];exact (dw (σ:=fun _=>none) (d:=0) (kM 0 _)).2)
    (congrArg (fun q=>[ah.cells true 1 q]) (dw (d:=0) (kM 0 _)).1) (H:=H) [id] rfl (cT hid)
  have e1:rn (bT (0 + [l.flatMap ai].length) H.length) 3 (.tuple #[.slice (some ⟨1,0,some 1⟩) (aB l m now).1.length (aB l m now).1.length,cellV (aB l m now).2.1,nI (aB l m now).2.2]) = .tuple #[.slice (some ⟨H.length,0,some 1⟩) (aB l m now).1.length (aB l m now).1.length,cellV (aB l m now).2.1,nI (aB l m now).2.2]:=by simp[rn,bT]
  have e2:(List.map (fun x:Bool×ah=>x.2) [(true,ah.cells true 1 ((aB l m now).1.flatMap aC))]).map (rno (bT (0 + [l.flatMap ai].length) H.length) 3)=[.cells true 1 ((aB l m now).1.flatMap aC)] :=
    congrArg (fun q=>[ah.cells true 1 q]) (dw (d:=0) (kM 0 _)).1
  rw[e1,e2]at key
  refine key ?_
  clear key e1 e2
  delta II jl1 jl0 jl2 nI slQ pt ck kbq c1q n1q n2q
  refine ⟨fun he =>?_,fun he =>?_⟩
  · have hn2 : (told l m now).length <= 12 := by rw [cz]; exact fU he
    rw[HU he]
    repeat' first|(refine ⟨⟨rfl,trivial⟩,fun H' hl hd=>tw l m now he hl hd.1,?_⟩)|(refine ⟨⟨rfl,rfl,trivial⟩,fun H' hl hd=>GY m hn2 hl hd.1 hd.2.1,?_⟩)|exact kM _ _|exact trivial|exact ad _|refine ⟨rfl,?_⟩|apply And.intro
  · rw [uu he]
    repeat' first|(refine ⟨⟨rfl,trivial⟩,fun H' _ hd=>tz l m now he hd.1,?_⟩)|refine ⟨vbT (bne_iff_ne.2 he),?_⟩|exact trivial|exact ad _|refine aD ?_ ?_|exact bx _ _ _ (.inl rfl)|refine dz ?_|refine ⟨rfl,?_⟩|refine ⟨trivial,?_⟩|apply And.intro
end
end Go.Proofs.YthcjliffpebjaaaGreat
namespace Go.Proofs.YthcjliffpebjaaaGreat
noncomputable section
attribute [local irreducible] vF
abbrev aA(x:Int):List Value:=[nI x]
theorem bZ(x:Int):(aA x).length=1:=rfl
theorem ee(n:Nat)(l:List Int):(l.flatMap aA).all (aw n)=true:=cD (fun _=>rfl) l
theorem AV{xs:List Int}{k:Nat}(h:k<xs.length):(xs.flatMap aA)[0+k*1]?=some (nI (xs.getD k 0)) :=
 jA (n:=1) (f:=aA) (d:=0) (c:=0) bZ h Om rfl
theorem mW{s:Span}{u d h mx:Int}(hs:bz s mx)(hu:0<=chg u h)(hd:0<=chg d h):bz (CB s u d h mx) mx:=by
 unfold bz at *;unfold CB;dsimp only;omega
theorem CC{c:Cell}{m:af}{h:Int}(hc:cw c)(hm:eS m)(hh:0<=h/\h<=10000):cw (nu c m h):=by
 obtain ⟨⟨u1,u2,u3,u4⟩,d1,d2,d3,d4⟩:=hm
 exact ⟨mW hc.1 (cx u1 hh).1 (cx d1 hh).1,mW hc.2.1 (cx u2 hh).1 (cx d2 hh).1,mW hc.2.2.1 (cx u3 hh).1 (cx d3 hh).1,mW hc.2.2.2 (cx u4 hh).1 (cx d4 hh).1⟩
theorem FW{ts:List Cell}(h:∀i k,i<ts.length->k<ts.length->okC (bK (ts.getD i aj) (ts.getD k aj))):∀n,n<=ts.length->conf ts n=[]:=by
 intro n
 induction n with
 |zero=>intro _;rfl
 |succ n ih =>
  intro hn
  have row:∀k,n+1+k<=ts.length->aU ts n k=[]:=by
   intro k
   induction k with
   |zero=>intro _;rfl
   |succ k ihk=>intro hk;rw[kw (h n (n+1+k) Om Om)];exact ihk Om
  show conf ts n++aU ts n (ts.length-(n+1))=[]
  rw[ih Om,row _ Om];rfl
theorem tZ{n i:Nat}(h:i<n):bM n (2 ^ n-1) i=true:=by
 unfold bM
 rw[Nat.testBit_two_pow_sub_one]
 exact decide_eq_true Om
def OQ(sp:Value)(a b:Int):Prop :=
 (fk ((a:Int) != a) (fk ((b:Int) != b) ((nI 0:Value)=sp) ((nI (-1):Value)=sp)) (fk ((b:Int) != b) ((nI 1:Value)=sp) (fk (decide ((a:Int)<b)) ((nI (-1):Value)=sp) (fk (decide ((b:Int)<a)) ((nI 1:Value)=sp) ((nI 0:Value)=sp)))))
theorem PA(sp:Value)(a b:Int):vE 159 [nI a,nI b] ⟨0,.leaf⟩ (some [])
 (.go 17 (.fork (.go 0 (.fork (.auto) (.auto))) (.go 0 (.fork (.auto) (.go 2 (.fork (.auto) (.go 2 (.fork (.auto) (.auto)))))))))
 (fun v _ _=>v=sp)=OQ sp a b:=by kernel_rfl
abbrev ja0(qd0:List Int):Value:=.iface (qd0.length+1) (.agg ⟨(qd0.flatMap aA)⟩)
abbrev ja3(a1_:List Int):Prop:=(ja0 a1_)=rn (sg 0 []) 3 (ja0 a1_)/\eR (nI ((a1_.length:Nat):Int))/\True
abbrev ja4:Prop:=(True)/\(True)/\(True)
abbrev ja1(qn0:Nat)(qd0 qd1:List Int):Prop:=qn0<=List.length qd0/\qn0<=List.length qd1/\List.take qn0 qd0=List.take qn0 qd1
abbrev ja2(qd0:List Int)(qn0:Nat):Prop:=(qd0.flatMap aA)[(Int.toNat (qn0:Int)*1)]?=some (nI (qd0.getD qn0 0))
def Bd(sp:Value)(a1_ b1_:List Int):Prop :=
 (lq (0<=List.length a1_/\0<=List.length b1_/\List.take 0 a1_=List.take 0 b1_) (true=true/\((nI 0:Value)=nI ((0:Nat):Int)/\(ja0 b1_)=rn (sg 0 []) 3 (ja0 b1_)/\(ja0 a1_)=rn (sg 0 []) 3 (ja0 a1_)/\ja3 a1_)/\ja4) (∀J:Nat,(ja1 J a1_ b1_)->(fk (decide (((J:Int):Int)<((a1_.length:Nat):Int))) ((ixq (J:Int) a1_.length)/\((ja2 a1_ J)/\(fk (decide ((((b1_.length:Nat):Int):Int)<=(J:Int))) ((nI 1:Value)=sp) ((ixq (J:Int) b1_.length)/\((ja2 b1_ J)/\(∃i_1:Int,(c0q 0 159 [nI (a1_.getD J 0),nI (b1_.getD J 0)] (nI i_1) (fk ((i_1:Int) != 0) ((nI i_1:Value)=sp) (nw ((J:Int)+1) (∃bH:Nat,(ja1 bH a1_ b1_)/\(List.length a1_-bH)<(List.length a1_-J)/\true=true/\((nI ((J:Int)+1):Value)=nI (bH:Int)/\(ja0 b1_)=rn (sg 0 []) 3 (ja0 b1_)/\(ja0 a1_)=rn (sg 0 []) 3 (ja0 a1_)/\ja3 a1_)/\ja4)))))))))) (fk (decide ((((a1_.length:Nat):Int):Int)<((b1_.length:Nat):Int))) ((nI (-1):Value)=sp) ((nI 0:Value)=sp)))))
abbrev ja5(a1_:List Int):Value:=.agg ⟨(a1_.flatMap aA)⟩
theorem I6(sp:Value)(a1_ b1_:List Int):vE 141 [.iface (a1_.length+1) (ja5 a1_),.iface (b1_.length+1) (.agg ⟨(b1_.flatMap aA)⟩)] ⟨0,.leaf⟩ (some [])
 (.go 3 (.inv 3 (Nat) (0) [] [] (fun J=>[(11,nI (J:Int)),(1,.iface (b1_.length+1) (.agg ⟨(b1_.flatMap aA)⟩)),(0,.iface (a1_.length+1) (ja5 a1_)),(9,.iface (a1_.length+1) (ja5 a1_)),(10,nI ((a1_.length:Nat):Int))]) (fun J=>[]) (fun J=>[]) (fun J=>[]) (fun J=>(ja1 J a1_ b1_)) (fun J=>(List.length a1_-J)) (fun J => .go 0 (.fork (.go 0 (.need (.val (nI (a1_.getD J 0)) (.go 5 (.fork (.auto) (.go 1 (.need (.val (nI (b1_.getD J 0)) (.go 2 (.bind (Int) (fun r1 => .ans [] (nI r1) [] (.go 2 (.fork (.auto) (.go 0 (.slot 30 (nI ((J:Int)+1)) (.go 0 (.again []))))))))))))))))) (.go 4 (.fork (.auto) (.auto)))))))
 (fun v _ _=>v=sp)=Bd sp a1_ b1_:=by kernel_rfl
def wZ(sp:Value)(a1_:List Int)(i:Int):Prop :=
 (lq (0<=List.length a1_/\i ∉ List.take 0 a1_) (true=true/\((nI 0:Value)=nI ((0:Nat):Int)/\eR (nI i)/\ja3 a1_)/\ja4) (∀J:Nat,(J<=List.length a1_/\i ∉ List.take J a1_)->(fk (decide (((J:Int):Int)<((a1_.length:Nat):Int))) ((ixq (J:Int) a1_.length)/\((ja2 a1_ J)/\(fk ((i:Int) == (a1_.getD J 0)) ((.bool (decide ((0:Int)<=(J:Int))):Value)=sp) (nw ((J:Int)+1) (∃bJ:Nat,(bJ<=List.length a1_/\i ∉ List.take bJ a1_)/\(List.length a1_-bJ)<(List.length a1_-J)/\true=true/\((nI ((J:Int)+1):Value)=nI (bJ:Int)/\eR (nI i)/\ja3 a1_)/\ja4))))) ((.bool false:Value)=sp))))
theorem Gb(sp:Value)(a1_:List Int)(i:Int):vE 89 [.iface (a1_.length+1) (ja5 a1_),nI i] ⟨0,.leaf⟩ (some [])
 (.go 7 (.inv 3 (Nat) (0) [] [] (fun J=>[(8,nI (J:Int)),(1,nI i),(0,.iface (a1_.length+1) (ja5 a1_)),(7,nI ((a1_.length:Nat):Int))]) (fun J=>[]) (fun J=>[]) (fun J=>[]) (fun J=>(J<=List.length a1_/\i ∉ List.take J a1_)) (fun J=>(List.length a1_-J)) (fun J => .go 0 (.fork (.go 4 (.need (.val (nI (a1_.getD J 0)) (.go 0 (.fork (.auto) (.go 0 (.slot 18 (nI ((J:Int)+1)) (.go 0 (.again []))))))))) (.auto)))))
 (fun v _ _=>v=sp)=wZ sp a1_ i:=by kernel_rfl
abbrev dI(l:List Int):Value:=.iface (l.length+1) (.agg ⟨l.flatMap aA⟩)
theorem AM(l:List Int):aw 0 (dI l)=true:=by
 show (l.flatMap aA).all (dP 0)=true
 rw[List.all_eq_true]
 intro v hv
 obtain ⟨x,_,hx⟩:=List.mem_flatMap.1 hv
 rw[List.mem_singleton]at hx;subst hx;rfl
theorem iJ(σ:Nat->Option Nat)(d:Nat)(l:List Int):rn σ (d+3) (dI l)=dI l:=(rnC (AM l)).1
def qh(a b:Int):Int:=if a<b then -1 else if b<a then 1 else 0
def cmpL:List Int->List Int->Int
 | [],[] =>0
 | [],_ :: _ => -1
 |_ :: _,[] =>1
 |a :: l,b :: m=>if qh a b≠0 then qh a b else cmpL l m
theorem Ha(a b:Int)(H:Heap):ak prog 159 [nI a,nI b] H [] (Is (nI (qh a b)) H):=by
 refine cQ 40 (fun _=>rfl) rfl (Eq.mpr (PA _ a b) ?_) H
 delta OQ nI fk;unfold qh
 refine ⟨fun h=>absurd h (by simp),fun _=>⟨fun h=>absurd h (by simp),fun _=>⟨fun h =>?_,fun h=>⟨fun k =>?_,fun k =>?_⟩⟩⟩⟩
 ·have h:=cc h;rw[if_pos h]
 ·have h:=dG h;have k:=cc k;rw[if_neg h,if_pos k]
 ·have h:=dG h;have k:=dG k;rw[if_neg h,if_neg k]
theorem rc:∀(x:Nat) (a b:List Int),x<=a.length->x<=b.length->a.take x=b.take x->cmpL a b=cmpL (a.drop x) (b.drop x)
 |0,_,_,_,_,_=>rfl
 |x+1,[],_,h,_,_=>by simp at h
 |x+1,_ :: _,[],_,h,_=>by simp at h
 |x+1,a :: l,b :: m,h1,h2,h3=>by
  simp only[List.take_succ_cons,List.cons.injEq]at h3
  obtain ⟨rfl,h3⟩:=h3
  have e:qh a a=0:=by unfold qh;rw[if_neg Om,if_neg Om]
  show (if qh a a≠0 then qh a a else cmpL l m)=_
  rw[if_neg Om]
  exact rc x l m (by simpa using h1) (by simpa using h2) h3
theorem eB{xs:List Int}{k:Nat}(h:k<xs.length):(xs.flatMap aA)[Int.toNat ((k:Nat):Int)*1]?=some (nI (xs.getD k 0)):=by
 have:=AV h;rw[Nat.zero_add]at this;rw[Int.toNat_natCast];exact this
theorem Hg(a b:List Int)(ha:a.length<=4294967296)(hb:b.length<=4294967296)(H:Heap):ak prog 141 [dI a,dI b] H [] (Is (nI (cmpL a b)) H):=by
 refine cQ 40 (fun σ=>by rw[List.map_cons,List.map_cons,List.map_nil,iJ σ 2,iJ σ 2]) rfl (Eq.mpr (I6 _ a b) ?_) H
 delta Bd ja0 ja3 ja4 ja1 ja2 nI fk nw eR ixq lq c0q
 repeat' first|(refine ⟨rfl,⟨Nat.zero_le _,Nat.zero_le _,rfl⟩,?_,fun _=>rfl,?_⟩)|exact (iJ _ 0 _).symm|exact trivial|refine ⟨rfl,?_⟩|refine ⟨trivial,?_⟩|apply And.intro
 rintro x ⟨h1,h2,h3⟩
 have hd:=rc x a b h1 h2 h3
 refine aq (fun h =>?_) (fun h =>?_)
 ·have hx:x<a.length:=Om
  have ea:a.drop x=a.getD x 0 :: a.drop (x+1):=by rw[List.drop_eq_getElem_cons hx,List.getD_eq_getElem?_getD,List.getElem?_eq_getElem hx];rfl
  refine ⟨⟨Om,Om⟩,eB hx,aq (fun k =>?_) (fun k =>?_)⟩
  ·have eb:b.drop x=[]:=List.drop_eq_nil_of_le Om
   exact iEq (by rw[hd,ea,eb];rfl)
  ·have hy:x<b.length:=Om
   have eb:b.drop x=b.getD x 0 :: b.drop (x+1):=by rw[List.drop_eq_getElem_cons hy,List.getD_eq_getElem?_getD,List.getElem?_eq_getElem hy];rfl
   have hd2:cmpL a b=if qh (a.getD x 0) (b.getD x 0)≠0 then qh (a.getD x 0) (b.getD x 0) else cmpL (a.drop (x+1)) (b.drop (x+1)):=by rw[hd,ea,eb];rfl
   refine ⟨⟨Om,Om⟩,eB hy,_,trivial,fun H' _ _=>Ha _ _ H',aZ (fun q =>?_) (fun q =>?_)⟩
   ·exact iEq (by rw[hd2,if_pos q])
   ·have exy:a.getD x 0=b.getD x 0:=by
     unfold qh at q
     split at q
     ·omega
     ·split at q <;> omega
    refine ⟨ay Om,x+1,⟨Om,Om,?_⟩,Om,rfl,?_⟩
    ·rw[List.take_add_one,List.take_add_one,h3]
     rw[List.getD_eq_getElem?_getD,List.getElem?_eq_getElem hx,List.getD_eq_getElem?_getD,List.getElem?_eq_getElem hy]at exy
     rw[List.getElem?_eq_getElem hx,List.getElem?_eq_getElem hy]
     exact congrArg (fun z=>List.take x b ++ [z]) exy
    ·repeat' first|exact (iJ _ 0 _).symm|exact trivial|refine ⟨rfl,?_⟩|refine ⟨trivial,?_⟩|apply And.intro
 ·obtain rfl:x=a.length:=Om
  have ea:a.drop a.length=[]:=List.drop_length
  refine aq (fun k =>?_) (fun k =>?_)
  ·have hy:a.length<b.length:=Om
   exact iEq (by rw[hd,ea,List.drop_eq_getElem_cons hy];rfl)
  ·have eb:b.drop a.length=[]:=List.drop_eq_nil_of_le Om
   exact iEq (by rw[hd,ea,eb];rfl)
theorem nz{a:List Int}{x:Nat}(hx:x<a.length)(i:Int):i∈a.take (x+1) ↔ i∈a.take x∨i=a.getD x 0:=by
 rw[List.take_add_one,List.getElem?_eq_getElem hx,List.mem_append,List.getD_eq_getElem?_getD,List.getElem?_eq_getElem hx]
 simp
theorem Fh(a:List Int)(i:Int)(ha:a.length<=4294967296)(H:Heap):ak prog 89 [dI a,nI i] H [] (Is (.bool (decide (i∈a))) H):=by
 refine cQ 40 (fun σ=>by rw[List.map_cons,List.map_cons,List.map_nil,iJ σ 2];rfl) rfl (Eq.mpr (Gb _ a i) ?_) H
 delta wZ ja3 ja4 ja2 ja0 nI fk nw eR ixq lq
 repeat' first|(refine ⟨rfl,⟨Nat.zero_le _,by simp⟩,?_,fun _=>rfl,?_⟩)|exact (iJ _ 0 _).symm|exact trivial|refine ⟨rfl,?_⟩|refine ⟨trivial,?_⟩|apply And.intro
 rintro x ⟨h1,h2⟩
 refine aq (fun h =>?_) (fun h =>?_)
 ·have hx:x<a.length:=Om
  refine ⟨⟨Om,Om⟩,eB hx,cO (fun k =>?_) (fun k =>?_)⟩
  ·have hm:i∈a:=List.mem_of_mem_take ((nz hx i).2 (.inr k))
   rw[decide_eq_true hm]
   exact congrArg Value.bool (decide_eq_true Om)
  ·refine ⟨ay Om,x+1,⟨Om,fun hm =>?_⟩,Om,rfl,?_⟩
   ·rcases (nz hx i).1 hm with g|g
    ·exact h2 g
    ·exact k g
   ·repeat' first|exact (iJ _ 0 _).symm|exact trivial|refine ⟨rfl,?_⟩|refine ⟨trivial,?_⟩|apply And.intro
 ·obtain rfl:x=a.length:=Om
  rw[List.take_length]at h2
  rw[decide_eq_false h2]
end
end Go.Proofs.YthcjliffpebjaaaGreat
namespace Go.Proofs.YthcjliffpebjaaaGreat
open Go Go.Shelf
def EE:Go.Shelf.Ren:=⟨fun|6=>140|15=>153|14=>158|28=>171|29=>172|20=>176|21=>177|22=>178|23=>179|24=>180|25=>181|26=>182|27=>183|46=>190|47=>186|48=>187|49=>191|50=>192|57=>194|n=>n,fun|22=>61|24=>66|25=>199|3=>3|39=>201|0=>0|53=>213|55=>216|4=>4|46=>221|45=>220|50=>226|5=>5|9=>9|66=>235|70=>127|76=>242|77=>243|n=>n,fun|n=>n⟩
theorem NJ:Go.Proofs.SlLaysF.n6 Tryz.prog EE:={
 mixed:=by kernel_rfl
 f6:=⟨Tryz.f140.name,by decide,Tryz.func140.trans (congrArg some (by kernel_rfl))⟩
 f14:=⟨Tryz.f158.name,by decide,Tryz.func158.trans (congrArg some (by kernel_rfl))⟩
 f15:=Tryz.func153.trans (congrArg some (by kernel_rfl))
 f20:=⟨Tryz.f176.name,by decide,Tryz.func176.trans (congrArg some (by kernel_rfl))⟩
 f21:=⟨Tryz.f177.name,by decide,Tryz.func177.trans (congrArg some (by kernel_rfl))⟩
 f22:=⟨Tryz.f178.name,by decide,Tryz.func178.trans (congrArg some (by kernel_rfl))⟩
 f23:=⟨Tryz.f179.name,by decide,Tryz.func179.trans (congrArg some (by kernel_rfl))⟩
 f24:=⟨Tryz.f180.name,by decide,Tryz.func180.trans (congrArg some (by kernel_rfl))⟩
 f25:=⟨Tryz.f181.name,by decide,Tryz.func181.trans (congrArg some (by kernel_rfl))⟩
 f26:=⟨Tryz.f182.name,by decide,Tryz.func182.trans (congrArg some (by kernel_rfl))⟩
 f27:=⟨Tryz.f183.name,by decide,Tryz.func183.trans (congrArg some (by kernel_rfl))⟩
 f28:=Tryz.func171.trans (congrArg some (by kernel_rfl))
 f29:=Tryz.func172.trans (congrArg some (by kernel_rfl))
 f46:=⟨Tryz.f190.name,by decide,Tryz.func190.trans (congrArg some (by kernel_rfl))⟩
 f47:=Tryz.func186.trans (congrArg some (by kernel_rfl))
 f48:=Tryz.func187.trans (congrArg some (by kernel_rfl))
 f49:=⟨Tryz.f191.name,by decide,Tryz.func191.trans (congrArg some (by kernel_rfl))⟩
 f50:=⟨Tryz.f192.name,by decide,Tryz.func192.trans (congrArg some (by kernel_rfl))⟩
 f57:=⟨Tryz.f194.name,by decide,Tryz.func194.trans (congrArg some (by kernel_rfl))⟩
 t0:=Tryz.underlying0
 a0:=Tryz.isAgg0
 z0:=Tryz.sizeOf0
 v0:=Tryz.zeroValue0
 t3:=Tryz.underlying3
 a3:=Tryz.isAgg3
 z3:=Tryz.sizeOf3
 v3:=Tryz.zeroValue3
 t4:=Tryz.underlying4
 a4:=Tryz.isAgg4
 z4:=Tryz.sizeOf4
 v4:=Tryz.zeroValue4
 t5:=Tryz.underlying5
 a5:=Tryz.isAgg5
 z5:=Tryz.sizeOf5
 v5:=Tryz.zeroValue5
 t9:=Tryz.underlying9
 a9:=Tryz.isAgg9
 z9:=Tryz.sizeOf9
 v9:=Tryz.zeroValue9
 t22:=Tryz.underlying61
 a22:=Tryz.isAgg61
 z22:=Tryz.sizeOf61
 v22:=Tryz.zeroValue61
 a24:=Tryz.isAgg66
 z24:=Tryz.sizeOf66
 t25:=Tryz.underlying199
 a25:=Tryz.isAgg199
 z25:=Tryz.sizeOf199
 v25:=Tryz.zeroValue199
 t39:=Tryz.underlying201
 a39:=Tryz.isAgg201
 z39:=Tryz.sizeOf201
 v39:=Tryz.zeroValue201
 t45:=Tryz.underlying220
 a45:=Tryz.isAgg220
 z45:=Tryz.sizeOf220
 v45:=Tryz.zeroValue220
 t46:=Tryz.underlying221
 a46:=Tryz.isAgg221
 z46:=Tryz.sizeOf221
 v46:=Tryz.zeroValue221
 t50:=Tryz.underlying226
 a50:=Tryz.isAgg226
 z50:=Tryz.sizeOf226
 v50:=Tryz.zeroValue226
 t53:=Tryz.underlying213
 a53:=Tryz.isAgg213
 z53:=Tryz.sizeOf213
 v53:=Tryz.zeroValue213
 t55:=Tryz.underlying216
 a55:=Tryz.isAgg216
 z55:=Tryz.sizeOf216
 v55:=Tryz.zeroValue216
 t66:=Tryz.underlying235
 a66:=Tryz.isAgg235
 z66:=Tryz.sizeOf235
 v66:=Tryz.zeroValue235
 t70:=Tryz.underlying127
 a70:=Tryz.isAgg127
 z70:=Tryz.sizeOf127
 v70:=Tryz.zeroValue127
 t76:=Tryz.underlying242
 a76:=Tryz.isAgg242
 z76:=Tryz.sizeOf242
 v76:=Tryz.zeroValue242
 t77:=Tryz.underlying243
 a77:=Tryz.isAgg243
 z77:=Tryz.sizeOf243
 v77:=Tryz.zeroValue243 }
end Go.Proofs.YthcjliffpebjaaaGreat
namespace Go.K
variable {P:Program}
theorem Rel.world{B:Nat}{V:Ren}{H:Heap}{w W:World}(hr:Rel P B V H w)(b0:Nat)(hsz:w.heap.size<=W.heap.size)(hsame:∀b,b<w.heap.size->b≠b0->W.heap[b]?=w.heap[b]?)
  (hfree:∀id r o,V id=some r->H[id]?=some o->o.alive=true->r.b≠b0) (hmem:∀m,V.mem b0=some m->False) (hfb:¬ FB V H b0):Rel P B V H W:=by
 refine ⟨Nat.le_trans hr.bsize hsz,hr.eM,hr.dom,fun id r h=>Nat.lt_of_lt_of_le (hr.lt id r h) hsz,fun id r o h1 h2 =>?_,hr.base,hr.sep,fun b m hb=>⟨?_,(hr.mem b m hb).2⟩,
  hr.fam.keep (Ren.le_refl _) (fun _ _ _ h=>h) (fun _ _ _ _ h=>h) (Nat.le_refl _) hsz (fun b hb=>by
   rcases Nat.lt_or_ge b w.heap.size with hl|hl
   ·exact hsame b hl (fun e=>hfb (e ▸ hb))
   ·exact absurd hb (hr.fam.ur hl)) (fun id r o a b c=>hr.fam.free a b c) (fun b m h=>hr.fam.gz h)⟩
 ·by_cases hal:o.alive=true
  ·exact (hr.obj id r o h1 h2).mono (Ren.le_refl _) (hsame _ (hr.lt id r h1) (hfree id r o h1 h2 hal))
  ·cases o <;> first|trivial|exact absurd rfl hal
 ·obtain ⟨ty,fz,e⟩:=(hr.mem b m hb).1
  have hne:b≠b0:=by rintro rfl;exact hmem m hb
  exact ⟨ty,fz,(hsame b (Array.getElem?_eq_some_iff.1 e).1 hne).trans e⟩
theorem Post.grown{B base:Nat}{M:List Nat}{V ρ':Ren}{H H':Heap}{w w1 w2:World}(p:Post P B base M V H w ρ' H' w1)(hsz:w1.heap.size<=w2.heap.size)(hsame:∀b,b<w1.heap.size->w2.heap[b]?=w1.heap[b]?)
  (hos:w2.os=w1.os) (ht:w2.tape=w1.tape) (ho:w2.output=w1.output) (hd:w1.drawn<=w2.drawn):Post P B base M V H w ρ' H' w2:=by
 have hlt:∀id r o,ρ' id=some r->H'[id]?=some o->o.alive=true->r.b≠w1.heap.size:=fun id r o h1 _ _=>by have:=p.rel.lt id r h1;omega
 have hm:∀m,ρ'.mem w1.heap.size=some m->False:=fun m h=>by
  obtain ⟨ty,fz,e⟩:=(p.rel.mem _ m h).1
  have:=(Array.getElem?_eq_some_iff.1 e).1;omega
 exact ⟨p.rel.world w1.heap.size hsz (fun b h _=>hsame b h) hlt hm (p.rel.fam.ur (Nat.le_refl _)),p.ext,p.new,p.len,p.same,Nat.le_trans p.size hsz,fun b h1 h2=>(hsame b (Nat.lt_of_lt_of_le h1 p.size)).trans (p.keep b h1 h2),p.ob,hos.trans p.os,ht.trans p.tape,ho.trans p.output,p.frz,Nat.le_trans p.drawn hd,p.pw⟩
theorem Ge{w w':World}(hos:w'.os=w.os)(ht:w'.tape=w.tape)(ho:w'.output=w.output)(hd:w.drawn<=w'.drawn)(hsz:w.heap.size<=w'.heap.size)(hsame:∀b,b<w.heap.size->w'.heap[b]?=w.heap[b]?) :
  ∃q os',w'=Sort.grow (w.drewN q) os':=by
 refine ⟨w'.drawn-w.drawn,w'.heap.extract w.heap.size w'.heap.size,?_⟩
 obtain ⟨h,t,d,o,u⟩:=w
 obtain ⟨h',t',d',o',u'⟩:=w'
 simp only at hos ht ho hd hsz hsame
 subst hos ht ho
 unfold Sort.grow World.drewN
 simp only[World.mk.injEq,true_and,and_true]
 refine ⟨?_,Om⟩
 apply Array.ext_getElem?
 intro i
 rw[Array.getElem?_append]
 split
 ·rename_i hi;exact hsame i hi
 ·rename_i hi
  rw[Array.getElem?_extract]
  simp only[Nat.min_self]
  split
  ·congr 1;omega
  ·rw[Array.getElem?_eq_none Om]
theorem ak.everywhere{g:FuncId}{args:List Value}{n:Nat}{v:Value}(h:ak P g args (List.replicate n .dead) [] (Is v (List.replicate n .dead))){B:Nat}{V:Ren}{H:Heap}{W:World}(hr:Rel P B V H W)(hn:H.length<=n){args':Array Value}(ha:VRl V args args'.toList) :
  Calls P g args' W fun e w'=>(∃v',e = .returned v'/\∃ρ',VR ρ' v v')/\∃q os',w'=Sort.grow (W.drewN q) os':=by
 have fu:∀(id:Nat) (o:ah),(List.replicate n ah.dead)[id]?=some o->o = .dead:=fun id o ho=>by
  rw[List.getElem?_replicate]at ho
  split at ho
  ·cases ho;rfl
  ·cases ho
 have hrg:Rel P B V (List.replicate n .dead) W:=by
  refine ⟨hr.bsize,hr.eM,fun id r h1 =>?_,hr.lt,fun id r o h1 h2 =>?_,fun id r o h1 h2 h3 =>?_,fun id id' r r' o o' h1 h1' h2 h2' h3 _ _ =>?_,fun b m hm=>⟨(hr.mem b m hm).1,fun id r o h1 h2 h3 =>?_⟩,ll.vU (fun F k r h=>by rw[List.length_replicate];exact Nat.lt_of_lt_of_le (hr.fam.dom F k r h) hn) hr.fam.lt (fun F z cs h=>by cases fu F _ h)⟩
  ·rw[List.length_replicate];exact Nat.lt_of_lt_of_le (hr.dom id r h1) hn
  ·rw[fu id o h2];trivial
  ·rw[fu id o h2]at h3;cases h3
  ·rw[fu id o h2]at h3;cases h3
  ·rw[fu id o h2]at h3;cases h3
 have hob:∀b,¬ OB V (List.replicate n .dead) b:=by
  rintro b (⟨id,r,o,h1,h2,h3,_⟩|⟨F,k,r,z,cs,m,_⟩)
  ·rw[fu id o h2]at h3;cases h3
  ·cases fu F _ m.h
 refine callsIn_wide.1 ((h.2 B V W args' hrg ha).mono ?_)
 rintro e w' ⟨v1,v',ρ',H',rfl,hv',hp,rfl,rfl⟩
 exact ⟨⟨v',rfl,ρ',hv'⟩,Ge hp.os hp.tape hp.output hp.drawn hp.size (fun b hb=>hp.keep b hb (hob b))⟩
end Go.K
namespace Go.K
open Go Go.Proofs Go.RowKit Go.Lib Go.Sort
variable {P:Program}
theorem Ff{R:Go.Shelf.Ren}(L:SlLaysF.n6 P R){β:Type}(dv:β->Value)(cf:β->β->Int)(hO:SWO (ltOf cf))(hanti:∀x y,ltOf cf x y=false->ltOf cf y x=false->x=y)(g:Nat)
  (hone:∀(V:K.Ren) (x:β) (v':Value),VR V (dv x) v'->v'.oneCell'=true) (eg:∀args w,(callFunc g args).run P w = .ok (.enter g args) w) (ef:Enters P (R.f 6))
  (hcmp:∀x y n,ak P g [dv x,dv y] (List.replicate n .dead) [] (Is (.int .i64 (cf x y)) (List.replicate n .dead)))
  {H:Heap} {id:Nat} {tag:Option Nat} (htag:tag=none∨tag=some 1) {L0:List β} (h0:0<L0.length) (hlen:L0.length<4611686018427387904) (ho:H[id]?=some (.cells true 1 (L0.map dv))) :
  ak P (R.f 6) [.slice (some ⟨id,0,tag⟩) L0.length L0.length,.func (.func g) #[] #[]] H [id] (Is (.tuple #[]) (H.set id (.cells true 1 ((L0.mergeSort (fun x y => !ltOf cf y x)).map dv)))):=by
 refine ⟨ef,fun B V w args' hr ha =>?_⟩
 obtain ⟨x',f',rfl⟩:∃x' f',args' = #[x',f']:=by
  have hl:=ha.1
  obtain ⟨l⟩:=args'
  match l,hl with
  | [a,b],_=>exact ⟨a,b,rfl⟩
 have hx:=ha.2 0 _ _ rfl rfl
 have hf:=ha.2 1 _ _ rfl rfl
 obtain rfl:f' = .func (.func g) #[] #[]:=by
  cases hf with
  |func h1 h2 h3 h4 =>
   obtain rfl:=Array.eq_empty_of_size_eq_zero (by simpa using h1.symm)
   obtain rfl:=Array.eq_empty_of_size_eq_zero (by simpa using h3.symm)
   rfl
 obtain ⟨r,cap',hid,hcap,rfl⟩:∃r cap',V id=some r/\L0.length<=cap'/\x' = .slice (some ⟨r.b,0+r.s,none⟩) L0.length cap':=by
  generalize L0.length=n at hx h0
  rcases htag with rfl|rfl
  ·cases hx with
   |slice h hl hc _=>exact ⟨_,_,h,Nat.le_trans hl hc,rfl⟩
   |bE h=>exact absurd h0 (Nat.lt_irrefl 0)
  ·cases hx with
   |aR=>exact absurd h0 (Nat.lt_irrefl 0)
   |aS=>exact absurd h0 (Nat.lt_irrefl 0)
   |bn h hp hl hc _=>exact ⟨_,_,h,Nat.le_trans hl hc,rfl⟩
 rw[Nat.zero_add]
 have HB:=hr.obj id r _ hid ho
 obtain ⟨ow,zz,cs',ty,fz,hb,hsz,hfz,hcs⟩:=HB
 obtain rfl:=hfz rfl
 let α:={p:β×Value // VR V (dv p.1) p.2}
 have hel:∀i:_root_.Fin L0.length,∃v',cs'[i.1+r.s]?=some v'/\VR V (dv L0[i.1]) v':=fun i=>hcs i.1 _ (by rw[List.getElem?_map,List.getElem?_eq_getElem i.2];rfl)
 let el:_root_.Fin L0.length->α:=fun i=>⟨(L0[i.1],Classical.choose (hel i)),(Classical.choose_spec (hel i)).2⟩
 have Pw:∀i,cs'[i.1+r.s]?=some (el i).1.2:=fun i=>(Classical.choose_spec (hel i)).1
 let d:Array α:=Array.ofFn el
 haveI:Inhabited α:=⟨el ⟨0,h0⟩⟩
 let enc:α->Value:=fun p=>p.1.2
 let cf2:α->α->Int:=fun x y=>cf x.1.1 y.1.1
 have hds:d.size=L0.length:=Array.size_ofFn
 have hO2:SWO (ltOf cf2):=⟨fun x=>hO.irrefl x.1.1,fun x y z=>hO.trans x.1.1 y.1.1 z.1.1,fun x y z=>hO.ntrans x.1.1 y.1.1 z.1.1⟩
 have hdi:∀j (hj:j<d.size),d[j]! = el ⟨j,Om⟩:=fun j hj=>by
  rw[getElem!_pos d j hj];exact Array.getElem_ofFn hj
 have hH:Holds enc w r.b r.s d:=fun j hj=>by
  have e:=Pw ⟨j,Om⟩
  refine ⟨?_,?_⟩
  ·rw[hdi j hj]
   simp only[World.cell?,hb,Option.isSome_none,Bool.false_eq_true,if_false]
   rw[Nat.add_comm];exact e
  ·simp[World.frozen?,hb]
 have hblk:=hr.lt id r hid
 have h1:OneCell enc:=fun x=>hone V x.1.1 x.1.2 x.2
 have hcl:CmpLays1 P g #[] enc cf2 r.b r.s d.size w:=by
  intro m os dk hdk x y
  have hrd:Rel P B V (H.set id .dead) w:=(Post.kill (base:=0) (M:=[]) hr hid ho rfl (fun h=>absurd h (Nat.not_lt_zero _))).rel
  have hrW:Rel P B V (H.set id .dead) (sortWorld enc w r.b r.s m dk os):=by
   refine hrd.world r.b ?_ ?_ ?_ ?_ (fun h=>hr.fam.free hid ho rfl (FB.GM (fun _ _ h=>by cases h) h))
   ·simp[sortWorld,grow,putRow,mapBlock,ahead]
   ·intro b hb1 hb2
    simp only[sortWorld,grow,putRow,mapBlock,ahead]
    rw[Array.getElem?_append_left (by simpa using hb1),Array.getElem?_modify,if_neg (Ne.symm hb2)]
    rfl
   ·intro i x o g1 g2 g3
    by_cases e:i=id
    ·subst e;rw[List.getElem?_set_self (List.getElem?_eq_some_iff.1 ho).1]at g2;cases g2;cases g3
    ·rw[List.getElem?_set_ne (Ne.symm e)]at g2
     exact (hr.sep id i r x _ o hid g1 ho g2 rfl g3 (Ne.symm e)).symm
   ·exact fun m h=>(hr.mem _ m h).2 id r _ hid ho rfl rfl
  have hval:VRl V [dv x.1.1,dv y.1.1] (#[enc x,enc y]:Array Value).toList:=by
   refine ⟨rfl,fun i a b g1 g2 =>?_⟩
   match i with
   |0=>cases g1;cases g2;exact x.2
   |1=>cases g1;cases g2;exact y.2
   |i+2=>cases g1
  refine (ak.everywhere (hcmp x.1.1 y.1.1 _) hrW (Nat.le_refl _) (args':=#[enc x,enc y]) hval).mono ?_
  rintro e w' ⟨⟨v',rfl,ρ',hv⟩,q,os',rfl⟩
  cases hv
  exact ⟨rfl,q,os',rfl⟩
 have hcon:=Any.slices_SortFunc L enc h1 cf2 hO2 g #[] r.b r.s cap' d w eg hcl hH hblk Om
 rw[hds]at hcon
 refine callsIn_wide.2 (hcon.mono ?_)
 rintro e w' ⟨rfl,d',n1,os,hperm,Ka,rfl⟩
 have hsz':d'.size=L0.length:=hperm.1.trans hds
 let c:α->β:=fun p=>p.1.1
 have hdc:d.toList.map c=L0:=by
  refine List.ext_getElem? fun i =>?_
  rw[List.getElem?_map,Array.getElem?_toList,Array.getElem?_ofFn]
  split
  ·rename_i hi;rw[List.getElem?_eq_getElem hi];rfl
  ·rename_i hi;rw[List.getElem?_eq_none Om];rfl
 have hcj:∀j,j<L0.length->∃h:j<d'.size,d'[j]! = d'[j]:=fun j hj=>⟨Om,getElem!_pos d' j Om⟩
 have hlist:d'.toList.map c=L0.mergeSort (fun x y => !ltOf cf y x):=by
  haveI:Inhabited β:=⟨L0[0]⟩
  have hmj:∀j (hj:j<L0.length),(d'.map c)[j]! = c d'[j]! := fun j hj=>by
   rw[getElem!_pos _ j (by simpa[hsz'] using hj),getElem!_pos d' j Om,Array.getElem_map]
  have:=sorted_unique_holds hO hanti L0.toArray (d'.map c) ⟨by simp[hsz'],fun i hi =>?_,?_⟩ (fun i j _ h2 h3 =>?_)
  ·simpa using this
  ·have hi':L0.length<=i:=by rcases hi with h|h;omega;simpa using h
   rw[getElem!_neg _ i (by simp[hsz'];omega),getElem!_neg _ i (by simp;omega)]
  ·have h:=hperm.2.2
   rw[show d'.extract 0 L0.length=d' from by rw[<- hsz'];simp,show d.extract 0 L0.length=d from by rw[<- hds];simp]at h
   have:=h.map c
   rw[hdc]at this
   have e1:(d'.map c).extract 0 L0.toArray.size=d'.map c:=by
    rw[show L0.toArray.size=(d'.map c).size by simp[hsz']];simp
   have e2:L0.toArray.extract 0 L0.toArray.size=L0.toArray:=by simp
   rw[e1,e2]
   simpa using this
  ·have h3':j<L0.length:=by simpa using h3
   rw[hmj j h3',hmj i Om]
   exact Ka i j (Nat.zero_le _) h2 h3'
 have hput:bk V r (.cells true 1 ((L0.mergeSort (fun x y => !ltOf cf y x)).map dv)) (w.putObj r.b (.cells (putCells enc r.s d' cs') ty (0,0))):=by
  refine ⟨ow,zz,putCells enc r.s d' cs',ty,(0,0),World.putObj_heap_same hblk,by simp[putCells,hsz],fun _=>rfl,fun i v hv =>?_⟩
  rw[<- hlist,List.map_map,List.getElem?_map]at hv
  obtain ⟨a,ha1,rfl⟩:=aX hv
  have hi:i<d'.size:=by
   have:=(List.getElem?_eq_some_iff.1 ha1).1;simpa using this
  obtain ⟨v',e1,_⟩:=hcs i (dv L0[i]) (by rw[List.getElem?_map,List.getElem?_eq_getElem Om];rfl)
  refine ⟨a.1.2,?_,a.2⟩
  simp only[putCells,Array.getElem?_mapIdx,e1,Option.map_some]
  rw[if_pos ⟨Om,Om⟩,show i+r.s-r.s=i by omega,getElem!_pos d' i hi]
  rw[Array.getElem?_toList,Array.getElem?_eq_getElem hi]at ha1
  cases ha1;rfl
 have p1:=Post.put (base:=H.length) (M:=[id]) hr hid ho rfl (by rw[hb];rfl) hput (fun _=>List.mem_singleton.2 rfl)
 have hheap:∀b,b<w.heap.size->(sortWorld enc w r.b r.s n1 d' os).heap[b]?=(w.putObj r.b (.cells (putCells enc r.s d' cs') ty (0,0))).heap[b]? := by
  intro b hb1
  simp only[sortWorld,grow,putRow,mapBlock,ahead]
  rw[Array.getElem?_append_left (by simpa using hb1),Array.getElem?_modify]
  by_cases e:r.b=b
  ·subst e
   rw[if_pos rfl,World.putObj_heap_same hblk]
   show Option.map (onCells _) w.heap[r.b]?=_
   rw[hb];rfl
  ·rw[if_neg e,World.putObj_heap_other (Ne.symm e)];rfl
 have p2:=p1.grown (w2:=sortWorld enc w r.b r.s n1 d' os) (by simp[sortWorld,grow,putRow,mapBlock,ahead,World.putObj]) (fun b hb1=>hheap b (by simpa[World.putObj] using hb1)) rfl rfl rfl (by simp[sortWorld,grow,putRow,mapBlock,ahead,World.putObj])
 exact ⟨.tuple #[],.tuple #[],V,_,rfl,.tuple rfl (fun i a b h=>by simp at h),p2,rfl,rfl⟩
end Go.K
namespace Go.Proofs.YthcjliffpebjaaaGreat
open Go Go.K Go.Sort
noncomputable section
attribute [local irreducible] vF
theorem mS{a b:Int}{l m:List Int}:cmpL (a :: l) (b :: m)=if a<b then -1 else if b<a then 1 else cmpL l m:=by
 show (if qh a b≠0 then qh a b else cmpL l m)=_
 unfold qh
 by_cases h1:a<b
 ·simp[h1]
 ·by_cases h2:b<a
  ·simp[h1,h2]
  ·simp[h1,h2]
theorem wG:∀l,cmpL l l=0
 | [] =>rfl
 |a :: l=>by rw[mS,if_neg Om,if_neg Om];exact wG l
theorem cmpL_eq:∀{l m:List Int},cmpL l m=0->l=m
 | [],[],_=>rfl
 | [],_ :: _,h=>by cases h
 |_ :: _,[],h=>by cases h
 |a :: l,b :: m,h=>by
  rw[mS]at h
  split at h
  ·cases h
  ·split at h
   ·cases h
   ·obtain rfl:a=b:=Om
    rw[cmpL_eq h]
theorem eA:∀(l m:List Int),cmpL m l = - cmpL l m
 | [],[] =>rfl
 | [],_ :: _=>rfl
 |_ :: _,[] =>rfl
 |a :: l,b :: m=>by
  rw[mS,mS]
  by_cases h1:a<b
  ·rw[if_neg Om,if_pos h1,if_pos h1];rfl
  ·by_cases h2:b<a
   ·rw[if_pos h2,if_neg h1,if_pos h2]
   ·rw[if_neg h2,if_neg h1,if_neg h1,if_neg h2];exact eA l m
theorem oL:∀{l m n:List Int},cmpL l m<0->cmpL m n<0->cmpL l n<0
 | [],[],_,h,_=>by cases h
 |_ :: _,[],_,h,_=>by cases h
 | [],_ :: _,[],_,k=>by cases k
 | [],_ :: _,_ :: _,_,_=>(by decide:(-1:Int)<0)
 |_ :: _,_ :: _,[],_,k=>by cases k
 |a :: l,b :: m,c :: n,h,k=>by
  rw[mS]at h k ⊢
  by_cases h1:a<b
  ·by_cases h2:b<c
   ·rw[if_pos Om];decide
   ·rw[if_neg h2]at k
    by_cases h3:c<b
    ·rw[if_pos h3]at k;cases k
    ·rw[if_pos Om];decide
  ·rw[if_neg h1]at h
   by_cases h2:b<a
   ·rw[if_pos h2]at h;cases h
   ·rw[if_neg h2]at h
    by_cases h3:b<c
    ·rw[if_pos Om];decide
    ·rw[if_neg h3]at k
     by_cases h4:c<b
     ·rw[if_pos h4]at k;cases k
     ·rw[if_neg h4]at k
      rw[if_neg Om,if_neg Om]
      exact oL h k
theorem Db{l m:List Int}:ltOf cmpL l m=true ↔ cmpL l m<0:=by unfold ltOf;exact decide_eq_true_iff
theorem gT{l m:List Int}:ltOf cmpL l m=false ↔ 0<=cmpL l m:=by unfold ltOf;rw[decide_eq_false_iff_not];omega
theorem Je:SWO (ltOf cmpL) where
 irrefl x:=by rw[gT,wG];exact Int.le_refl _
 trans x y z h k:=by rw[Db]at *;exact oL h k
 ntrans x y z h k:=by
  rw[gT]at *
  rcases Int.lt_or_eq_of_le h with h1|h1
  ·rcases Int.lt_or_eq_of_le k with k1|k1
   ·have:=oL (l:=z) (m:=y) (n:=x) (by rw[eA];omega) (by rw[eA];omega)
    rw[eA]at this;omega
   ·rw[<- cmpL_eq k1.symm];exact h
  ·rw[cmpL_eq h1.symm];exact k
theorem Ld(x y:List Int)(h:ltOf cmpL x y=false)(k:ltOf cmpL y x=false):x=y:=by
 rw[gT]at h k
 rw[eA]at k
 exact cmpL_eq Om
def lz(L:List (List Int)):List (List Int):=L.mergeSort (fun x y => !ltOf cmpL y x)
def dIL(L:List (List Int)):List Value:=L.map dI
theorem mr {P : Program} {f : FuncId} {fn : Func} (hf : P.funcs[f]? = some fn) (hname : (fn.name == "runtime.NumGoroutine") = false) (hb : fn.body.isSome = true) : Enters P f := by
 obtain ⟨c,hc⟩:=Option.isSome_iff_exists.1 hb
 exact enters_of hf hname hc
theorem H9:Enters prog 140:=mr Tryz.func140 (by kernel_rfl) (by kernel_rfl)
theorem H8:Enters prog 141:=mr Tryz.func141 (by kernel_rfl) (by kernel_rfl)
theorem MZ(V:K.Ren)(x:List Int)(v':Value)(h:VR V (dI x) v'):v'.oneCell'=true:=by
 unfold dI at h
 generalize x.length+1=n at h
 cases h <;> rfl
abbrev oP:Type:={l:List Int // l.length<=4294967296}
theorem NX{L:List (List Int)}(h0:0<L.length)(hn:L.length<4611686018427387904)(hL:∀l∈L,l.length<=4294967296){H:Heap}{id:Nat}{tag:Option Nat}(htag:tag=none∨tag=some 1)(hid:H[id]?=some (.cells true 1 (dIL L))) :
  ak prog 140 [.slice (some ⟨id,0,tag⟩) L.length L.length,.func (.func 141) #[] #[]] H [id] (Is (.tuple #[]) (H.set id (.cells true 1 (dIL (lz L))))):=by
 obtain ⟨L0,rfl⟩:∃L0:List oP,L=L0.map (·.1):=⟨L.attach.map (fun p=>⟨p.1,hL p.1 p.2⟩),by rw[List.map_map];exact (List.attach_map_subtype_val L).symm⟩
 rw[List.length_map]at h0 hn ⊢
 have e1:∀M:List oP,dIL (M.map (·.1))=M.map (fun x=>dI x.1):=fun M=>by unfold dIL;rw[List.map_map];rfl
 rw[e1]at hid
 have:=Ff NJ (fun x:oP=>dI x.1) (fun x y:oP=>cmpL x.1 y.1) ⟨fun x=>Je.irrefl x.1,fun x y z=>Je.trans x.1 y.1 z.1,fun x y z=>Je.ntrans x.1 y.1 z.1⟩ (fun x y h k=>Subtype.ext (Ld x.1 y.1 h k)) 141 (fun V x v h=>MZ V x.1 v h) H8 H9
  (fun x y n=>Hg x.1 y.1 x.2 y.2 _) htag h0 hn hid
 have e2:lz (L0.map (·.1))=(L0.mergeSort (fun x y => !ltOf (fun x y:oP=>cmpL x.1 y.1) y x)).map (·.1):=by
  unfold lz
  exact (List.map_mergeSort (f:=fun x:oP=>x.1) (r:=fun x y => !ltOf (fun x y:oP=>cmpL x.1 y.1) y x) (s:=fun x y => !ltOf cmpL y x) (l:=L0) (fun a _ b _=>rfl)).symm
 rw[e2,e1]
 exact this
end
end Go.Proofs.YthcjliffpebjaaaGreat
namespace Go.Proofs.YthcjliffpebjaaaGreat
noncomputable section
attribute [local irreducible] vF
def eo(n s:Nat):Nat->List Int
 |0=>[]
 |x+1=>if bM n s x then eo n s x else eo n s x ++ [((x:Nat):Int)]
def blL(ts:List Cell)(x:Nat):List (List Int):=aE (fun i=>eo ts.length ((bt ts).getD i 0) ts.length) x
def aN(ts:List Cell):List (List Int):=lz (blL ts (bt ts).length)
def kg(L:List (List Int))(i:Int)(y:Nat):Nat:=(L.take y).countP fun l=>decide (i∈l)
def cJ(L:List (List Int))(i:Nat):Int:=if kg L ((i:Nat):Int) L.length=0 then 0 else if kg L ((i:Nat):Int) L.length=L.length then 2 else 1
def cd(L:List (List Int))(n x:Nat):List Int:=aE (fun i=>if i<x then cJ L i else 0) n
def aF(l:List Report)(m:af)(now:Int):List (List Int)×Int :=
 if av l m now=0 then (aN (told l m now),0) else ([],av l m now)
def a6(l:List Report)(m:af)(now:Int):List Int×Int :=
 if av l m now=0 then (cd (aN (told l m now)) l.length l.length,0) else ([],av l m now)
abbrev jbg(qB0:af)(qC0:List Cell):List Value:=[nI qB0.up.ae,nI qB0.up.ab,nI qB0.up.aa,nI qB0.up.ac,nI qB0.down.ae,nI qB0.down.ab,nI qB0.down.aa,nI qB0.down.ac,slQ 1 1 qC0.length]
abbrev jb6(qB0:af)(qC0:List Cell):ah:=.cells false 0 (jbg qB0 qC0)
abbrev jbq(ts:List Cell):Int:=((bt ts).length:Nat)
abbrev jbk(ts:List Cell):Prop:=eR (pt 0)/\eR (.slice none 0 0)/\wR (slQ 2 1 (bt ts).length)/\eR (nI (jbq ts))/\True
abbrev jbd(ts:List Cell)(J:Nat):Prop:=eR (nI (jbq ts))/\wR (slQ 2 1 (bt ts).length)/\eR (.slice none 0 0)/\eR (pt 0)/\wR (slQ 3 1 J)/\eR (nI (J:Int))/\eR (nI ((((bt ts).getD J 0):Nat):Int))/\eR (nI ((ts.length:Nat):Int))/\True
abbrev jbi(ts:List Cell)(J U:Nat):=eo ts.length ((bt ts).getD J 0) U
abbrev jbb(qC0:List Cell)(qn0 qn1:Nat):ah:=.cells true 1 ((eo qC0.length ((bt qC0).getD qn0 0) qn1).flatMap aA)
abbrev jb2(qC0:List Cell)(qn0 qn1:Nat):List Value:=[.iface ((eo qC0.length ((bt qC0).getD qn0 0) qn1).length+1) (.agg ⟨((eo qC0.length ((bt qC0).getD qn0 0) qn1).flatMap aA)⟩)]
def Eo(m:af)(ts:List Cell):Prop :=
 (n2q 2 0 (jb6 m ts) 1 (.cells false 0 (ts.flatMap cellC)) 138 [pt 0] (slQ 2 1 (bt ts).length) [(.cells true 1 ((bt ts).flatMap jb):ah)] (lq (0<=List.length (bt ts)) (true=true/\((nI 0:Value)=nI ((0:Nat):Int)/\wk (.slice none 0 0:Value) (slQ 0 1 0:Value)/\jbk ts)/\(True)/\(True/\True)/\(True)) (∀J:Nat,(J<=List.length (bt ts))->(fk (decide ((J:Int)<(jbq ts))) (((0:Int)<=(J:Int)/\(J:Int)<(jbq ts))/\((((bt ts).flatMap jb)[(0+Int.toNat (J:Int)*1)]?=some (nI ((((bt ts).getD J 0):Nat):Int)))/\(lq (0<=List.length ts) (true=true/\((nI 0:Value)=nI ((0:Nat):Int)/\wk (.slice none 0 0:Value) (slQ 0 1 (eo ts.length ((bt ts).getD J 0) 0).length:Value)/\jbd ts J)/\(True)/\(True/\True)/\(True)) (∀U:Nat,(U<=List.length ts)->(fk (decide ((U:Int)<((ts.length:Nat):Int))) (∃i_2:Int,(c2q 5 0 (jb6 m ts) 1 (.cells false 0 (ts.flatMap cellC)) 135 [pt 0,nI (U:Int)] (nI i_2) (∃i_3:Int,bw (IntKind.wrap .i64 ((BitVec.ofInt (IntKind.bits .i64) ((((bt ts).getD J 0):Nat):Int) &&& BitVec.ofInt (IntKind.bits .i64) i_2).toNat:Nat)) i_3/\(fk ((i_3:Int) == 0) (apq (jbi ts J U).length 8 1 ((jbi ts J U).flatMap aA) [nI (U:Int)] (nw ((U:Int)+1) (∃aQ:Nat,(aQ<=List.length ts)/\(List.length ts-aQ)<(List.length ts-U)/\true=true/\((nI ((U:Int)+1):Value)=nI (aQ:Int)/\wk (slN 6 ((jbi ts J U).length+1):Value) (slQ 6 1 (eo ts.length ((bt ts).getD J 0) aQ).length:Value)/\jbd ts J)/\(True)/\((kbq 4 (.cells true 1 (((((jbi ts J U).flatMap aA).drop 0).take ((jbi ts J U).length*1))++((([nI (U:Int)]:List Value).drop 0).take (1*1)))) (jbb ts J aQ))/\True)/\(True)))) (nw ((U:Int)+1) (∃aQ:Nat,(aQ<=List.length ts)/\(List.length ts-aQ)<(List.length ts-U)/\true=true/\((nI ((U:Int)+1):Value)=nI (aQ:Int)/\wk (slQ 4 1 (jbi ts J U).length:Value) (slQ 4 1 (eo ts.length ((bt ts).getD J 0) aQ).length:Value)/\jbd ts J)/\(True)/\((kbq 4 (jbb ts J U) (jbb ts J aQ))/\True)/\(True))))))) (((J+1)*24<=2 ^ 44/\1≠0/\(J<=J/\0+J*1<=List.length (dIL (blL ts J)))/\(1<=1/\0+1*1<=List.length (jb2 ts J U))/\((((jb2 ts J U).drop 0).take (1*1)):List Value).all (fun v=>dS v)=true)/\true=true/\(nw ((J:Int)+1) (∃bH:Nat,(bH<=List.length (bt ts))/\(List.length (bt ts)-bH)<(List.length (bt ts)-J)/\true=true/\((nI ((J:Int)+1):Value)=nI (bH:Int)/\wk (slN 6 (J+1):Value) (slQ 6 1 bH:Value)/\jbk ts)/\(True)/\((kbq 3 (.cells true 1 ((((dIL (blL ts J)).drop 0).take (J*1))++(((jb2 ts J U).drop 0).take (1*1)))) (.cells true 1 (dIL (blL ts bH))))/\True)/\(True))))))))) (((C0 (.cells true 1 (dIL (blL ts J))))/\True)/\(∀H':Heap,H'.length=4->(H'[3]?=some (.cells true 1 (dIL (blL ts J)):ah)/\True)->ak prog 140 [slQ 3 1 J,.func (.func 141) #[] #[]] H' [3] (Is (.tuple #[]) (List.set H' 3 (.cells true 1 (dIL (lz (blL ts J))):ah))))/\(true=true/\wk (slQ 3 1 J:Value) (rn (sg 2 [(2,3)]) 3 (slQ 2 1 (aN ts).length:Value))/\((kbq 2 (.cells true 1 (dIL (lz (blL ts J)))) (.cells true 1 (dIL (aN ts))))/\True)))))))
abbrev jb4(qB0:af)(qC0:List Cell):=aH 0 [(jbg qB0 qC0),qC0.flatMap cellC]
abbrev jb5(qB0:af)(qC0:List Cell):Nat×ah:=(0,.cells false 0 (jbg qB0 qC0))
theorem KO(m:af)(ts:List Cell):vE 87 [pt 0] (jb4 m ts) (some [])
 (.go 2 (.ans [(jb5 m ts),(1,.cells false 0 (ts.flatMap cellC))] (slQ 2 1 (bt ts).length) [.cells true 1 ((bt ts).flatMap jb)] (.go 1 (.inv 3 (Nat) (0) [] [] (fun J=>[(11,nI (J:Int)),(3,slQ 3 1 J),(0,pt 0),(2,.slice none 0 0),(9,slQ 2 1 (bt ts).length),(10,nI (jbq ts))]) (fun J=>[]) (fun J=>[(true,.cells true 1 (dIL (blL ts J)))]) (fun J=>[]) (fun J=>(J<=List.length (bt ts))) (fun J=>(List.length (bt ts)-J)) (fun J => .go 0 (.fork (.need (.val (nI ((((bt ts).getD J 0):Nat):Int)) (.go 7 (.inv 3 (Nat) (0) [] [] (fun U=>[(20,nI (U:Int)),(6,slQ 4 1 (jbi ts J U).length),(10,nI (jbq ts)),(9,slQ 2 1 (bt ts).length),(2,.slice none 0 0),(0,pt 0),(3,slQ 3 1 J),(11,nI (J:Int)),(5,nI ((((bt ts).getD J 0):Nat):Int)),(19,nI ((ts.length:Nat):Int))]) (fun U=>[]) (fun U=>[(true,.cells true 1 ((jbi ts J U).flatMap aA))]) (fun U=>[]) (fun U=>(U<=List.length ts)) (fun U=>(List.length ts-U)) (fun U => .go 0 (.fork (.go 4 (.bind (Int) (fun r3 => .ans [(jb5 m ts),(1,.cells false 0 (ts.flatMap cellC))] (nI r3) [] (.go 0 (.bind Int (fun i_2 => .slot 27 (nI i_2) (.go 0 (.fork (.go 2 (.need (.go 1 (.slot 33 (nI ((U:Int)+1)) (.go 0 (.again [(4,6)])))))) (.go 0 (.slot 33 (nI ((U:Int)+1)) (.go 0 (.again [(4,4)])))))))))))) (.frz [6] (.go 2 (.need (.go 1 (.slot 38 (nI ((J:Int)+1)) (.go 0 (.again [(3,6)]))))))))))))) (.go 0 (.Iq [(3,.cells true 1 (dIL (blL ts J)))] (.tuple #[]) [(3,.cells true 1 (dIL (lz (blL ts J))))] [] (.go 1 (.again [(2,3)]))))))))))
 (er ((jb4 m ts):HT).n 3 (slQ 2 1 (aN ts).length) [(true,.cells true 1 (dIL (aN ts)))])=Eo m ts:=by kernel_rfl
abbrev jbo(l:List Report):ah:=.cells false 0 (l.flatMap ai)
abbrev jbl(l:List Report)(m:af)(now:Int):List Value:=[slQ 0 2 l.length,(ao m),nI now]
abbrev jbp:Value:=.tuple #[pt 2,nI 0]
abbrev jbf(qB0:af)(qA0:List Report)(qi0:Int):List Value:=[nI qB0.up.ae,nI qB0.up.ab,nI qB0.up.aa,nI qB0.up.ac,nI qB0.down.ae,nI qB0.down.ab,nI qB0.down.aa,nI qB0.down.ac,slQ 3 1 (told qA0 qB0 qi0).length]
abbrev jb7(qB0:af)(qA0:List Report)(qi0:Int):ah:=.cells true 0 (jbf qB0 qA0 qi0)
abbrev jb9(qB0:af)(qA0:List Report)(qi0:Int):ah:=.cells true 0 (jbf qB0 qA0 qi0)
abbrev jbe(l:List Report)(m:af)(now:Int):=aN (told l m now)
def IV(l:List Report)(m:af)(now:Int):Prop :=
 (ck (av l m now=0) (n1q 2 0 (jbo l) 79 (jbl l m now) jbp [(jb7 m l now),(.cells true 8 ((told l m now).flatMap cellC):ah)] (n2q 4 2 (jb9 m l now) 3 (.cells true 8 ((told l m now).flatMap cellC)) 87 [pt 2] (slQ 4 1 (jbe l m now).length) [(.cells true 1 (dIL (jbe l m now)):ah)] (true=true/\wk (.tuple #[slQ 4 1 (jbe l m now).length,nI 0]:Value) (rn (sg 1 [(1,4)]) 3 (.tuple #[slQ 1 1 (List.length (aF l m now).1),nI (aF l m now).2]:Value))/\((kbq 1 (.cells true 1 (dIL (jbe l m now))) (.cells true 1 (dIL (aF l m now).1)))/\True)))) (c1q 2 0 (jbo l) 79 (jbl l m now) (.tuple #[.pointer none,nI (av l m now)]) ((.bool (((av l m now):Int) != 0):Value) = .bool true/\(true=true/\wk (.tuple #[.slice none 0 0,nI (av l m now)]:Value) (rn (sg 1 []) 3 (.tuple #[slQ 1 1 (List.length (aF l m now).1),nI (aF l m now).2]:Value))/\(True/\True)))))
abbrev jbh(m:af)(l:List Report)(now:Int):List ah:=[.cells true 0 [nI m.up.ae,nI m.up.ab,nI m.up.aa,nI m.up.ac,nI m.down.ae,nI m.down.ab,nI m.down.aa,nI m.down.ac,slQ 3 1 (told l m now).length],.cells true 8 ((told l m now).flatMap cellC)]
abbrev jb8(qB0:af)(qA0:List Report)(qi0:Int):Nat×ah:=(2,.cells true 0 (jbf qB0 qA0 qi0))
abbrev jba(qA0:List Report)(qB0:af)(qi0:Int)(qn0:Nat):Hint:=.ans [(0,.cells false 0 (qA0.flatMap ai))] (.tuple #[.pointer none,nI (av qA0 qB0 qi0)]) [] (.go 6 (.slot qn0 (.bool true) (.go 3 (.again []))))
theorem NA(l:List Report)(m:af)(now:Int):vE 21 (jbl l m now) (aH 0 [l.flatMap ai]) (some [])
 (.go 5 (.cas (av l m now=0) (.ans [(0,.cells false 0 (l.flatMap ai))] jbp (jbh m l now) (.go 8 (.ans [(jb8 m l now),(3,.cells true 8 ((told l m now).flatMap cellC))] (slQ 4 1 (jbe l m now).length) [.cells true 1 (dIL (jbe l m now))] (.go 1 (.again [(1,4)]))))) (jba l m now 18)))
 (er ((aH 0 [l.flatMap ai]):HT).n 3 (.tuple #[slQ 1 1 (List.length (aF l m now).1),nI (aF l m now).2]) [(true,.cells true 1 (dIL (aF l m now).1))])=IV l m now:=by kernel_rfl
abbrev jbj(l:List Report):Int:=(l.length:Nat)
abbrev jbn(l:List Report)(m:af)(now:Int):Prop:=eR (.slice none 0 0)/\eR (nI 0)/\wR (slQ 4 1 (jbe l m now).length)/\eR (slN 5 l.length)/\eR (nI (jbj l))/\True
abbrev jbm:Prop:=(True)/\(True)
abbrev jbc(l:List Report)(m:af)(now:Int)(J:Nat):Prop:=eR (nI (jbj l))/\eR (slN 5 l.length)/\wR (slQ 4 1 (jbe l m now).length)/\eR (nI 0)/\eR (.slice none 0 0)/\eR (nI (J:Int))/\eR (nI (J:Int))/\wR (slQ 4 1 (jbe l m now).length)/\eR (nI (((jbe l m now).length:Nat):Int))/\True
abbrev jb1(qA0:List Report)(qB0:af)(qi0:Int)(qn0 qn1:Nat):Int:=((kg (aN (told qA0 qB0 qi0)) (qn0:Int) qn1):Nat)
abbrev jb0(qn0:Nat)(qA0:List Report)(qB0:af)(qi0 qi1:Int):Prop:=((0:Int)<=(qn0:Int)/\(qn0:Int)<((qA0.length:Nat):Int))/\(((0+Int.toNat (qn0:Int)*1)+1<=List.length ((cd (aN (told qA0 qB0 qi0)) qA0.length qn0).flatMap aA))/\true=true/\(nw ((qn0:Int)+1) (∃bH:Nat,(bH<=List.length qA0)/\(List.length qA0-bH)<(List.length qA0-qn0)/\true=true/\((nI ((qn0:Int)+1):Value)=nI (bH:Int)/\eR (.slice none 0 0)/\eR (nI 0)/\wR (slQ 4 1 (aN (told qA0 qB0 qi0)).length)/\eR (slN 5 qA0.length)/\eR (nI ((qA0.length:Nat):Int))/\True)/\((kbq 6 (.cells true 1 (bQ ((cd (aN (told qA0 qB0 qi0)) qA0.length qn0).flatMap aA) (0+Int.toNat (qn0:Int)*1) [nI qi1])) (.cells true 1 ((cd (aN (told qA0 qB0 qi0)) qA0.length bH).flatMap aA)))/\True)/\jbm)))
def IL(l:List Report)(m:af)(now:Int):Prop :=
 (ck (av l m now=0) (n1q 2 0 (jbo l) 79 (jbl l m now) jbp [(jb7 m l now),(.cells true 8 ((told l m now).flatMap cellC):ah)] (n2q 4 2 (jb9 m l now) 3 (.cells true 8 ((told l m now).flatMap cellC)) 87 [pt 2] (slQ 4 1 (jbe l m now).length) [(.cells true 1 (dIL (jbe l m now)):ah)] (((0:Int)<=(jbj l)/\((jbj l):Int)<=(jbj l)/\((jbj l):Int)<2 ^ 62/\8*((jbj l):Int)<=2 ^ 48)/\(lq (0<=List.length l) (true=true/\((nI 0:Value)=nI ((0:Nat):Int)/\jbn l m now)/\((kbq 6 (.cells true 1 (dX [nI 0] l.length)) (.cells true 1 ((cd (jbe l m now) l.length 0).flatMap aA)))/\True)/\jbm) (∀J:Nat,(J<=List.length l)->(fk (decide ((J:Int)<(jbj l))) (lq (0<=List.length (jbe l m now)) (true=true/\((nI 0:Value)=nI ((0:Nat):Int)/\(nI 0:Value)=nI (((kg (jbe l m now) (J:Int) 0):Nat):Int)/\jbc l m now J)/\(True)/\jbm) (∀U:Nat,(U<=List.length (jbe l m now))->(fk (decide ((U:Int)<(((jbe l m now).length:Nat):Int))) (((0:Int)<=(U:Int)/\(U:Int)<(((jbe l m now).length:Nat):Int))/\(((dIL (jbe l m now))[(0+Int.toNat (U:Int)*1)]?=some (.iface (((jbe l m now).getD U []).length+1) (.agg ⟨(((jbe l m now).getD U []).flatMap aA)⟩)))/\(∃c_2:Bool,(c0q 6 89 [.iface (((jbe l m now).getD U []).length+1) (.agg ⟨(((jbe l m now).getD U []).flatMap aA)⟩),nI (J:Int)] (.bool c_2) (fk c_2 (nw ((jb1 l m now J U)+1) (nw ((U:Int)+1) (∃bg:Nat,(bg<=List.length (jbe l m now))/\(List.length (jbe l m now)-bg)<(List.length (jbe l m now)-U)/\true=true/\((nI ((U:Int)+1):Value)=nI (bg:Int)/\(nI ((jb1 l m now J U)+1):Value)=nI (jb1 l m now J bg)/\jbc l m now J)/\(True)/\jbm))) (nw ((U:Int)+1) (∃bg:Nat,(bg<=List.length (jbe l m now))/\(List.length (jbe l m now)-bg)<(List.length (jbe l m now)-U)/\true=true/\((nI ((U:Int)+1):Value)=nI (bg:Int)/\(nI (jb1 l m now J U):Value)=nI (jb1 l m now J bg)/\jbc l m now J)/\(True)/\jbm))))))) (fk (((jb1 l m now J U):Int) == 0) (nw ((J:Int)+1) (∃bH:Nat,(bH<=List.length l)/\(List.length l-bH)<(List.length l-J)/\true=true/\((nI ((J:Int)+1):Value)=nI (bH:Int)/\jbn l m now)/\((kbq 6 (.cells true 1 ((cd (jbe l m now) l.length J).flatMap aA)) (.cells true 1 ((cd (jbe l m now) l.length bH).flatMap aA)))/\True)/\jbm)) (fk (((jb1 l m now J U):Int) == (((jbe l m now).length:Nat):Int)) (jb0 J l m now 2) (jb0 J l m now 1)))))) (true=true/\wk (.tuple #[slN 5 l.length,nI 0]:Value) (rn (sg 1 [(1,5)]) 3 (.tuple #[slQ 1 2 (List.length (a6 l m now).1),nI (a6 l m now).2]:Value))/\((kbq 1 (.cells true 1 ((cd (jbe l m now) l.length J).flatMap aA)) (.cells true 1 (List.flatMap aA (a6 l m now).1)))/\True)))))))) (c1q 2 0 (jbo l) 79 (jbl l m now) (.tuple #[.pointer none,nI (av l m now)]) ((.bool (((av l m now):Int) != 0):Value) = .bool true/\(true=true/\wk (.tuple #[.slice none 0 0,nI (av l m now)]:Value) (rn (sg 1 []) 3 (.tuple #[slQ 1 2 (List.length (a6 l m now).1),nI (a6 l m now).2]:Value))/\(True/\True)))))
abbrev jb3(qn0 qn1 qn2:Nat):Hint:=.go qn0 (.slot qn1 (nI ((qn2:Int)+1)) (.go 0 (.again [])))
theorem Nu(l:List Report)(m:af)(now:Int):vE 24 (jbl l m now) (aH 0 [l.flatMap ai]) (some [])
 (.go 5 (.cas (av l m now=0) (.ans [(0,.cells false 0 (l.flatMap ai))] jbp (jbh m l now) (.go 8 (.ans [(jb8 m l now),(3,.cells true 8 ((told l m now).flatMap cellC))] (slQ 4 1 (jbe l m now).length) [.cells true 1 (dIL (jbe l m now))] (.go 2 (.need (.go 3 (.inv 3 (Nat) (0) [] [5] (fun J=>[(33,nI (J:Int)),(6,.slice none 0 0),(7,nI 0),(10,slQ 4 1 (jbe l m now).length),(11,slN 5 l.length),(32,nI (jbj l))]) (fun J=>[(5,true,.cells true 1 ((cd (jbe l m now) l.length J).flatMap aA))]) (fun J=>[]) (fun J=>[]) (fun J=>(J<=List.length l)) (fun J=>(List.length l-J)) (fun J => .go 0 (.fork (.go 5 (.inv 3 (Nat) (0) [] [] (fun U=>[(38,nI (U:Int)),(13,nI (jb1 l m now J U)),(32,nI (jbj l)),(11,slN 5 l.length),(10,slQ 4 1 (jbe l m now).length),(7,nI 0),(6,.slice none 0 0),(33,nI (J:Int)),(12,nI (J:Int)),(36,slQ 4 1 (jbe l m now).length),(37,nI (((jbe l m now).length:Nat):Int))]) (fun U=>[]) (fun U=>[]) (fun U=>[]) (fun U=>(U<=List.length (jbe l m now))) (fun U=>(List.length (jbe l m now)-U)) (fun U => .go 0 (.fork (.need (.val (.iface (((jbe l m now).getD U []).length+1) (.agg ⟨(((jbe l m now).getD U []).flatMap aA)⟩)) (.go 2 (.bind (Bool) (fun r4 => .ans [] (.bool r4) [] (.fork (.go 1 (.slot 46 (nI ((jb1 l m now J U)+1)) (jb3 1 47 U))) (jb3 0 47 U))))))) (.go 2 (.fork (jb3 0 61 J) (.go 3 (.fork (.go 1 (.need (.need (jb3 0 61 J)))) (.go 1 (.need (.need (jb3 0 61 J)))))))))))) (.go 2 (.again [(1,5)]))))))))))) (jba l m now 24)))
 (er ((aH 0 [l.flatMap ai]):HT).n 3 (.tuple #[slQ 1 2 (List.length (a6 l m now).1),nI (a6 l m now).2]) [(true,.cells true 1 (List.flatMap aA (a6 l m now).1))])=IL l m now:=by kernel_rfl
end
end Go.Proofs.YthcjliffpebjaaaGreat
namespace Go.Proofs.YthcjliffpebjaaaGreat
noncomputable section
attribute [local irreducible] vF dt
theorem dE(n:Nat)(L:List (List Int)):(dIL L).all (aw n)=true:=by
 unfold dIL
 rw[List.all_map,List.all_eq_true]
 intro l _
 exact d8 (AM l)
theorem oX(L:List (List Int)):(lz L).length=L.length:=List.length_mergeSort _
theorem qd(L:List (List Int)):(dIL L).length=L.length:=List.length_map ..
theorem AO(L:List (List Int))(l:List Int):dIL (L ++ [l])=dIL L ++ [dI l]:=List.map_append ..
theorem kc(n s x:Nat):(eo n s x).length<=x:=by
 induction x with
 |zero=>exact Nat.le_refl _
 |succ x ih =>
  unfold eo
  split
  ·omega
  ·rw[aI];simp;omega
theorem sC(ts:List Cell)(x:Nat):(blL ts x).length=x:=bY ..
theorem Im(ts:List Cell)(x:Nat):blL ts (x+1)=blL ts x ++ [eo ts.length ((bt ts).getD x 0) ts.length]:=ew ..
theorem sr{n s x:Nat}(h:bM n s x=true):eo n s (x+1)=eo n s x:=if_pos h
theorem sq{n s x:Nat}(h:¬ bM n s x=true):eo n s (x+1)=eo n s x ++ [((x:Nat):Int)]:=if_neg h
theorem Ks(ts:List Cell)(x:Nat):(bt ts).getD x 0<2 ^ ts.length:=by
 rw[List.getD_eq_getElem?_getD]
 cases h:(bt ts)[x]? with
 |none=>exact Nat.two_pow_pos _
 |some s=>exact ((qk ts _ (Nat.le_refl _)).2 s (List.mem_of_getElem? h)).1
theorem NT{l:List Nat}{x:Nat}(h:x<l.length):(l.flatMap jb)[0+Int.toNat ((x:Nat):Int)*1]?=some (nI (((l.getD x 0:Nat)):Int)) :=
 jA (n:=1) (f:=jb) (d:=0) (c:=0) (k:=x) (fun _=>rfl) h (by rw[Int.toNat_natCast];omega) rfl
theorem Dp(m:af){ts:List Cell}(hn:ts.length<=12){H:Heap}{L:Nat}(hL:H.length=L){w j:Nat}{own dp:Bool}{z z2:Nat}(h1:H[w]?=some (.cells own z (eH m j ts.length)))(h2:H[j]?=some (.cells dp z2 (ts.flatMap cellC))) :
    ak prog F.sf [pt w] H [] (Is (.slice (some ⟨L,0,some 1⟩) (aN ts).length (aN ts).length) (H ++ [.cells true 1 (dIL (aN ts))])):=by
  subst hL
  have key:=fun hc=>Gm (css:=[eH m 1 ts.length,ts.flatMap cellC]) (v:=.slice (some ⟨2,0,some 1⟩) (aN ts).length (aN ts).length) (new:=[(true,.cells true 1 (dIL (aN ts)))]) (Eq.mpr (KO m ts) hc) rfl (by simp[rn,bD])
    (by show ((cY 3 (.cells true 1 (dIL (aN ts))) && true) && true) = true
        rw[Bool.and_true,Bool.and_true];exact (dw (σ:=fun _=>none) (d:=0) (dE 0 _)).2)
    (congrArg (fun q=>[ah.cells true 1 q]) (dw (d:=0) (dE 0 _)).1) (H:=H) [w,j] rfl (lK h1 h2)
  have e1:rn (bT (0 + [eH m 1 ts.length,ts.flatMap cellC].length) H.length) 3 (.slice (some ⟨2,0,some 1⟩) (aN ts).length (aN ts).length) = .slice (some ⟨H.length,0,some 1⟩) (aN ts).length (aN ts).length:=by simp[rn,bT]
  have e2:(List.map (fun x:Bool×ah=>x.2) [(true,ah.cells true 1 (dIL (aN ts)))]).map (rno (bT (0 + [eH m 1 ts.length,ts.flatMap cellC].length) H.length) 3)=[.cells true 1 (dIL (aN ts))] :=
    congrArg (fun q=>[ah.cells true 1 q]) (dw (d:=0) (dE 0 _)).1
  rw[e1,e2]at key
  refine key ?_
  clear key e1 e2
  delta Eo jb6 jbk jbq jbd jbi jbb jb2 jbg nI slQ pt slN C0 fk nw bw eR wR kbq lq apq c2q n2q
  have hne:=qm ts
  have hne1:0<(bt ts).length:=List.length_pos_iff.2 hne
  have hp:=ls hn
  have hag:(bt ts).length<=4096:=Nat.le_trans (mV ts _) hp.2
  have hset:∀x,(bt ts).getD x 0<4096:=fun x=>by have:=Ks ts x;omega
  refine ⟨⟨rfl,rfl,trivial⟩,fun H' hl hd=>wq m hn hl hd.1 hd.2.1,rfl,Nat.zero_le _,?_,fun _=>rfl,?_⟩
  · repeat' first|exact trivial|exact ad _|exact bx _ _ _ (.inl rfl)|refine ⟨rfl,?_⟩|refine ⟨trivial,?_⟩|apply And.intro
  intro x hx
  refine aq (fun h =>?_) (fun h =>?_)
  · have hlt : x < (bt ts).length := Om
    refine ⟨Om,NT hlt,rfl,Nat.zero_le _,?_,fun _=>rfl,?_⟩
    · repeat' first|exact trivial|exact ad _|exact bx _ _ _ (.inl rfl)|refine ⟨rfl,?_⟩|refine ⟨trivial,?_⟩|apply And.intro
    intro y hy
    refine aq (fun h2 =>?_) (fun h2 =>?_)
    · have hb := CA (n := (bt ts).getD x 0) (k := ts.length - 1 - y) (by have := hset x; omega) Om
      have hpk:=ls (k:=ts.length-1-y) Om
      have hol:=kc ts.length ((bt ts).getD x 0) y
      refine ⟨_,⟨rfl,rfl,trivial⟩,fun H' _ hd=>LQ m y hn Om hd.1 hd.2.1,_,iEq hb,cO (fun h3 =>?_) (fun h3 =>?_)⟩
      · have hin:¬ bM ts.length ((bt ts).getD x 0) y=true:=by
          intro hq
          rw[if_pos (show ((bt ts).getD x 0).testBit (ts.length-1-y)=true from hq)]at h3
          omega
        have hl1:=sq hin
        have hl2:(eo ts.length ((bt ts).getD x 0) (y+1)).length=(eo ts.length ((bt ts).getD x 0) y).length+1:=by rw[hl1,aI];rfl
        refine ⟨⟨Om,by decide,⟨Nat.le_refl _,by rw[aK bZ];omega⟩,⟨by decide,Nat.le_refl _⟩,rfl⟩,rfl,ay Om,y+1,Om,Om,?_⟩
        rw[hl2]
        repeat' first|exact ee _ _|(exact congrArg (fun l=>some (ah.cells true 1 l)) (by rw[hl1];exact cF bZ _ ((y:Nat):Int) rfl))|exact trivial|exact ad _|exact eJ Om|refine ⟨rfl,?_⟩|refine ⟨trivial,?_⟩|apply And.intro
      · have hin:bM ts.length ((bt ts).getD x 0) y=true:=by
          cases hq:bM ts.length ((bt ts).getD x 0) y with
          |true=>rfl
          | false =>
            rw[if_neg (show ¬ ((bt ts).getD x 0).testBit (ts.length-1-y)=true from by rw[show ((bt ts).getD x 0).testBit (ts.length-1-y)=false from hq];decide)]at h3
            exact absurd rfl h3
        have hl1:=sr hin
        refine ⟨ay Om,y+1,Om,Om,?_⟩
        rw[hl1]
        repeat' first|exact ee _ _|exact trivial|exact ad _|refine ⟨rfl,?_⟩|refine ⟨trivial,?_⟩|apply And.intro
    · obtain rfl : y = ts.length := Om
      have hd1:=qd (blL ts x)
      have hd2:=sC ts x
      have hs:List.take (x*1) (List.drop 0 (dIL (blL ts x))) ++ [dI (eo ts.length ((bt ts).getD x 0) ts.length)]=dIL (blL ts (x+1)):=by
        rw[Im,AO,List.drop_zero,List.take_of_length_le Om]
      refine ⟨⟨Om,by decide,⟨Nat.le_refl _,Om⟩,⟨by decide,Nat.le_refl _⟩,rfl⟩,rfl,ay Om,x+1,Om,Om,?_⟩
      repeat' first|exact dE _ _|(exact congrArg (fun l=>some (ah.cells true 1 l)) hs)|exact trivial|exact ad _|exact eJ Om|refine ⟨rfl,?_⟩|refine ⟨trivial,?_⟩|apply And.intro
  · obtain rfl : x = (bt ts).length := Om
    have hd2:=sC ts (bt ts).length
    have hsl:=oX (blL ts (bt ts).length)
    refine ⟨⟨rfl,trivial⟩,fun H' _ hd =>?_,?_⟩
    · have := NX (L := blL ts (bt ts).length) Om Om (fun l hl => ?_) (tag := some 1) (.inr rfl) hd.1
      · rw[hd2]at this;exact this
      · obtain ⟨i, _, rfl⟩ := List.mem_map.1 hl
        have:=kc ts.length ((bt ts).getD i 0) ts.length
        omega
    · refine ⟨rfl, ?_, ⟨rfl, dE _ _⟩, trivial⟩
      rw[show (aN ts).length=(bt ts).length from hsl.trans hd2]
      exact ad _
theorem uy{l:List Report}{m:af}{now:Int}(h:¬ av l m now=0):aF l m now=([],av l m now):=if_neg h
theorem ux{l:List Report}{m:af}{now:Int}(h:av l m now=0):aF l m now=(aN (told l m now),0):=if_pos h
theorem uw{l:List Report}{m:af}{now:Int}(h:¬ av l m now=0):a6 l m now=([],av l m now):=if_neg h
theorem uv{l:List Report}{m:af}{now:Int}(h:av l m now=0):a6 l m now=(cd (aN (told l m now)) l.length l.length,0):=if_pos h
theorem LW(l:List Report)(m:af)(now:Int){H:Heap}{L:Nat}(hL:H.length=L){id:Nat}{own:Bool}{z:Nat}(hid:H[id]?=some (.cells own z (l.flatMap ai))) :
    ak prog F.FH [slQ id 2 l.length,ao m,nI now] H []
      (Is (.tuple #[.slice (some ⟨L,0,some 1⟩) (aF l m now).1.length (aF l m now).1.length,nI (aF l m now).2]) (H ++ [.cells true 1 (dIL (aF l m now).1)])):=by
  subst hL
  have key:=fun hc=>rU (css:=[l.flatMap ai]) (v:=.tuple #[.slice (some ⟨1,0,some 1⟩) (aF l m now).1.length (aF l m now).1.length,nI (aF l m now).2]) (new:=[(true,.cells true 1 (dIL (aF l m now).1))]) (Eq.mpr (NA l m now) hc) (cU (b9 0 l)) rfl (by simp[rn,bD])
    (by show ((cY 3 (.cells true 1 (dIL (aF l m now).1)) && true) && true) = true
        rw[Bool.and_true,Bool.and_true];exact (dw (σ:=fun _=>none) (d:=0) (dE 0 _)).2)
    (congrArg (fun q=>[ah.cells true 1 q]) (dw (d:=0) (dE 0 _)).1) (H:=H) [id] rfl (cT hid)
  have e1:rn (bT (0 + [l.flatMap ai].length) H.length) 3 (.tuple #[.slice (some ⟨1,0,some 1⟩) (aF l m now).1.length (aF l m now).1.length,nI (aF l m now).2]) = .tuple #[.slice (some ⟨H.length,0,some 1⟩) (aF l m now).1.length (aF l m now).1.length,nI (aF l m now).2]:=by simp[rn,bT]
  have e2:(List.map (fun x:Bool×ah=>x.2) [(true,ah.cells true 1 (dIL (aF l m now).1))]).map (rno (bT (0 + [l.flatMap ai].length) H.length) 3)=[.cells true 1 (dIL (aF l m now).1)] :=
    congrArg (fun q=>[ah.cells true 1 q]) (dw (d:=0) (dE 0 _)).1
  rw[e1,e2]at key
  refine key ?_
  clear key e1 e2
  delta IV jbo jbl jbp jb7 jb9 jbe jbf nI slQ pt ck kbq c1q n1q n2q
  refine ⟨fun he =>?_,fun he =>?_⟩
  · have hn2 : (told l m now).length <= 12 := by rw [cz]; exact fU he
    rw[ux he]
    repeat' first|(refine ⟨⟨rfl,trivial⟩,fun H' hl hd=>tw l m now he hl hd.1,?_⟩)|(refine ⟨⟨rfl,rfl,trivial⟩,fun H' hl hd=>Dp m hn2 hl hd.1 hd.2.1,?_⟩)|exact dE _ _|exact trivial|exact ad _|refine ⟨rfl,?_⟩|apply And.intro
  · rw [uy he]
    repeat' first|(refine ⟨⟨rfl,trivial⟩,fun H' _ hd=>tz l m now he hd.1,?_⟩)|refine ⟨vbT (bne_iff_ne.2 he),?_⟩|exact trivial|exact ad _|refine aD ?_ ?_|exact bx _ _ _ (.inl rfl)|refine dz ?_|refine ⟨rfl,?_⟩|refine ⟨trivial,?_⟩|apply And.intro
theorem zV(L:List (List Int))(i:Int)(y:Nat):kg L i y<=y:=by
 unfold kg
 exact Nat.le_trans List.countP_le_length (by rw[List.length_take];omega)
theorem t6{L:List (List Int)}{i:Int}{y:Nat}(hy:y<L.length):kg L i (y+1)=kg L i y+if i∈L.getD y [] then 1 else 0:=by
 unfold kg
 rw[List.take_add_one,List.getElem?_eq_getElem hy,List.countP_append,List.getD_eq_getElem?_getD,List.getElem?_eq_getElem hy]
 by_cases h:i∈L[y]
 ·simp[h]
 ·simp[h]
theorem oK{L:List (List Int)}{y:Nat}(hy:y<L.length):(dIL L)[0+Int.toNat ((y:Nat):Int)*1]?=some (dI (L.getD y [])):=by
 unfold dIL
 rw[Int.toNat_natCast,show 0+y*1=y by omega,List.getElem?_map,List.getElem?_eq_getElem hy,List.getD_eq_getElem?_getD,List.getElem?_eq_getElem hy];rfl
theorem rG(L:List (List Int))(n x:Nat):(cd L n x).length=n:=bY ..
theorem FL(L:List (List Int))(n:Nat):(cd L n 0).flatMap aA=dX [nI 0] n:=by
 induction n with
 |zero=>rfl
 |succ n ih =>
  unfold cd at ih ⊢
  rw[ew,List.flatMap_append,ih]
  have:∀k,dX [nI 0] k ++ [nI 0]=nI 0 :: dX [nI 0] k:=by
   intro k
   induction k with
   |zero=>rfl
   |succ k ih=>show nI 0 :: (dX _ k++_)=_;rw[ih];rfl
  exact this n
theorem Ht{xs:List Int}{k:Nat}{v:Int}(h:k<xs.length):bQ (xs.flatMap aA) k [nI v]=(xs.set k v).flatMap aA:=by
 show (xs.flatMap aA).set k (nI v)=_
 have e:∀ys:List Int,ys.flatMap aA=ys.map (fun y=>nI y):=fun ys=>by
  induction ys with
  |nil=>rfl
  |cons y ys ih=>rw[List.flatMap_cons,ih];rfl
 rw[e,e,List.map_set]
theorem yc{L:List (List Int)}{n x:Nat}(h:x<n):cd L n (x+1)=(cd L n x).set x (cJ L x):=by
 refine List.ext_getElem? fun i =>?_
 unfold cd aE
 rw[List.getElem?_set]
 simp only[List.getElem?_map,List.length_map,List.length_range]
 by_cases hi:i<n
 ·rw[List.getElem?_range hi]
  by_cases e:x=i
  ·subst e;simp[h]
  ·simp only[Option.map_some,if_neg e]
   congr 1
   by_cases h1:i<x
   ·rw[if_pos Om,if_pos h1]
   ·rw[if_neg Om,if_neg h1]
 ·rw[List.getElem?_eq_none (by simpa using hi)]
  by_cases e:x=i
  ·omega
  ·simp[if_neg e]
theorem yd{L:List (List Int)}{n x:Nat}(h:cJ L x=0):cd L n (x+1)=cd L n x:=by
 unfold cd aE
 refine List.map_congr_left fun i _ =>?_
 by_cases h1:i<x
 ·rw[if_pos Om,if_pos h1]
 ·by_cases h2:i=x
  ·subst h2;rw[if_pos Om,if_neg h1,h]
  ·rw[if_neg Om,if_neg h1]
theorem my(ts:List Cell):(aN ts).length=(bt ts).length:=(oX _).trans (sC ts _)
theorem lZ{ts:List Cell}{l:List Int}(h:l∈aN ts):∃s∈bt ts,l=eo ts.length s ts.length:=by
 unfold aN lz at h
 rw[List.mem_mergeSort]at h
 obtain ⟨i,hi,rfl⟩:=List.mem_map.1 h
 rw[List.mem_range]at hi
 exact ⟨_,(by rw[List.getD_eq_getElem?_getD,List.getElem?_eq_getElem hi];exact List.getElem_mem hi),rfl⟩
theorem LV(l:List Report)(m:af)(now:Int){H:Heap}{L:Nat}(hL:H.length=L){id:Nat}{own:Bool}{z:Nat}(hid:H[id]?=some (.cells own z (l.flatMap ai))) :
    ak prog F.FF [slQ id 2 l.length,ao m,nI now] H []
      (Is (.tuple #[.slice (some ⟨L,0,some 2⟩) (a6 l m now).1.length (a6 l m now).1.length,nI (a6 l m now).2]) (H ++ [.cells true 1 ((a6 l m now).1.flatMap aA)])):=by
  subst hL
  have key:=fun hc=>rU (css:=[l.flatMap ai]) (v:=.tuple #[.slice (some ⟨1,0,some 2⟩) (a6 l m now).1.length (a6 l m now).1.length,nI (a6 l m now).2]) (new:=[(true,.cells true 1 ((a6 l m now).1.flatMap aA))]) (Eq.mpr (Nu l m now) hc) (cU (b9 0 l)) rfl (by simp[rn,bD])
    (by show ((cY 3 (.cells true 1 ((a6 l m now).1.flatMap aA)) && true) && true) = true
        rw[Bool.and_true,Bool.and_true];exact (dw (σ:=fun _=>none) (d:=0) (ee 0 _)).2)
    (congrArg (fun q=>[ah.cells true 1 q]) (dw (d:=0) (ee 0 _)).1) (H:=H) [id] rfl (cT hid)
  have e1:rn (bT (0 + [l.flatMap ai].length) H.length) 3 (.tuple #[.slice (some ⟨1,0,some 2⟩) (a6 l m now).1.length (a6 l m now).1.length,nI (a6 l m now).2]) = .tuple #[.slice (some ⟨H.length,0,some 2⟩) (a6 l m now).1.length (a6 l m now).1.length,nI (a6 l m now).2]:=by simp[rn,bT]
  have e2:(List.map (fun x:Bool×ah=>x.2) [(true,ah.cells true 1 ((a6 l m now).1.flatMap aA))]).map (rno (bT (0 + [l.flatMap ai].length) H.length) 3)=[.cells true 1 ((a6 l m now).1.flatMap aA)] :=
    congrArg (fun q=>[ah.cells true 1 q]) (dw (d:=0) (ee 0 _)).1
  rw[e1,e2]at key
  refine key ?_
  clear key e1 e2
  delta IL jbo jbl jbp jb7 jb9 jbe jbj jbn jbm jbc jb1 jb0 jbf nI slQ pt slN fk ck nw eR wR kbq lq c0q c1q n1q n2q
  refine ⟨fun he =>?_,fun he =>?_⟩
  · have hn := fU he
    have hn2:(told l m now).length<=12:=by rw[cz];exact hn
    obtain ⟨B,hB⟩:∃B,aN (told l m now)=B:=⟨_,rfl⟩
    have hBl:B.length<=4096:=by rw[<- hB,my];exact Nat.le_trans (mV _ _) (ls hn2).2
    have hBe:∀s∈B,s.length<=12:=by
      rw[<- hB];intro s hs
      obtain ⟨x,_,rfl⟩:=lZ hs
      exact Nat.le_trans (kc ..) hn2
    refine ⟨⟨rfl,trivial⟩,fun H' hl hd=>tw l m now he hl hd.1,⟨rfl,rfl,trivial⟩,fun H' hl hd=>Dp m hn2 hl hd.1 hd.2.1,?_⟩
    rw[hB]
    have hf:a6 l m now=(cd B l.length l.length,0):=by rw[uv he,hB]
    rw[hf]
    refine ⟨⟨Om,Om,Om,Om⟩,rfl,Nat.zero_le _,?_,fun _=>rfl,?_⟩
    · repeat' first|exact ee _ _|(exact congrArg (fun l=>some (ah.cells true 1 l)) (FL B _).symm)|exact trivial|exact ad _|refine ⟨rfl,?_⟩|refine ⟨trivial,?_⟩|apply And.intro
    intro x hx
    have hgl:=rG B l.length x
    refine aq (fun h =>?_) (fun h =>?_)
    · have hlt : x < l.length := Om
      refine ⟨rfl,Nat.zero_le _,?_,fun _=>rfl,?_⟩
      · repeat' first|exact trivial|exact ad _|refine ⟨rfl,?_⟩|refine ⟨trivial,?_⟩|apply And.intro
      intro y hy
      have hic:=zV B ((x:Nat):Int) y
      refine aq (fun h2 =>?_) (fun h2 =>?_)
      · have hlt2 : y < B.length := Om
        have hsu:=t6 (i:=((x:Nat):Int)) hlt2
        have hle:(B.getD y []).length<=4294967296:=by
          rw[List.getD_eq_getElem?_getD,List.getElem?_eq_getElem hlt2]
          have:=hBe _ (List.getElem_mem hlt2)
          show (B[y]).length<=_
          omega
        refine ⟨Om,oK hlt2,_,trivial,fun H' _ _=>Fh _ _ hle H',aq (fun h3 =>?_) (fun h3 =>?_)⟩
        · rw [if_pos h3] at hsu
          refine ⟨ay Om,ay Om,y+1,Om,Om,?_⟩
          rw[hsu]
          repeat' first|exact trivial|exact ad _|refine ⟨rfl,?_⟩|refine ⟨trivial,?_⟩|apply And.intro
        · rw [if_neg h3] at hsu
          refine ⟨ay Om,y+1,Om,Om,?_⟩
          rw[hsu]
          repeat' first|exact trivial|exact ad _|refine ⟨rfl,?_⟩|refine ⟨trivial,?_⟩|apply And.intro
      · obtain rfl : y = B.length := Om
        have hst:∀v,cJ B x=v->bQ (List.flatMap aA (cd B l.length x)) (0+(((x:Nat):Int)).toNat*1) [nI v]=List.flatMap aA (cd B l.length (x+1)):=by
          intro v hv
          rw[Int.toNat_natCast,show 0+x*1=x by omega,Ht Om,yc hlt,hv]
        have hfl:(List.flatMap aA (cd B l.length x)).length=l.length:=by rw[aK bZ];omega
        have hx1:0+(((x:Nat):Int)).toNat*1+1<=l.length:=by rw[Int.toNat_natCast];omega
        refine cO (fun h3 =>?_) (fun h3=>cO (fun h4 =>?_) (fun h4 =>?_))
        · have hg : cJ B x = 0 := if_pos Om
          refine ⟨ay Om,x+1,Om,Om,?_⟩
          rw[yd hg]
          repeat' first|exact ee _ _|exact trivial|exact ad _|refine ⟨rfl,?_⟩|refine ⟨trivial,?_⟩|apply And.intro
        · have hg : cJ B x = 2 := (if_neg Om).trans (if_pos Om)
          refine ⟨Om,by rw[hfl];exact hx1,rfl,ay Om,x+1,Om,Om,?_⟩
          rw[hst 2 hg]
          repeat' first|exact ee _ _|exact trivial|exact ad _|refine ⟨rfl,?_⟩|refine ⟨trivial,?_⟩|apply And.intro
        · have hg : cJ B x = 1 := (if_neg Om).trans (if_neg Om)
          refine ⟨Om,by rw[hfl];exact hx1,rfl,ay Om,x+1,Om,Om,?_⟩
          rw[hst 1 hg]
          repeat' first|exact ee _ _|exact trivial|exact ad _|refine ⟨rfl,?_⟩|refine ⟨trivial,?_⟩|apply And.intro
    · obtain rfl : x = l.length := Om
      repeat' first|exact ee _ _|(exact (by rw[hgl];exact sF))|exact trivial|exact ad _|refine aD ?_ ?_|refine dz ?_|refine ⟨rfl,?_⟩|apply And.intro
  · rw [uw he]
    repeat' first|(refine ⟨⟨rfl,trivial⟩,fun H' _ hd=>tz l m now he hd.1,?_⟩)|refine ⟨vbT (bne_iff_ne.2 he),?_⟩|exact bx _ _ _ (.inr rfl)|exact trivial|exact ad _|refine aD ?_ ?_|refine dz ?_|refine ⟨rfl,?_⟩|refine ⟨trivial,?_⟩|apply And.intro
end
end Go.Proofs.YthcjliffpebjaaaGreat
