/- Operations that write over memory as a tree; operations whose conditions are asked for. No condition. -/
import Derived.Test.YtmecpfikljhjaaaGreatDoorGK15xV2
import Derived.Test.YtmecpfikljhjaaaGreatDoorGK12xK14
open Go Go.K
set_option linter.unusedVariables false
set_option linter.unusedSimpArgs false
namespace Go.K
noncomputable section
def kw(P:Program)(n:Nat)(len:Nat)(x:Value)(h:HT):Option (List Value) :=
 match deq x with
 | .slice none _ _=>if len=0 then some [] else none
 | .slice (some ⟨id,off,none⟩) l _ =>
  match h.get id with
  |some (.cells _ _ cs)=>if len<=l/\off+len*n<=cs.length then some ((cs.drop off).take (len*n)) else none
  |_=>none
 |_=>none
theorem nz(P:Program)(n len:Nat)(x:Value)(h:HT):kw P n len x h=cL P n len x h.list:=by
 unfold kw cL
 simp only[HT.aj]
 rfl
def nB(P:Program)(t:TypeId)(s x:Value)(h:HT):Option (Value×HT×List Nat) :=
 match P.underlying t,s,x with
 |some (.slice el),.slice base len cap,.slice xb m xc =>
  match aO P el,hX P el with
  |some (n+1),some by_ =>
   if (len+m)*by_<=2 ^ 44/\1<=by_/\by_<=2 ^ 16 then
    if m=0 then some (s,h,[]) else
    match kw P (n+1) len s h,kw P (n+1) m x h,(dD P el) with
    |some old,some new,some z =>
     if z.cells.toList.length=n+1/\new.all (fun v=>dz v) then
     match base with
     |none=>some (.slice (some ⟨h.n,0,none⟩) (len+m) (len+m),h.push (.cells true (n+1) (old++new)),[])
     |some ⟨id,off,none⟩ =>
      match h.get id with
      |some (.cells true zz _)=>if zz=n+1 then
        some (.slice (some ⟨h.n,0,none⟩) (len+m) (len+m),(h.set id .dead).push (.cells true (n+1) (old++new)),[id]) else none
      |_=>none
     |some ⟨id,off,some 1⟩ =>
      match h.get id with
      |some (.cells true zz _)=>if zz=n+1 then
        some (.slice (some ⟨h.n,0,none⟩) (len+m) (len+m),(h.set id .dead).push (.cells true (n+1) (old++new)),[id]) else none
      |_=>none
     |_=>none
     else none
    |_,_,_=>none
   else none
  |_,_=>none
 |_,_,_=>none
abbrev fc(r:Value×HT×List Nat):Value×Heap×List Nat:=(r.1,r.2.1.list,r.2.2)
theorem nA{P:Program}{t:TypeId}{s x:Value}{h:HT}{r:Value×HT×List Nat}(hk:nB P t s x h=some r):hZ P t s x h.list=some (fc r):=by
 unfold nB at hk
 unfold hZ
 split at hk <;> try (cases hk;done)
 rename_i el base len cap xb m xc h1
 simp only[h1]
 split at hk <;> try (cases hk;done)
 rename_i n by_ h2 h3
 simp only[h2,h3]
 split at hk <;> try (cases hk;done)
 rename_i hc
 rw[if_pos hc]
 split at hk
 ·rename_i hm;rw[if_pos hm];cases hk;rfl
 ·rename_i hm
  rw[if_neg hm]
  simp only[<- nz]
  split at hk <;> try (cases hk;done)
  rename_i old new z g1 g2 g3
  simp only[g1,g2,g3]
  split at hk <;> try (cases hk;done)
  rename_i hd
  rw[if_pos hd]
  split at hk
  ·cases hk;simp only[HT.aW,HT.length,fc]
  ·rename_i id off
   simp only[HT.aj]
   split at hk <;> try (cases hk;done)
   rename_i zz cs g4
   simp only[g4]
   split at hk <;> try (cases hk;done)
   rename_i hz
   rw[if_pos hz]
   cases hk
   simp only[HT.aW,HT.aC,HT.length,fc]
  ·rename_i id off
   simp only[HT.aj]
   split at hk <;> try (cases hk;done)
   rename_i zz cs g4
   simp only[g4]
   split at hk <;> try (cases hk;done)
   rename_i hz
   rw[if_pos hz]
   cases hk
   simp only[HT.aW,HT.aC,HT.length,fc]
  ·cases hk
def qF(P:Program)(t:TypeId)(a v:Value)(h:HT):Option (HT×List Nat) :=
 match a with
 | .pointer (some ⟨id,off,none⟩) =>
  match h.get id with
  |some (.cells true z cs) =>
   match aO P t with
   |some n=>if v.cells.toList.length=n/\off+n<=cs.length/\v.cells.toList.all (fun v=>dz v) then
     some (h.set id (.cells true z (ba cs off v.cells.toList)),[id]) else none
   |none=>none
  |_=>none
 |_=>none
theorem oM{P:Program}{t:TypeId}{a v:Value}{h:HT}{r:HT×List Nat}(hk:qF P t a v h=some r):jP P t a v h.list=some (r.1.list,r.2):=by
 unfold qF at hk
 unfold jP
 split at hk <;> try (cases hk;done)
 rename_i id off
 simp only[HT.aj]
 split at hk <;> try (cases hk;done)
 rename_i z cs g1
 simp only[g1]
 split at hk <;> try (cases hk;done)
 rename_i n g2
 simp only[g2]
 split at hk <;> try (cases hk;done)
 rename_i hc
 rw[if_pos hc]
 cases hk
 simp only[HT.aC]
def vo(P:Program)(t:TypeId)(d s:Value)(h:HT):Option (Value×HT×List Nat) :=
 match P.underlying t,d,s with
 |some (.slice el),.slice base len cap,.slice sb m sc =>
  match aO P el with
  |some n =>
   match kw P n (min m len) s h with
   |some new =>
    match base with
    |none=>some (.int .i64 (min m len:Nat),h,[])
    |some ⟨id,off,none⟩ =>
     match h.get id with
     |some (.cells true z cs)=>if off+(min m len)*n<=cs.length/\new.all (fun v=>dz v) then
       some (.int .i64 (min m len:Nat),h.set id (.cells true z (ba cs off new)),[id]) else none
     |_=>none
    |_=>none
   |none=>none
  |none=>none
 |_,_,_=>none
theorem qR{P:Program}{t:TypeId}{d s:Value}{h:HT}{r:Value×HT×List Nat}(hk:vo P t d s h=some r):pL P t d s h.list=some (fc r):=by
 unfold vo at hk
 unfold pL
 split at hk <;> try (cases hk;done)
 rename_i el base len cap sb m sc h1
 simp only[h1]
 split at hk <;> try (cases hk;done)
 rename_i n h2
 simp only[h2,<- nz]
 split at hk <;> try (cases hk;done)
 rename_i new h3
 simp only[h3]
 split at hk
 ·cases hk;rfl
 ·rename_i id off
  simp only[HT.aj]
  split at hk <;> try (cases hk;done)
  rename_i z cs g1
  simp only[g1]
  split at hk <;> try (cases hk;done)
  rename_i hc
  rw[if_pos hc]
  cases hk
  simp only[HT.aC,fc]
 ·cases hk
def qS(P:Program)(t:TypeId)(x:Value)(h:HT):Option (Value×HT×List Nat) :=
 match P.underlying t,x with
 |some (.slice el),.slice base len cap =>
  match aO P el,dD P el with
  |some n,some z =>
   match base with
   |none=>some (undef,h,[])
   |some ⟨id,off,_⟩ =>
    match h.get id with
    |some (.cells true zz cs)=>if off+len*n<=cs.length/\z.cells.toList.length=n/\z.cells.toList.all (fun v=>dz v) then some (undef,h.set id (.cells true zz (ba cs off (cM z.cells.toList len))),[id]) else none
    |_=>none
  |_,_=>none
 |_,_=>none
theorem oO{P:Program}{t:TypeId}{x:Value}{h:HT}{r:Value×HT×List Nat}(hk:qS P t x h=some r):lv P t x h.list=some (fc r):=by
 unfold qS at hk
 unfold lv
 split at hk <;> try (cases hk;done)
 rename_i el base len cap g1
 simp only[g1]
 split at hk <;> try (cases hk;done)
 rename_i n z g2 g3
 simp only[g2,g3]
 split at hk
 ·cases hk;rfl
 ·rename_i id off tag
  simp only[HT.aj]
  split at hk <;> try (cases hk;done)
  rename_i zz cs g4
  simp only[g4]
  split at hk <;> try (cases hk;done)
  rename_i hc
  rw[if_pos hc]
  cases hk
  simp only[HT.aC,fc]
def np(P:Program)(t:TypeId)(m key v:Value)(h:HT):Option (HT×List Nat) :=
 match P.underlying t with
 |some (.map kt _) =>
  match dF P kt key,m with
  |true,.map (some id)=>match h.get id with
   |some (.map es)=>match lO P kt key v es with
    |some es'=>some (h.set id (.map es'),[id])
    |none=>none
   |_=>none
  |_,_=>none
 |_=>none
theorem nn{P:Program}{t:TypeId}{m key v:Value}{h:HT}{r:HT×List Nat}(hk:np P t m key v h=some r):jg P t m key v h.list=some (r.1.list,r.2):=by
 unfold np at hk
 unfold jg
 split at hk <;> try (cases hk;done)
 rename_i kt el g1
 simp only[g1]
 split at hk <;> try (cases hk;done)
 rename_i id g2
 simp only[g2,HT.aj]
 split at hk <;> try (cases hk;done)
 rename_i es g3
 simp only[g3]
 split at hk <;> try (cases hk;done)
 rename_i es' g4
 cases hk
 simp only[g4,Option.map_some,HT.aC]
def qE(P:Program)(o:Op)(e:Operand->Value)(h:HT):Option (Value×HT×List Nat) :=
 match o with
 | .store t a v=>(qF P t (e a) (e v) h).map fun r=>(undef,r.1,r.2)
 | .call ⟨.builtin .append,⟨[s,x]⟩,⟨[t,u]⟩⟩=>match P.underlying u with
  |some (.slice _)=>nB P t (e s) (e x) h
  |_=>none
 | .call ⟨.builtin .copy,⟨[d,s]⟩,⟨t :: _⟩⟩=>vo P t (e d) (e s) h
 | .call ⟨.builtin .clear,⟨[x]⟩,⟨t :: _⟩⟩=>qS P t (e x) h
 | .mapUpdate t m k v=>(np P t (e m) (e k) (e v) h).map fun r=>(undef,r.1,r.2)
 |_=>none
theorem oL{P:Program}{o:Op}{e:Operand->Value}{h:HT}{r:Value×HT×List Nat}(hk:qE P o e h=some r):dd P o e h.list=some (fc r):=by
 unfold qE at hk
 split at hk
 all_goals simp only[dd]
 ·obtain ⟨r',h1,rfl⟩:=Option.map_eq_some_iff.1 hk
  rw[oM h1];rfl
 ·split at hk <;> try (cases hk;done)
  rename_i g
  simp only[g]
  exact nA hk
 ·exact qR hk
 ·exact oO hk
 ·obtain ⟨r',h1,rfl⟩:=Option.map_eq_some_iff.1 hk
  rw[nn h1];rfl
 ·cases hk
def ji(v:Option Value)(d m:Nat):Option (Prop×Nat) :=
 match v with
 |none=>some (d<=m,d)
 |some (.int _ i)=>some (0<=i/\i<=m,i.toNat)
 |_=>none
theorem eV{v:Option Value}{d m n:Nat}{c:Prop}(h:ji v d m=some (c,n))(hc:c):fi v d m=some n:=by
 unfold ji at h
 unfold fi
 split at h
 ·cases h;rfl
 ·cases h;simp only[];rw[if_pos hc]
 ·cases h
def AA(P:Program)(o:Op)(e:Operand->Value)(h:HT):Option (Prop×Value×Option Nat) :=
 match o with
 | .indexAddr t x i =>
  match P.underlying t,deq (e x),e i with
  |some (.slice el),.slice (some ⟨id,off,none⟩) len _,.int _ i =>
   match aO P el with
   |some n=>some (0<=i/\i<len,.pointer (some ⟨id,off+i.toNat*n,none⟩),none)
   |none=>none
  |some (.array len el),.pointer (some ⟨id,off,none⟩),.int _ i =>
   match aO P el with
   |some n=>some (0<=i/\i<len,.pointer (some ⟨id,off+i.toNat*n,none⟩),none)
   |none=>none
  |some (.slice el),.iface (len+1) (.agg cs),.int _ i =>
   match aO P el with
   |some n=>some (0<=i/\i<len,.iface (i.toNat*n) (.tuple cs),none)
   |none=>none
  |some (.array len el),.iface off (.tuple cs),.int _ i =>
   match aO P el with
   |some n=>some (0<=i/\i<len,.iface (off+i.toNat*n) (.tuple cs),none)
   |none=>none
  |_,_,_=>none
 | .slice t x lo hi none =>
  match P.underlying t,e x with
  |some (.slice el),.slice (some ⟨id,off,none⟩) len cap =>
   match aO P el,ji (hi.map e) len cap with
   |some n,some (c1,h') =>
    match ji (lo.map e) 0 h' with
    |some (c2,l) =>
     match h.get id with
     |some (.cells own z _)=>some ((own=false∨z=0∨z=n)/\c1/\c2,.slice (some ⟨id,off+l*n,none⟩) (h'-l) (cap-l),some id)
     |_=>none
    |none=>none
   |_,_=>none
  |some (.slice el),.slice (some ⟨id,off,some (_+1)⟩) len cap =>
   match aO P el,ji (hi.map e) len cap with
   |some n,some (c1,h') =>
    match ji (lo.map e) 0 h' with
    |some (c2,l) =>
     match h.get id with
     |some (.cells own z _)=>some (((own=false∨z=0∨z=n)/\h'<=len)/\c1/\c2,.slice (some ⟨id,off+l*n,some 2⟩) (h'-l) (h'-l),some id)
     |_=>none
    |none=>none
   |_,_=>none
  |_,_=>none
 | .binOp op t x y _ =>
  match op,e x,e y with
  | .quo,.int k a,.int k' b=>match decide (k=k') with|true=>some (b≠0,.int k (k.wrap (a.tdiv b)),none)|false=>none
  | .rem,.int k a,.int k' b=>match decide (k=k') with|true=>some (b≠0,.int k (a.tmod b),none)|false=>none
  | .shl,.int k a,.int k' b=>some (0<=b,.int k (k.wrap (a*2 ^ min b.toNat k.bits)),none)
  | .shr,.int k a,.int k' b=>some (0<=b,.int k (a.fdiv (2 ^ min b.toNat k.bits)),none)
  |_,_,_=>none
 |_=>none
theorem sY{P:Program}{o:Op}{e:Operand->Value}{h:HT}{c:Prop}{v:Value}{rd:Option Nat}(hk:AA P o e h=some (c,v,rd))(hc:c):cO P o e h.list=some (v,rd):=by
 unfold AA at hk
 split at hk
 ·split at hk <;> try (cases hk;done)
  ·rename_i g1 g2 g3
   split at hk <;> try (cases hk;done)
   rename_i n g4
   cases hk
   exact (by simp only[cO,dt,cC,g1,g2,g3,g4];rw[if_pos hc];rfl)
  ·rename_i g1 g2 g3
   split at hk <;> try (cases hk;done)
   rename_i n g4
   cases hk
   exact (by simp only[cO,dt,cC,g1,g2,g3,g4];rw[if_pos hc];rfl)
  ·rename_i g1 g2 g3
   split at hk <;> try (cases hk;done)
   rename_i n g4
   cases hk
   exact (by simp only[cO,dt,cC,g1,g2,g3,g4];rw[if_pos hc];rfl)
  ·rename_i g1 g2 g3
   split at hk <;> try (cases hk;done)
   rename_i n g4
   cases hk
   exact (by simp only[cO,dt,cC,g1,g2,g3,g4];rw[if_pos hc];rfl)
 ·split at hk <;> try (cases hk;done)
  ·rename_i el id off len cap g1 g2
   split at hk <;> try (cases hk;done)
   rename_i n c1 h' g3 g4
   split at hk <;> try (cases hk;done)
   rename_i c2 l g5
   split at hk <;> try (cases hk;done)
   rename_i own z cs g6
   cases hk
   exact (by simp only[cO,jQ,g1,g2,g3,eV g4 hc.2.1,eV g5 hc.2.2,HT.aj,g6];rw[if_pos hc.1])
  ·rename_i el id off q len cap g1 g2
   split at hk <;> try (cases hk;done)
   rename_i n c1 h' g3 g4
   split at hk <;> try (cases hk;done)
   rename_i c2 l g5
   split at hk <;> try (cases hk;done)
   rename_i own z cs g6
   cases hk
   exact (by simp only[cO,jQ,g1,g2,g3,eV g4 hc.2.1,eV g5 hc.2.2,HT.aj,g6];rw[if_pos hc.1])
 ·split at hk <;> try (cases hk;done)
  ·rename_i g1 g2
   split at hk <;> try (cases hk;done)
   rename_i g3
   cases hk
   exact (by simp only[cO,g1,g2,ta,vk];rw[if_pos (of_decide_eq_true g3),if_neg hc];rfl)
  ·rename_i g1 g2
   split at hk <;> try (cases hk;done)
   rename_i g3
   cases hk
   exact (by simp only[cO,g1,g2,ta,vk];rw[if_pos (of_decide_eq_true g3),if_neg hc];rfl)
  ·rename_i g1 g2
   cases hk
   exact (by simp only[cO,g1,g2,ta,vk];rw[if_neg (by have:(0:Int)<=_:=hc;omega)];rfl)
  ·rename_i g1 g2
   cases hk
   exact (by simp only[cO,g1,g2,ta,vk];rw[if_neg (by have:(0:Int)<=_:=hc;omega)];rfl)
 ·cases hk
def vi(P:Program)(o:Op)(e:Operand->Value)(id:Nat):Option (Prop×Value×aa) :=
 match o with
 | .makeSlice t l c =>
  match P.underlying t,e l,e c with
  |some (.slice el),.int .i64 l,.int .i64 c =>
   match aO P el,hX P el,dD P el with
   |some n,some by_,some z=>cond (Nat.beq z.cells.toList.length n) (some (0<=l/\l<=c/\c<2 ^ 62/\by_*c<=2 ^ 48,.slice (some ⟨id,0,none⟩) l.toNat c.toNat,.cells true n (cM z.cells.toList c.toNat))) none
   |_,_,_=>none
  |_,_,_=>none
 |_=>none
theorem qL{P:Program}{o:Op}{e:Operand->Value}{id:Nat}{c:Prop}{v:Value}{ob:aa}(hk:vi P o e id=some (c,v,ob))(hc:c):ia P o e id=some (v,ob):=by
 unfold vi at hk
 split at hk <;> try (cases hk;done)
 split at hk <;> try (cases hk;done)
 rename_i g1 g2 g3
 split at hk <;> try (cases hk;done)
 rename_i n by_ z g4 g5 g6
 cases hb:Nat.beq z.cells.toList.length n with
 |false=>rw[hb]at hk;cases hk
 |true =>
  rw[hb,cond_true]at hk
  cases hk
  simp only[ia,g1,g2,g3,g4,g5,g6]
  rw[if_pos ⟨Nat.eq_of_beq_eq_true hb,hc⟩]
def kx(P:Program)(n:Nat)(len:Nat)(x:Value)(h:HT):Option (Prop×List Value) :=
 match deq x with
 | .slice none _ _=>some (len=0,[])
 | .slice (some ⟨id,off,none⟩) l _ =>
  match h.get id with
  |some (.cells _ _ cs)=>some (len<=l/\off+len*n<=cs.length,(cs.drop off).take (len*n))
  |_=>none
 |_=>none
theorem cc{P:Program}{n len:Nat}{x:Value}{h:HT}{c:Prop}{l:List Value}(hk:kx P n len x h=some (c,l))(hc:c):cL P n len x h.list=some l:=by
 unfold kx at hk
 unfold cL
 split at hk
 ·rename_i g0;cases hk;simp only[g0];rw[if_pos hc]
 ·rename_i id off l' cap' g0
  split at hk <;> try (cases hk;done)
  rename_i g
  cases hk
  simp only[g0,HT.aj,g]
  rw[if_pos hc]
 ·cases hk
def vh(P:Program)(o:Op)(e:Operand->Value)(h:HT):Option (Prop×Value×HT×List Nat) :=
 match o with
 | .store t a v =>
  match e a with
  | .pointer (some ⟨id,off,none⟩) =>
   match h.get id with
   |some (.cells true z cs) =>
    match aO P t with
    |some n=>cond (Nat.beq (e v).cells.toList.length n&&(e v).cells.toList.all (fun v=>dz v)) (some (off+n<=cs.length,undef,h.set id (.cells true z (ba cs off (e v).cells.toList)),[id])) none
    |none=>none
   |_=>none
  | .pointer (some ⟨id,off,some (k+3)⟩) =>
   match h.get id with
   |some (.fam (z+1) cs) =>
    match aO P t with
    |some n=>cond (Nat.beq (e v).cells.toList.length n&&(Nat.ble (off+n) (z+1)&&(e v).cells.toList.all (fun v=>dz v))) (some (k*(z+1)+(z+1)<=cs.length,undef,h.set id (.fam (z+1) (ba cs (k*(z+1)+off) (e v).cells.toList)),[id])) none
    |none=>none
   |_=>none
  |_=>none
 | .call ⟨.builtin .append,⟨[s,x]⟩,⟨[t,u]⟩⟩ =>
  match P.underlying u with
  |some (.slice _) =>
   match P.underlying t,e s,e x with
   |some (.slice el),.slice base len cap,.slice xb m xc =>
    match aO P el,hX P el,dD P el with
    |some (n+1),some by_,some z =>
     match kx P (n+1) len (e s) h,kx P (n+1) m (e x) h with
     |some (c1,old),some (c2,new) =>
      cond (Nat.beq z.cells.toList.length (n+1)&&Nat.ble 1 by_&&Nat.ble by_ (2 ^ 16))
       (match base with
       |none=>some ((len+m)*by_<=2 ^ 44/\m≠0/\c1/\c2/\new.all (fun v=>dz v)=true,.slice (some ⟨h.n,0,none⟩) (len+m) (len+m),h.push (.cells true (n+1) (old++new)),[])
       |some ⟨id,off,none⟩ =>
        match h.get id with
        |some (.cells true zz _)=>cond (Nat.beq zz (n+1)) (some ((len+m)*by_<=2 ^ 44/\m≠0/\c1/\c2/\new.all (fun v=>dz v)=true,.slice (some ⟨h.n,0,none⟩) (len+m) (len+m),(h.set id .dead).push (.cells true (n+1) (old++new)),[id])) none
        |_=>none
       |some ⟨id,off,some 1⟩ =>
        match h.get id with
        |some (.cells true zz _)=>cond (Nat.beq zz (n+1)) (some ((len+m)*by_<=2 ^ 44/\m≠0/\c1/\c2/\new.all (fun v=>dz v)=true,.slice (some ⟨h.n,0,none⟩) (len+m) (len+m),(h.set id .dead).push (.cells true (n+1) (old++new)),[id])) none
        |_=>none
       |_=>none) none
     |_,_=>none
    |_,_,_=>none
   |_,_,_=>none
  |_=>none
 | .call ⟨.builtin .copy,⟨[d,s]⟩,⟨t :: _⟩⟩ =>
  match P.underlying t,e d,e s with
  |some (.slice el),.slice base len cap,.slice sb m sc =>
   match aO P el with
   |some n =>
    match kx P n (min m len) (e s) h with
    |some (c1,new) =>
     match base with
     |none=>some (c1,.int .i64 (min m len:Nat),h,[])
     |some ⟨id,off,none⟩ =>
      match h.get id with
      |some (.cells true z cs)=>some (c1/\off+(min m len)*n<=cs.length/\new.all (fun v=>dz v)=true,.int .i64 (min m len:Nat),h.set id (.cells true z (ba cs off new)),[id])
      |_=>none
     |_=>none
    |none=>none
   |none=>none
  |_,_,_=>none
 | .call ⟨.builtin .clear,⟨[x]⟩,⟨t :: _⟩⟩ =>
  match P.underlying t,e x with
  |some (.slice el),.slice (some ⟨id,off,_⟩) len cap =>
   match aO P el,dD P el with
   |some n,some z =>
    match h.get id with
    |some (.cells true zz cs)=>cond (Nat.beq z.cells.toList.length n&&z.cells.toList.all (fun v=>dz v)) (some (off+len*n<=cs.length,undef,h.set id (.cells true zz (ba cs off (cM z.cells.toList len))),[id])) none
    |_=>none
   |_,_=>none
  |_,_=>none
 |_=>none
def qK(P:Program)(o:Op)(e:Operand->Value):Option (Prop×Value) :=
 match o with
 | .call ⟨.builtin .append,⟨[s,x]⟩,⟨[t,u]⟩⟩ =>
  match P.underlying u with
  |some (.slice _) =>
   match P.underlying t,e s,e x with
   |some (.slice el),.slice base len cap,.slice xb m xc =>
    match aO P el,hX P el with
    |some (n+1),some by_=>cond (Nat.ble 1 by_&&Nat.ble by_ (2 ^ 16)) (some ((len+m)*by_<=2 ^ 44/\m=0,.slice base len cap)) none
    |_,_=>none
   |_,_,_=>none
  |_=>none
 |_=>none
theorem oN{P:Program}{o:Op}{e:Operand->Value}{c:Prop}{v:Value}(hk:qK P o e=some (c,v))(hc:c)(H:Heap):dd P o e H=some (v,H,[]):=by
 unfold qK at hk
 split at hk <;> try (cases hk;done)
 rename_i s x t u
 split at hk <;> try (cases hk;done)
 rename_i eu g0
 split at hk <;> try (cases hk;done)
 rename_i el base len cap xb m xc g1 g2 g3
 split at hk <;> try (cases hk;done)
 rename_i n by_ g4 g5
 cases hb:(Nat.ble 1 by_&&Nat.ble by_ (2 ^ 16)) with
 |false=>rw[hb]at hk;cases hk
 |true =>
  rw[hb]at hk
  cases hk
  rw[Bool.and_eq_true]at hb
  obtain ⟨h1,h2⟩:=hc
  simp only[dd,g0,hZ,g1,g2,g3,g4,g5]
  rw[if_pos ⟨h1,Nat.le_of_ble_eq_true hb.1,Nat.le_of_ble_eq_true hb.2⟩,if_pos h2]
theorem qJ{P:Program}{o:Op}{e:Operand->Value}{h:HT}{c:Prop}{r:Value×HT×List Nat}(hk:vh P o e h=some (c,r))(hc:c):dd P o e h.list=some (fc r):=by
 unfold vh at hk
 split at hk
 ·rename_i t a v
  split at hk <;> try (cases hk;done)
  rotate_left
  rename_i id off k g1
  split at hk <;> try (cases hk;done)
  rename_i z cs g2
  split at hk <;> try (cases hk;done)
  rename_i n g3
  cases hb:(Nat.beq (e v).cells.toList.length n&&(Nat.ble (off+n) (z+1)&&(e v).cells.toList.all (fun v=>dz v))) with
  |false=>rw[hb]at hk;cases hk
  |true =>
   rw[hb,cond_true]at hk
   cases hk
   simp only[Bool.and_eq_true]at hb
   simp only[dd,jP,g1,HT.aj,g2,g3]
   rw[if_pos ⟨Nat.eq_of_beq_eq_true hb.1,Nat.le_of_ble_eq_true hb.2.1,hc,hb.2.2⟩]
   simp only[HT.aC,Option.map_some,fc]
  rename_i id off g1
  split at hk <;> try (cases hk;done)
  rename_i z cs g2
  split at hk <;> try (cases hk;done)
  rename_i n g3
  cases hb:(Nat.beq (e v).cells.toList.length n&&(e v).cells.toList.all (fun v=>dz v)) with
  |false=>rw[hb]at hk;cases hk
  |true =>
   rw[hb,cond_true]at hk
   cases hk
   simp only[Bool.and_eq_true]at hb
   simp only[dd,jP,g1,HT.aj,g2,g3]
   rw[if_pos ⟨Nat.eq_of_beq_eq_true hb.1,hc,hb.2⟩]
   simp only[HT.aC,Option.map_some,fc]
 ·rename_i s x t u
  split at hk <;> try (cases hk;done)
  rename_i el' g0
  split at hk <;> try (cases hk;done)
  rename_i el base len cap xb m xc g1 g2 g3
  split at hk <;> try (cases hk;done)
  rename_i n by_ z g4 g5 g6
  split at hk <;> try (cases hk;done)
  rename_i c1 old c2 new g7 g8
  cases hb:(Nat.beq z.cells.toList.length (n+1)&&Nat.ble 1 by_&&Nat.ble by_ (2 ^ 16)) with
  |false=>rw[hb]at hk;cases hk
  |true =>
   rw[hb,cond_true]at hk
   simp only[Bool.and_eq_true]at hb
   have b1:=Nat.eq_of_beq_eq_true hb.1.1
   have b2:=Nat.le_of_ble_eq_true hb.1.2
   have b3:=Nat.le_of_ble_eq_true hb.2
   rw[g2]at g7
   rw[g3]at g8
   simp only[dd,g0,hZ,g1,g2,g3,g4,g5]
   split at hk
   ·cases hk
    obtain ⟨k1,k2,k3,k4,k5⟩:=hc
    rw[if_pos ⟨k1,b2,b3⟩,if_neg k2]
    simp only[cc g7 k3,cc g8 k4,g6]
    rw[if_pos ⟨b1,k5⟩]
    simp only[HT.aW,HT.length,fc]
   ·rename_i id off
    split at hk <;> try (cases hk;done)
    rename_i zz cs g9
    cases hz:Nat.beq zz (n+1) with
    |false=>rw[hz]at hk;cases hk
    |true =>
     rw[hz,cond_true]at hk
     cases hk
     obtain ⟨k1,k2,k3,k4,k5⟩:=hc
     rw[if_pos ⟨k1,b2,b3⟩,if_neg k2]
     simp only[cc g7 k3,cc g8 k4,g6]
     rw[if_pos ⟨b1,k5⟩]
     simp only[HT.aj,g9]
     rw[if_pos (Nat.eq_of_beq_eq_true hz)]
     simp only[HT.aW,HT.aC,HT.length,fc]
   ·rename_i id off
    split at hk <;> try (cases hk;done)
    rename_i zz cs g9
    cases hz:Nat.beq zz (n+1) with
    |false=>rw[hz]at hk;cases hk
    |true =>
     rw[hz,cond_true]at hk
     cases hk
     obtain ⟨k1,k2,k3,k4,k5⟩:=hc
     rw[if_pos ⟨k1,b2,b3⟩,if_neg k2]
     simp only[cc g7 k3,cc g8 k4,g6]
     rw[if_pos ⟨b1,k5⟩]
     simp only[HT.aj,g9]
     rw[if_pos (Nat.eq_of_beq_eq_true hz)]
     simp only[HT.aW,HT.aC,HT.length,fc]
   ·cases hk
 ·rename_i d s t ts
  split at hk <;> try (cases hk;done)
  rename_i el base len cap sb m sc g1 g2 g3
  split at hk <;> try (cases hk;done)
  rename_i n g4
  split at hk <;> try (cases hk;done)
  rename_i c1 new g5
  rw[g3]at g5
  simp only[dd,pL,g1,g2,g3,g4]
  split at hk
  ·cases hk;simp only[cc g5 hc]
  ·rename_i id off
   split at hk <;> try (cases hk;done)
   rename_i z cs g6
   cases hk
   obtain ⟨k1,k2,k3⟩:=hc
   simp only[cc g5 k1,HT.aj,g6]
   rw[if_pos ⟨k2,k3⟩]
   simp only[HT.aC,fc]
  ·cases hk
 ·rename_i x t ts
  split at hk <;> try (cases hk;done)
  rename_i el id off tag len cap g1 g2
  split at hk <;> try (cases hk;done)
  rename_i n z g3 g4
  split at hk <;> try (cases hk;done)
  rename_i zz cs g5
  cases hb:(Nat.beq z.cells.toList.length n&&z.cells.toList.all (fun v=>dz v)) with
  |false=>rw[hb]at hk;cases hk
  |true =>
   rw[hb,cond_true]at hk
   cases hk
   rw[Bool.and_eq_true]at hb
   simp only[dd,lv,g1,g2,g3,g4,HT.aj,g5]
   rw[if_pos ⟨hc,Nat.eq_of_beq_eq_true hb.1,hb.2⟩]
   simp only[HT.aC,fc]
 ·cases hk
end
end Go.K
namespace Go.K
noncomputable section
variable {P:Program}
def bad:Value:=.iface 0 .nilIface
theorem VR.bad{ρ:Ren}{v':Value}(h:VR ρ bad v'):False:=by cases h
def rn(σ:Nat->Option Nat):Nat->Value->Value
 |0,_=>bad
 |d+1,v=>match v with
  | .pointer (some ⟨id,off,none⟩)=>match σ id with|some id' => .pointer (some ⟨id',off,none⟩)|none=>bad
  | .pointer (some ⟨id,off,some (k+3)⟩)=>match σ id with|some id' => .pointer (some ⟨id',off,some (k+3)⟩)|none=>bad
  | .slice (some ⟨id,off,none⟩) len cap=>match σ id with|some id' => .slice (some ⟨id',off,none⟩) len cap|none=>bad
  | .slice (some ⟨id,off,some (k+1)⟩) len cap=>match σ id with
   |some id' => .slice (some ⟨id',off,some (k+1)⟩) len cap
   |none=>match len,cap with
    |0,0 => .slice (some ⟨0,0,some (k+1)⟩) 0 0
    |_,_=>bad
  | .map (some id)=>match σ id with|some id' => .map (some id')|none=>bad
  | .func (.yield l) ⟨[]⟩ ⟨[]⟩=>match σ l with|some l' => .func (.yield l') #[] #[]|none=>bad
  | .func (.func f) first cap => .func (.func f) ⟨first.toList.map (rn σ d)⟩ ⟨cap.toList.map (rn σ d)⟩
  | .func _ _ _=>bad
  | .agg cs => .agg ⟨cs.toList.map (rn σ d)⟩
  | .tuple vs => .tuple ⟨vs.toList.map (rn σ d)⟩
  | .iface k (.agg cs) => .iface k (.agg ⟨cs.toList.map (rn σ d)⟩)
  | .iface k (.tuple cs) => .iface k (.tuple ⟨cs.toList.map (rn σ d)⟩)
  | .iface k (.pointer (some ⟨id,off,some (j+3)⟩))=>match σ id with|some id' => .iface k (.pointer (some ⟨id',off,some (j+3)⟩))|none=>match k with|1 => .iface 1 (.pointer none)|_=>bad
  |v=>v
def rno(σ:Nat->Option Nat)(d:Nat):aa->aa
 | .cells own z cs => .cells own z (cs.map (rn σ d))
 | .map es => .map (es.map fun e=>(rn σ d e.1,rn σ d e.2))
 | .loop st pe tm N ps as bd => .dead
 | .iter m n s=>match σ m with|some m' => .iter m' n s|none => .dead
 | .fam z cs => .fam z (cs.map (rn σ d))
 | .dead => .dead
theorem dQ{ρ ρ':Ren}{σ:Nat->Option Nat}{d:Nat}(ih:∀{v r:Value},VR ρ' (rn σ d v) r->VR ρ v r){cs:Array Value}{r:Array Value}
  (h1:(⟨cs.toList.map (rn σ d)⟩:Array Value).size=r.size) (h2:∀(i:Nat) (v v':Value),(⟨cs.toList.map (rn σ d)⟩:Array Value)[i]?=some v->r[i]?=some v'->VR ρ' v v') :
  cs.size=r.size/\∀(i:Nat) (v v':Value),cs[i]?=some v->r[i]?=some v'->VR ρ v v':=by
 refine ⟨by simpa using h1,fun i v v' a b=>ih (h2 i _ v' ?_ b)⟩
 have:(⟨cs.toList.map (rn σ d)⟩:Array Value)=cs.map (rn σ d):=Array.toList_inj.1 (by simp)
 rw[this,Array.getElem?_map,a];rfl
theorem gI{ρ ρ':Ren}{σ:Nat->Option Nat}{d s:Nat}(ih:∀{v r:Value},VR ρ' (rn σ d v) r->VR ρ v r){cs m:Array Value}
  (h1:(⟨cs.toList.map (rn σ d)⟩:Array Value).size=0∨(⟨cs.toList.map (rn σ d)⟩:Array Value).size+s<=m.size) (h2:∀(i:Nat) (v v':Value),(⟨cs.toList.map (rn σ d)⟩:Array Value)[i]?=some v->m[i+s]?=some v'->VR ρ' v v') :
  (cs.size=0∨cs.size+s<=m.size)/\∀(i:Nat) (v v':Value),cs[i]?=some v->m[i+s]?=some v'->VR ρ v v':=by
 refine ⟨by simpa using h1,fun i v v' a b=>ih (h2 i _ v' ?_ b)⟩
 have:(⟨cs.toList.map (rn σ d)⟩:Array Value)=cs.map (rn σ d):=Array.toList_inj.1 (by simp)
 rw[this,Array.getElem?_map,a];rfl
theorem gq{ρ ρ':Ren}{σ:Nat->Option Nat}(hσ:∀id id' r,σ id=some id'->ρ' id'=some r->ρ id=some r)(hm:∀b m,ρ'.mem b=some m->ρ.mem b=some m)(hg:∀F F' k r,σ F=some F'->ρ'.g F' k=some r->ρ.g F k=some r):∀(d:Nat) {v r:Value},VR ρ' (rn σ d v) r->VR ρ v r:=by
 intro d
 induction d with
 |zero=>intro v r h;exact (VR.bad h).elim
 |succ d ih =>
  intro v r h
  unfold rn at h
  split at h
  ·split at h
   ·rename_i g;cases h with|ptr k=>exact .ptr (hσ _ _ _ g k)
   ·exact (VR.bad h).elim
  ·split at h
   ·rename_i g;cases h with|dS k=>exact .dS (hg _ _ _ _ g k)
   ·exact (VR.bad h).elim
  ·split at h
   ·rename_i g
    cases h with
    |slice k hl hc ho=>exact .slice (hσ _ _ _ g k) hl hc ho
    |aQ k=>exact .aQ (hσ _ _ _ g k)
   ·exact (VR.bad h).elim
  ·split at h
   ·rename_i g
    cases h with
    |ax=>exact .ax
    |ay=>exact .ay
    |aD k hp hl hc ho=>exact .aD (hσ _ _ _ g k) hp hl hc ho
    |aB=>exact .aB
    |aX k hp hl hc ho=>exact .aX (hσ _ _ _ g k) hp hl hc ho
   ·split at h
    ·cases h with
     |ax=>exact .ax
     |ay=>exact .ay
     |aD k hp hl hc ho=>exact absurd hp (Nat.lt_irrefl 0)
     |aB=>exact .aB
     |aX k hp hl hc ho=>exact absurd hp (Nat.lt_irrefl 0)
    ·exact (VR.bad h).elim
  ·split at h
   ·rename_i g;cases h with|map k=>exact .map (hσ _ _ _ g k)
   ·exact (VR.bad h).elim
  ·split at h
   ·rename_i g;cases h with|yield k=>exact .yield (hσ _ _ _ g k)
   ·exact (VR.bad h).elim
  ·cases h with
   |func h1 h2 h3 h4 =>
    obtain ⟨a1,a2⟩:=dQ ih h1 h2
    obtain ⟨b1,b2⟩:=dQ ih h3 h4
    exact .func a1 a2 b1 b2
  ·exact (VR.bad h).elim
  ·cases h with|agg h1 h2=>obtain ⟨a1,a2⟩:=dQ ih h1 h2;exact .agg a1 a2
  ·cases h with|tuple h1 h2=>obtain ⟨a1,a2⟩:=dQ ih h1 h2;exact .tuple a1 a2
  ·cases h with
   |deep g1 g2 g3 g4 g5=>obtain ⟨a1,a2⟩:=gI ih g4 g5;exact .deep (hm _ _ g1) g2 g3 a1 a2
   |br=>exact .br
  ·cases h with|bP g1 g2 g3=>obtain ⟨a1,a2⟩:=gI ih g2 g3;exact .bP (hm _ _ g1) a1 a2
  ·split at h
   ·rename_i g
    cases h with
    |fsl k hp hc hs ho=>exact .fsl (hg _ _ _ _ g k) hp hc hs ho
    |bS=>exact .bS
   ·split at h
    ·cases h with|bS=>exact .bS
    ·exact (VR.bad h).elim
  ·rename_i n1 n1f n2 n2q n3 n4 n5 n6 n7 n8 n9 n10 n11
   cases h with
   |junk=>exact .junk _
   |bool b=>exact .bool b
   |int k n=>exact .int k n
   |float k n=>exact .float k n
   |string s=>exact .string s
   |bK=>exact .bK
   |ptr k=>exact absurd rfl (n1 _ _)
   |dS k=>exact absurd rfl (n1f _ _ _)
   |aT=>exact .aT
   |slice k hl hc ho=>exact absurd rfl (n2 _ _ _ _)
   |aQ k=>exact absurd rfl (n2 _ _ _ _)
   |bv=>exact .bv
   |ax=>exact .ax
   |ay=>exact .ay
   |aD=>exact absurd rfl (n2q _ _ _ _ _)
   |aB=>exact .aB
   |aX=>exact absurd rfl (n2q _ _ _ _ _)
   |bL=>exact .bL
   |map k=>exact absurd rfl (n3 _)
   |nilFunc=>exact .nilFunc
   |nilIface=>exact .nilIface
   |func h1 h2 h3 h4=>exact absurd rfl (n5 _ _ _)
   |yield k=>exact absurd rfl (n4 _)
   |agg h1 h2=>exact absurd rfl (n7 _)
   |tuple h1 h2=>exact absurd rfl (n8 _)
   |deep=>exact absurd rfl (n9 _ _)
   |br=>exact absurd rfl (n9 _ _)
   |fsl=>exact absurd rfl (n11 _ _ _ _)
   |bS=>exact .bS
   |bP=>exact absurd rfl (n10 _ _)
theorem ja{ρ ρ':Ren}{σ:Nat->Option Nat}(hσ:∀id id' r,σ id=some id'->ρ' id'=some r->ρ id=some r)(hm:∀b m,ρ'.mem b=some m->ρ.mem b=some m)(hg:∀F F' k r,σ F=some F'->ρ'.g F' k=some r->ρ.g F k=some r){d:Nat}{r:RI}{o:aa}{w:World}(h:aI ρ' r (rno σ d o) w)(hl:rno σ d o = .dead->o = .dead):aI ρ r o w:=by
 cases o with
 |cells own z cs =>
  obtain ⟨h1,h2,cs',ty,fz,h3,h4,h5,h6⟩:=h
  refine ⟨h1,h2,cs',ty,fz,h3,h4,h5,fun i v hv =>?_⟩
  obtain ⟨v',g1,g2⟩:=h6 i (rn σ d v) (by rw[List.getElem?_map,hv];rfl)
  exact ⟨v',g1,gq hσ hm hg d g2⟩
 |map es =>
  obtain ⟨h1,es',h2,h3,h4⟩:=h
  refine ⟨h1,es',h2,by simpa using h3,fun i k v hv =>?_⟩
  obtain ⟨e',g1,g2,g3⟩:=h4 i (rn σ d k) (rn σ d v) (by rw[List.getElem?_map,hv];rfl)
  exact ⟨e',g1,gq hσ hm hg d g2,gq hσ hm hg d g3⟩
 |loop st pe tm N ps as bd=>exact absurd (hl rfl) (by simp)
 |iter m n s =>
  simp only[rno]at h hl
  cases hs:σ m with
  |none=>rw[hs]at hl;exact absurd (hl rfl) (by simp)
  |some m' =>
   rw[hs]at h
   obtain ⟨h1,h0,rm,h2,h3⟩:=h
   exact ⟨h1,h0,rm,hσ _ _ _ hs h2,h3⟩
 |fam _ _=>trivial
 |dead=>trivial
def wk(a b:Value):Prop:=∀(ρ:Ren) (x:Value),VR ρ a x->VR ρ b x
theorem ae(a:Value):wk a a:=fun _ _ h=>h
theorem zt{a b:Value}(h:a=b):wk a b:=by subst h;exact ae a
theorem ef(id o k:Nat)(hk:k=1∨k=2):wk (.slice none 0 0) (.slice (some ⟨id,o,some k⟩) 0 0):=by
 intro ρ x h
 rcases hk with rfl|rfl <;> cases h
 ·exact .ax
 ·exact .aB
theorem rT{id o l c:Nat}(hp:0<l):wk (.slice (some ⟨id,o,none⟩) l c) (.slice (some ⟨id,o,some 1⟩) l c):=by
 intro ρ x h
 cases h with
 |slice h hl hc ho=>exact .aD h hp hl hc ho
 |aQ=>exact absurd hp (Nat.lt_irrefl 0)
theorem ik{id o l:Nat}:wk (.slice (some ⟨id,o,some 1⟩) l l) (.slice (some ⟨id,o,some 2⟩) l l):=by
 intro ρ x h
 cases h with
 |ax=>exact .aB
 |ay=>exact .aB
 |aD h hp hl hc ho=>exact .aX h hp hl hc ho
def wks:List Value->List Value->Prop
 | [],[] =>True
 |a :: r,b :: s=>wk a b/\wks r s
 |_,_=>False
theorem fA:∀{xs ys:List Value},wks xs ys->xs.length=ys.length/\∀(i:Nat) (a b:Value),xs[i]?=some a->ys[i]?=some b->wk a b
 | [],[],_=>⟨rfl,fun i a b h=>by simp at h⟩
 |a :: r,b :: s,h=>⟨by simp[(fA h.2).1],fun i x y hx hy=>by
   cases i with
   |zero=>simp at hx hy;subst hx;subst hy;exact h.1
   |succ i=>exact (fA h.2).2 i x y (by simpa using hx) (by simpa using hy)⟩
 | [],_ :: _,h=>h.elim
 |_ :: _,[],h=>h.elim
theorem mf{xs ys:List Value}(h:wks xs ys):wk (.agg ⟨xs⟩) (.agg ⟨ys⟩):=by
 obtain ⟨h1,h2⟩:=fA h
 intro ρ x hx
 cases hx with
 | @agg cs cs' g1 g2 =>
  refine .agg (by simpa[<- h1] using g1) fun i v v' hv hv' =>?_
  have hi:i<xs.length:=by rw[h1];have:=(Array.getElem?_eq_some_iff.1 hv).1;simpa using this
  exact h2 i xs[i] v (List.getElem?_eq_getElem hi) (by simpa using hv) _ _ (g2 i _ v' (by simp[hi]) hv')
theorem wE{xs ys:List Value}(h:wks xs ys):wk (.tuple ⟨xs⟩) (.tuple ⟨ys⟩):=by
 obtain ⟨h1,h2⟩:=fA h
 intro ρ x hx
 cases hx with
 | @tuple cs cs' g1 g2 =>
  refine .tuple (by simpa[<- h1] using g1) fun i v v' hv hv' =>?_
  have hi:i<xs.length:=by rw[h1];have:=(Array.getElem?_eq_some_iff.1 hv).1;simpa using this
  exact h2 i xs[i] v (List.getElem?_eq_getElem hi) (by simpa using hv) _ _ (g2 i _ v' (by simp[hi]) hv')
def i9(cs cs':List Value):Prop:=∀(k:IntKind) (n:Int),cs'[0]?=some (.int k n)->cs[0]?=some (.int k n)
theorem ke(cs:List Value):i9 cs cs:=fun _ _ h=>h
theorem FD{σ:Nat->Option Nat}{d:Nat}{v:Value}{k:IntKind}{n:Int}(h:rn σ d v = .int k n):v = .int k n:=by
 cases d with
 |zero=>cases h
 |succ d =>
  unfold rn at h
  split at h <;> first|(cases h;done)|(split at h <;> first|(cases h;done)|(split at h <;> first|(cases h;done)|(split at h <;> cases h)))|exact h
theorem VR.uw{ρ:Ren}{v:Value}(h:∀x,VR ρ v x):v = .chan none:=by
 have h1:=h (.bool true)
 have h2:=h (.bool false)
 cases h1 with
 |junk=>rfl
 |bool=>cases h2
theorem ww.back{ρ ρ':Ren}{r:RI}{k:Nat}{cs cs':List Value}{c2:Array Value}(h:ww ρ' r k cs' c2)(hl:i9 cs cs')(hn:cs'.length=cs.length)(hv:∀(i:Nat) (v v':Value),cs[i]?=some v->cs'[i]?=some v'->∀x,VR ρ' v' x->VR ρ v x):ww ρ r k cs c2:=by
 have key:∀v,cs[k+1]?=some v->∃v',cs'[k+1]?=some v'/\((v' = .chan none/\v = .chan none)∨∃row',v' = .agg row'/\r.s+row'.size<=c2.size/\VR ρ v (.agg (c2.extract r.s (r.s+row'.size)))):=fun v a=>by
  have hi:k+1<cs'.length:=by rw[hn];exact (List.getElem?_eq_some_iff.1 a).1
  have a':=List.getElem?_eq_getElem hi
  refine ⟨_,a',?_⟩
  rcases h.2.1 _ a' with e|⟨row',e⟩
  ·left
   refine ⟨e,VR.uw (ρ:=ρ) fun x=>hv _ _ _ a a' x ?_⟩
   rw[e];exact .junk x
  ·right
   rw[e]at a'
   obtain ⟨h1,h2⟩:=h.2.2 row' a'
   refine ⟨row',e,h1,hv _ _ _ a a' _ ?_⟩
   refine .agg (by simp;omega) (fun i v v' a b =>?_)
   obtain ⟨v2,e1,e2⟩:=h2 i v a
   have hi:=(Array.getElem?_eq_some_iff.1 a).1
   rw[Array.getElem?_extract]at b
   rw[if_pos (by omega),Nat.add_comm,e1]at b
   cases b;exact e2
 refine ⟨⟨h.1.1,h.1.2.1,h.1.2.2.1,hl _ _ h.1.2.2.2⟩,fun v a =>?_,fun row hr =>?_⟩
 ·obtain ⟨v',_,hh⟩:=key v a
  rcases hh with ⟨_,e⟩|⟨row',_,_,hy⟩
  ·exact .inl e
  ·cases hy with
   |junk=>exact .inl rfl
   |agg=>exact .inr ⟨_,rfl⟩
 ·obtain ⟨v',_,hh⟩:=key _ hr
  rcases hh with ⟨_,e⟩|⟨row',_,h1,hy⟩
  ·cases e
  ·cases hy with
   |agg g1 g2 =>
    have hsz:row.size=row'.size:=by rw[g1];simp;omega
    refine ⟨by omega,fun i v a =>?_⟩
    have hi:=(Array.getElem?_eq_some_iff.1 a).1
    have hc:i+r.s<c2.size:=by omega
    refine ⟨c2[i+r.s],Array.getElem?_eq_getElem hc,g2 i v _ a ?_⟩
    rw[Array.getElem?_extract,if_pos (by omega),Nat.add_comm]
    exact Array.getElem?_eq_getElem hc
def wkO(o o':aa):Prop:=o'.owned=o.owned/\o'.alive=o.alive/\(∀(ρ:Ren) (r:RI) (w:World),aI ρ r o w->aI ρ r o' w) /\
 ∀z cs,o' = .fam z cs->∃cs0,o = .fam z cs0/\cs0.length=cs.length/\(∀(i:Nat) (v v':Value),cs0[i]?=some v->cs[i]?=some v'->wk v v')/\(z=0->i9 cs cs0)
theorem zu(o:aa):wkO o o:=⟨rfl,rfl,fun _ _ _ h=>h,fun z cs h=>⟨cs,h,rfl,fun i v v' a b=>(by rw[a]at b;cases b;exact ae _),fun _=>ke cs⟩⟩
theorem bh{o o':aa}(h:o=o'):wkO o o':=by subst h;exact zu o
theorem aN{own:Bool}{z:Nat}{cs cs':List Value}(h:wks cs cs'):wkO (.cells own z cs) (.cells own z cs'):=by
 obtain ⟨h1,h2⟩:=fA h
 refine ⟨rfl,rfl,fun ρ r w ho =>?_,fun _ _ h=>by cases h⟩
 obtain ⟨k1,k2,cs2,ty,fz,k3,k4,k5,k6⟩:=ho
 refine ⟨k1,k2,cs2,ty,fz,k3,k4,k5,fun i x hx =>?_⟩
 have hi:i<cs.length:=by rw[h1];exact (List.getElem?_eq_some_iff.1 hx).1
 obtain ⟨x',y1,y2⟩:=k6 i _ (List.getElem?_eq_getElem hi)
 exact ⟨x',y1,h2 i _ x (List.getElem?_eq_getElem hi) hx _ _ y2⟩
def bf(ρ':Ren)(σ:Nat->Option Nat):Ren:=⟨fun id=>(σ id).bind ρ'.f,ρ'.mem,fun F k=>(σ F).bind fun F'=>ρ'.g F' k⟩
theorem oa{ρ ρ':Ren}{n:Nat}(hle:∀id r,id<n->ρ' id=some r->ρ id=some r)(hm:∀b m,ρ'.mem b=some m->ρ.mem b=some m){r:RI}{o:aa}{w:World}(hb:cu n o=true)(h:aI ρ' r o w):aI ρ r o w:=by
 cases o with
 |cells own z cs =>
  obtain ⟨k1,k2,cs',ty,fz,k3,k4,k5,k6⟩:=h
  simp only[cu,List.all_eq_true]at hb
  exact ⟨k1,k2,cs',ty,fz,k3,k4,k5,fun i x hx=>let ⟨x',y1,y2⟩:=k6 i x hx; ⟨x',y1,aH hle hm (hb x (List.mem_of_getElem? hx)) y2⟩⟩
 |fam _ _=>trivial
 |dead=>trivial
 |map es =>
  obtain ⟨k1,es',k2,k3,k4⟩:=h
  simp only[cu,List.all_eq_true,Bool.and_eq_true]at hb
  exact ⟨k1,es',k2,k3,fun i k x hx=>let ⟨e',y1,y2,y3⟩:=k4 i k x hx;let q:=hb _ (List.mem_of_getElem? hx); ⟨e',y1,eS hle hm q.1 y2,eS hle hm q.2 y3⟩⟩
 |iter m n s =>
  obtain ⟨k1,k0,rm,k2,k3⟩:=h
  exact ⟨k1,k0,rm,hle _ _ (of_decide_eq_true hb) k2,k3⟩
 |loop _ _ _ _ _ _ _=>simp[cu]at hb
theorem aI.back{ρ ρ' ρ2:Ren}(hle:Ren.le ρ ρ')(hf:∀id r,ρ id=some r->ρ2 id=some r)(hm:∀b m,ρ'.mem b=some m->ρ2.mem b=some m)(hg:∀F k r,ρ.g F k=some r->ρ2.g F k=some r){r:RI}{o:aa}{w w':World}(h:aI ρ r o w)(h':aI ρ' r o w'):aI ρ2 r o w':=by
 cases o with
 |cells own z cs =>
  obtain ⟨k1,k2,cs',ty,fz,k3,k4,k5,k6⟩:=h'
  obtain ⟨_,_,cs2,_,_,_,_,_,j6⟩:=h
  exact ⟨k1,k2,cs',ty,fz,k3,k4,k5,fun i x hx=>let ⟨x',y1,y2⟩:=k6 i x hx;let ⟨x2,_,z2⟩:=j6 i x hx; ⟨x',y1,z2.down hle hf hm hg y2⟩⟩
 |fam _ _=>trivial
 |dead=>trivial
 |map es =>
  obtain ⟨k1,es',k2,k3,k4⟩:=h'
  obtain ⟨_,es2,_,_,j4⟩:=h
  exact ⟨k1,es',k2,k3,fun i k x hx=>let ⟨e',y1,y2,y3⟩:=k4 i k x hx;let ⟨_,_,z2,z3⟩:=j4 i k x hx; ⟨e',y1,z2.down hle hf hm hg y2,z3.down hle hf hm hg y3⟩⟩
 |iter m n s =>
  obtain ⟨k1,k0,rm,k2,k3⟩:=h'
  obtain ⟨_,_,rm2,j2,_⟩:=h
  have:=hle _ _ j2
  rw[k2]at this
  cases this
  exact ⟨k1,k0,rm,hf _ _ j2,k3⟩
 |loop st pe tm N ps asg bd =>
  obtain ⟨k1,l,k2,k3,k4,k5,k6,k7,k8,k9⟩:=h'
  obtain ⟨_,l2,_,_,_,_,_,_,_,j9⟩:=h
  exact ⟨k1,l,k2,k3,k4,k5,k6,k7,k8,fun t ht=>(j9 t ht).down hle hf hm hg (k9 t ht)⟩
theorem kU(σ:Nat->Option Nat)(d:Nat)(o:aa)(h:rno σ d o = .dead->o = .dead):(rno σ d o).owned=o.owned/\(rno σ d o).alive=o.alive:=by
 cases o with
 |loop _ _ _ _ _ _ _=>exact absurd (h rfl) (by simp)
 |iter m n s =>
  simp only[rno]at h ⊢
  cases hs:σ m with
  |none=>rw[hs]at h;exact absurd (h rfl) (by simp)
  |some m'=>exact ⟨rfl,rfl⟩
 |_=>exact ⟨rfl,rfl⟩
def aa.Al:aa->Bool
 | .dead=>false
 |_=>true
theorem sR{o:aa}(h:o.alive=true):o.Al=true:=by cases o <;> first|rfl|cases h
structure ol(σ:Nat->Option Nat)(ρ ρ':Ren):Prop where
 f:∀id id' r,σ id=some id'->ρ' id'=some r->ρ id=some r
 m:∀b m,ρ'.mem b=some m->ρ.mem b=some m
 g:∀F F' k r,σ F=some F'->ρ'.g F' k=some r->ρ.g F k=some r
structure Emb(H0:Heap)(ML:List Nat)(N:Nat)(σ:Nat->Option Nat)(d:Nat)(T:Tm)(H:Heap)(T':Tm)(H':Heap):Prop where
 len:H0.length<=H.length
 old:∀id,id<H0.length->σ id=some id
 dom:∀id id',σ id=some id'->id<H.length
 inj:∀id1 id2 id' o1 o2,σ id1=some id'->σ id2=some id'->H[id1]?=some o1->H[id2]?=some o2->o1.Al=true->o2.Al=true->id1=id2
 slots:∀t,t<N->T t=junk∨wk (T' t) (rn σ d (T t))
 same:∀id,id<H0.length->id ∉ ML->H[id]?=H0[id]?
 obj:∀id id' o,σ id=some id'->(H0.length<=id∨id∈ML)->H[id]?=some o->(o = .dead∨(∃o',H'[id']?=some o'/\o'.owned=o.owned/\o'.alive=o.alive /\
  (∀(ρ ρ':Ren) (r:RI) (w:World),ol σ ρ ρ'->aI ρ' r o' w->aI ρ r o w) /\
  (∀z cs,o = .fam z cs->∃cs',o' = .fam z cs'/\cs'.length=cs.length/\(∀(i:Nat) (v v':Value),cs[i]?=some v->cs'[i]?=some v'->∀(ρ ρ':Ren) (x:Value),ol σ ρ ρ'->VR ρ' v' x->VR ρ v x)/\(z=0->i9 cs cs'))))
theorem Emb.post{B:Nat}{ML:List Nat}{N:Nat}{σ:Nat->Option Nat}{d:Nat}{ρ0 ρ':Ren}{H0 H H':Heap}{w0 w':World}{T T':Tm}(e:Emb H0 ML N σ d T H T' H')(h0:Rel P B ρ0 H0 w0)
  (p:Post P B H0.length ML ρ0 H0 w0 ρ' H' w'):Post P B H0.length ML ρ0 H0 w0 (bf ρ' σ) H w'/\∀tmps,TR ρ' N T' tmps->TR (bf ρ' σ) N T tmps:=by
 have hun:=p.same
 have hσ:∀id id' r,σ id=some id'->ρ' id'=some r->bf ρ' σ id=some r:=by
  intro id id' r h1 h2;show Option.bind _ _=_;rw[h1];exact h2
 have hm:∀b m,ρ'.mem b=some m->(bf ρ' σ).mem b=some m:=fun _ _ h=>h
 have hg:∀F F' k r,σ F=some F'->ρ'.g F' k=some r->(bf ρ' σ).g F k=some r:=by
  intro F F' k r h1 h2;show Option.bind _ _=_;rw[h1];exact h2
 have hle:ol σ (bf ρ' σ) ρ':=⟨hσ,hm,hg⟩
 have hsome:∀{id r},bf ρ' σ id=some r->∃id',σ id=some id'/\ρ' id'=some r:=fun h=>Option.bind_eq_some_iff.1 h
 have de:∀{F k r},(bf ρ' σ).g F k=some r->∃F',σ F=some F'/\ρ'.g F' k=some r:=fun h=>Option.bind_eq_some_iff.1 h
 have hext:Ren.le ρ0 (bf ρ' σ):=⟨fun id r h=>hσ id id r (e.old id (h0.dom _ _ h)) (p.ext _ _ h),p.ext.mem,fun F k r h=>hg F F k r (e.old F (h0.fam.dom _ _ _ h)) (p.ext.g _ _ _ h)⟩
 have hcase:∀id id' o,σ id=some id'->H[id]?=some o->(o = .dead∨(∃o',H'[id']?=some o'/\o'.owned=o.owned/\o'.alive=o.alive/\(∀r,ρ' id'=some r->aI ρ' r o' w'->aI (bf ρ' σ) r o w'))):=by
  intro id id' o h1 h2
  by_cases hc:H0.length<=id∨id∈ML
  ·rcases e.obj id id' o h1 hc h2 with h|⟨o',g1,g2,g3,g4,_⟩
   ·exact .inl h
   ·exact .inr ⟨o',g1,g2,g3,fun r _ hr=>g4 _ _ r w' hle hr⟩
  ·have hl:id<H0.length:=by
    rcases Nat.lt_or_ge id H0.length with h|h
    ·exact h
    ·exact absurd (.inl h) hc
   have hM:id ∉ ML:=fun h=>hc (.inr h)
   rw[e.old id hl]at h1
   cases h1
   have h3:=e.same id hl hM
   refine .inr ⟨o,by rw[hun id hl hM,<- h3];exact h2,rfl,rfl,fun r k2 hro =>?_⟩
   have g5:H0[id]?=some o:=by rw[<- h3];exact h2
   have hr0:ρ0 id=some r:=by
    cases hq:ρ0 id with
    |none=>exact absurd (p.new _ _ k2 hq) (by omega)
    |some r0=>have:=p.ext _ _ hq;rw[k2]at this;exact this.symm
   exact aI.back p.ext hext.f hm hext.g (h0.obj _ _ _ hr0 g5) hro
 have hfm:∀{F k r z cs},FM (bf ρ' σ) H F k r z cs->∃F' cs',σ F=some F'/\FM ρ' H' F' k r z cs'/\wx (bf ρ' σ) r k z cs w':=by
  intro F k r z cs m
  obtain ⟨F',k1,k2⟩:=de m.g
  by_cases hc:H0.length<=F∨F∈ML
  ·rcases e.obj F F' _ k1 hc m.h with h|⟨o',g1,_,_,_,g5⟩
   ·cases h
   ·obtain ⟨cs',rfl,hl,hv,htab⟩:=g5 z cs rfl
    have m':FM ρ' H' F' k r z cs':=⟨k2,g1,fun e=>by
     obtain ⟨v,hv1,hv2⟩:=m.a e
     have hi:k+1<cs'.length:=by rw[hl];exact (List.getElem?_eq_some_iff.1 hv1).1
     refine ⟨_,List.getElem?_eq_getElem hi,fun e2=>hv2 (VR.uw (ρ:=bf ρ' σ) fun x=>hv _ _ _ hv1 (List.getElem?_eq_getElem hi) _ _ x hle ?_)⟩
     rw[e2];exact .junk x⟩
    obtain ⟨c2,ty,a1,a2,a3,a4,a5⟩:=p.rel.fam.obj _ _ _ _ _ m'
    refine ⟨F',cs',k1,m',c2,ty,a1,by rw[<- hl];exact a2,fun e=>(a3 e).back (htab e) hl (fun i v v' q1 q2 x=>hv i v v' q1 q2 _ _ x hle),a4,fun i v hi hv2 =>?_⟩
    have hlt:k*z+i<cs'.length:=by rw[hl];exact (List.getElem?_eq_some_iff.1 hv2).1
    obtain ⟨v',b1,b2⟩:=a5 i _ hi (List.getElem?_eq_getElem hlt)
    exact ⟨v',b1,hv _ v _ hv2 (List.getElem?_eq_getElem hlt) _ _ _ hle b2⟩
  ·have hl:F<H0.length:=by
    rcases Nat.lt_or_ge F H0.length with h|h
    ·exact h
    ·exact absurd (.inl h) hc
   have hM:F ∉ ML:=fun h=>hc (.inr h)
   rw[e.old F hl]at k1
   cases k1
   have h3:=e.same F hl hM
   have g5:H0[F]?=some (.fam z cs):=by rw[<- h3];exact m.h
   have m':FM ρ' H' F k r z cs:=⟨k2,by rw[hun F hl hM];exact g5,m.a⟩
   have hr0:ρ0.g F k=some r:=by
    cases hq:ρ0.g F k with
    |none =>
     rcases p.kn _ _ _ k2 hq with h|h
     ·omega
     ·exact absurd h hM
    |some r0=>have:=p.ext.g _ _ _ hq;rw[k2]at this;exact this.symm
   obtain ⟨_,_,_,_,j3,_,j5⟩:=h0.fam.obj F k r z cs ⟨hr0,g5,m.a⟩
   obtain ⟨c2,ty,a1,a2,a3,a4,a5⟩:=p.rel.fam.obj _ _ _ _ _ m'
   refine ⟨F,cs,e.old F hl,m',c2,ty,a1,a2,fun e0=>⟨(a3 e0).1,(a3 e0).2.1,fun row hrow=>⟨((a3 e0).2.2 row hrow).1,fun i v hv2 =>?_⟩⟩,a4,fun i v hi hv2 =>?_⟩
   ·obtain ⟨v',b1,b2⟩:=((a3 e0).2.2 row hrow).2 i v hv2
    obtain ⟨_,_,z2⟩:=((j3 e0).2.2 row hrow).2 i v hv2
    exact ⟨v',b1,z2.down p.ext hext.f hm hext.g b2⟩
   obtain ⟨v',b1,b2⟩:=a5 i v hi hv2
   obtain ⟨_,_,z2⟩:=j5 i v hi hv2
   exact ⟨v',b1,z2.down p.ext hext.f hm hext.g b2⟩
 have hown:∀id id' o,σ id=some id'->H[id]?=some o->o.alive=true->∃o',H'[id']?=some o'/\o'.owned=o.owned/\o'.alive=true:=by
  intro id id' o h1 h2 h3
  rcases hcase id id' o h1 h2 with rfl|⟨o',g1,g2,g3,_⟩
  ·cases h3
  ·exact ⟨o',g1,g2,g3.trans h3⟩
 have hoa:∀o:aa,o.owned=true->o.alive=true:=by intro o ho;cases o <;> first|rfl|cases ho
 have hrel:Rel P B (bf ρ' σ) H w':=by
  refine ⟨p.rel.bsize,fun g hg =>?_,fun id r h =>?_,fun id r h =>?_,fun id r o h1 h2 =>?_,fun id r o h1 h2 h3 =>?_,fun id1 id2 r1 r2 o1 o2 h1 h2 g1 g2 k1 k2 hne =>?_,fun b m hb=>⟨(p.rel.mem b m hb).1,fun id r o h1 h2 h3 =>?_⟩,?_⟩
  ·obtain ⟨r,k1,k2,k3⟩:=h0.cS g hg
   exact ⟨r,hext _ _ k1,k2,k3⟩
  ·obtain ⟨id',h1,_⟩:=hsome h;exact e.dom _ _ h1
  ·obtain ⟨id',h1,h2⟩:=hsome h;exact p.rel.lt _ _ h2
  ·obtain ⟨id',k1,k2⟩:=hsome h1
   rcases hcase id id' o k1 h2 with rfl|⟨o',g1,_,_,g4⟩
   ·trivial
   ·exact g4 r k2 (p.rel.obj _ _ _ k2 g1)
  ·obtain ⟨id',k1,k2⟩:=hsome h1
   obtain ⟨o',g1,g2,_⟩:=hown id id' o k1 h2 (hoa o h3)
   exact p.rel.base id' r o' k2 g1 (by rw[g2];exact h3)
  ·obtain ⟨i1,a1,a2⟩:=hsome h1
   obtain ⟨i2,b1,b2⟩:=hsome h2
   obtain ⟨o1',c1,c2,_⟩:=hown id1 i1 o1 a1 g1 (hoa _ k1)
   obtain ⟨o2',d1,_,d3⟩:=hown id2 i2 o2 b1 g2 k2
   exact p.rel.sep i1 i2 r1 r2 o1' o2' a2 b2 c1 d1 (by rw[c2];exact k1) d3 (fun he=>hne (e.inj _ _ _ _ _ a1 (he ▸ b1) g1 g2 (sR (hoa _ k1)) (sR k2)))
  ·obtain ⟨id',k1,k2⟩:=hsome h1
   obtain ⟨o',g1,g2,_⟩:=hown id id' o k1 h2 (hoa o h3)
   exact (p.rel.mem b m hb).2 id' r o' k2 g1 (by rw[g2];exact h3)
  ·refine ⟨fun F k r h =>?_,fun F k r h =>?_,fun F k r z cs m =>?_,fun F k r z cs m =>?_,fun F1 k1 r1 z1 c1 F2 k2 r2 z2 c2 m1 m2 he =>?_,fun F k r z cs id r2 o m h1 h2 h3 =>?_,fun F k r z cs b mm m hb =>?_,fun F k r cs h h2 =>?_⟩
   ·obtain ⟨F',h1,_⟩:=de h;exact e.dom _ _ h1
   ·obtain ⟨F',_,h2⟩:=de h;exact p.rel.fam.lt _ _ _ h2
   ·obtain ⟨F',cs',_,m',_⟩:=hfm m;exact p.rel.fam.base _ _ _ _ _ m'
   ·obtain ⟨F',cs',_,_,h⟩:=hfm m;exact h
   ·obtain ⟨F1',c1',s1,m1',_⟩:=hfm m1
    obtain ⟨F2',c2',s2,m2',_⟩:=hfm m2
    obtain ⟨rfl,rfl⟩:=p.rel.fam.sep _ _ _ _ _ _ _ _ _ _ m1' m2' he
    exact ⟨e.inj _ _ _ _ _ s1 s2 m1.h m2.h rfl rfl,rfl⟩
   ·obtain ⟨F',cs',_,m',_⟩:=hfm m
    obtain ⟨id',k1,k2⟩:=hsome h1
    obtain ⟨o',g1,_,g3⟩:=hown id id' o k1 h2 h3
    exact p.rel.fam.sep2 _ _ _ _ _ id' r2 o' m' k2 g1 g3
   ·obtain ⟨F',cs',_,m',_⟩:=hfm m;exact p.rel.fam.mem _ _ _ _ _ b mm m' hb
   ·obtain ⟨F',k1,k2⟩:=de h
    by_cases hc:H0.length<=F∨F∈ML
    ·rcases e.obj F F' _ k1 hc h2 with h|⟨o',g1,_,_,_,g5⟩
     ·cases h
     ·obtain ⟨cs',rfl,hl,_⟩:=g5 0 cs rfl
      rw[<- hl];exact p.rel.fam.cnt F' k r cs' k2 g1
    ·have hl:F<H0.length:=by
      rcases Nat.lt_or_ge F H0.length with h|h
      ·exact h
      ·exact absurd (.inl h) hc
     have hM:F ∉ ML:=fun h=>hc (.inr h)
     rw[e.old F hl]at k1
     cases k1
     exact p.rel.fam.cnt F k r cs k2 (by rw[hun F hl hM,<- e.same F hl hM];exact h2)
 refine ⟨⟨hrel,hext,fun id r h1 h2 =>?_,e.len,fun id h1 h2 =>?_,p.size,p.keep,fun b h1 h2 =>?_,p.os,p.tape,p.output,p.frz,p.drawn,fun F k r h1 h2 =>?_⟩,fun tmps ht=>⟨ht.1,fun t hlt =>?_⟩⟩
 ·rcases Nat.lt_or_ge id H0.length with hl|hl
  ·obtain ⟨id',k1,k2⟩:=hsome h1
   rw[e.old id hl]at k1
   cases k1
   exact p.new id r k2 h2
  ·exact hl
 ·exact e.same id h1 h2
 ·rcases h2 with ⟨id,r,o,k1,k2,k3,k4⟩|⟨F,k,r,z,cs,m,he⟩
  ·obtain ⟨id',a1,a2⟩:=hsome k1
   obtain ⟨o',c1,c2,_⟩:=hown id id' o a1 k2 (hoa _ k3)
   exact p.ob b h1 (.inl ⟨id',r,o',a2,c1,by rw[c2];exact k3,k4⟩)
  ·obtain ⟨F',cs',_,m',_⟩:=hfm m
   exact p.ob b h1 (.inr ⟨F',k,r,z,cs',m',he⟩)
 ·rcases Nat.lt_or_ge F H0.length with hl|hl
  ·obtain ⟨F',k1,k2⟩:=de h1
   rw[e.old F hl]at k1
   cases k1
   exact p.kn F k r k2 h2
  ·exact .inl hl
 ·have:=ht.2 t hlt
  rcases e.slots t hlt with h|h
  ·rw[h];exact .junk _
  ·exact gq hσ hm hg d (h _ _ this)
theorem KW.renamed{ro:Option Nat}{N base:Nat}{M ML:List Nat}{c:Code}{T:Tm}{H:Heap}{Q:Exit->Tm->Heap->Prop}(hML:∀id∈ML,id<base->id∈M)
  (h:KW P ro N H.length ML c T H (kd (fun T2 H2 => ∃σ d T3 H3,Emb H ML N σ d T3 H3 T2 H2/\Q .normal T3 H3) Q)):KW P ro N base M c T H Q:=by
 intro B ρ w a n0 h1 h2 h3 h4 h5
 refine wpIn_mono (h B ρ w a n0 h1 (Nat.le_refl _) h3 h4 h5) ?_
 rintro e a2 w2 ⟨ρ2,T2,H2,k1,k2,k3,k4⟩
 cases e with
 |normal =>
  obtain ⟨σ,d,T3,H3,he,hq⟩:=k4
  obtain ⟨q1,q2⟩:=he.post h1 k1
  exact ⟨_,T3,H3,q1.weaken h2 (fun id hid hb=>hML id hid hb),q2 _ k2,k3,hq⟩
 |_=>exact ⟨ρ2,T2,H2,k1.weaken h2 (fun id hid hb=>hML id hid hb),k2,k3,k4⟩
theorem KW.HK{ro:Option Nat}{N base:Nat}{M ML:List Nat}{c:Code}{T:Tm}{H:Heap}{Q:Exit->Tm->Heap->Prop}(hML:∀id∈ML,id<base->id∈M)(I:Nat->Tm->Heap->Prop)
  (h0:∃n σ d T1 H1,I n T1 H1/\Emb H ML N σ d T1 H1 T H)
  (hI:∀n T1 H1,I n T1 H1->∀id,id<H.length->id ∉ ML->H1[id]?=H[id]?)
  (round:∀n T1 H1,H.length<=H1.length->I n T1 H1->KW P ro N H.length ML c T1 H1 (kd (fun T2 H2 => ∃k σ d T3 H3,k<n/\I k T3 H3/\Emb H ML N σ d T3 H3 T2 H2) Q)):KW P ro N base M (.loop c) T H Q:=by
 intro B ρ w a n0 h1 h2 h3 h4 h5
 have key:∀(m:Nat) (n:Nat) (ρ':Ren) (T':Tm) (H':Heap) (w':World) (a':Act),n<m->Post P B H.length ML ρ H w ρ' H' w'->TR ρ' N T' a'.tmps->DOK n0 a'.defers w'->I n T' H' ->
   Code.roundsIn (Fw ro) 0 P c (fun e a' w' => ∃ρ' T' H',Post P B base M ρ H w ρ' H' w'/\TR ρ' N T' a'.tmps/\DOK n0 a'.defers w'/\Q e T' H') m a' w':=by
  intro m
  induction m with
  |zero=>intro n _ _ _ _ _ hlt;omega
  |succ m ih =>
   intro n ρ' T' H' w' a' hlt hp hT hD hIn
   rw[roundsIn_succ]
   refine wpIn_mono (round n T' H' hp.len hIn B ρ' w' a' n0 hp.rel hp.len hT (Nat.le_trans h4 hp.size) hD) ?_
   rintro e a2 w2 ⟨ρ2,T2,H2,k1,k2,k3,k4⟩
   cases e with
   |normal =>
    obtain ⟨k,σ,d,T3,H3,hk,hI3,he⟩:=k4
    obtain ⟨q1,q2⟩:=he.post h1 (hp.trans k1)
    exact ih k _ T3 H3 w2 a2 (by omega) q1 (q2 _ k2) k3 hI3
   |_=>exact ⟨ρ2,T2,H2,(hp.trans k1).weaken h2 (fun id hid hb=>hML id hid hb),k2,k3,k4⟩
 obtain ⟨n,σ,d,T1,H1,hIn,he⟩:=h0
 obtain ⟨q1,q2⟩:=he.post h1 (Post.refl h1)
 exact wpIn_loop_rounds (n+1) (key (n+1) n _ T1 H1 w a (by omega) q1 (q2 _ h3) h5 hIn)
theorem fy{H:Heap}(gs:List aa){id:Nat}(h:id<H.length):(H++gs)[id]?=H[id]? := List.getElem?_append_left h
theorem Rel.ghost{B:Nat}{ρ:Ren}{H:Heap}{w:World}(h:Rel P B ρ H w)(gs:List aa):Rel P B ρ (H++gs) w:=by
 have g:∀{id r},ρ id=some r->(H++gs)[id]?=H[id]? := fun a=>fy gs (h.dom _ _ a)
 refine ⟨h.bsize,h.cS,fun id r a=>by have:=h.dom id r a;rw[List.length_append];omega,h.lt,fun id r o a b=>h.obj id r o a (by rw[<- g a];exact b),fun id r o a b=>h.base id r o a (by rw[<- g a];exact b),
  fun i j x y o o' a b c d=>h.sep i j x y o o' a b (by rw[<- g a];exact c) (by rw[<- g b];exact d),fun b m hb=>⟨(h.mem b m hb).1,fun id r o a c=>(h.mem b m hb).2 id r o a (by rw[<- g a];exact c)⟩,
  h.fam.keep (Ren.le_refl _) (fun _ _ _ h=>h) (fun F z cs hF h=>by rw[List.getElem?_append_left hF]at h;exact h) (by simp) (Nat.le_refl _) (fun _ _=>rfl) (fun id r o a b c=>h.fam.free a (by rw[<- g a];exact b) c) (fun b m k=>h.fam.ez k)⟩
theorem OB.ghost{B:Nat}{ρ:Ren}{H:Heap}{w:World}(h:Rel P B ρ H w)(gs:List aa)(b:Nat):OB ρ (H++gs) b ↔ OB ρ H b:=by
 have g:∀{id r},ρ id=some r->(H++gs)[id]?=H[id]? := fun a=>fy gs (h.dom _ _ a)
 constructor
 ·rintro (⟨id,r,o,a,b,c⟩|⟨F,k,r,z,cs,m,e⟩)
  ·exact .inl ⟨id,r,o,a,by rw[<- g a];exact b,c⟩
  ·exact .inr ⟨F,k,r,z,cs,⟨m.g,by have:=m.h;rw[fy gs (h.fam.dom F k r m.g)]at this;exact this,m.a⟩,e⟩
 ·rintro (⟨id,r,o,a,b,c⟩|⟨F,k,r,z,cs,m,e⟩)
  ·exact .inl ⟨id,r,o,a,by rw[g a];exact b,c⟩
  ·exact .inr ⟨F,k,r,z,cs,⟨m.g,by rw[fy gs (h.fam.dom F k r m.g)];exact m.h,m.a⟩,e⟩
theorem Post.ghost{B base:Nat}{M:List Nat}{ρ ρ':Ren}{H H':Heap}{w w':World}(p:Post P B base M ρ H w ρ' H' w')(hb:base<=H.length)(gs:List aa):Post P B base M ρ H w ρ' (H'++gs) w' :=
 { p with
  rel:=p.rel.ghost gs
  len:=by have:=p.len;rw[List.length_append];omega
  same:=fun id h1 h2=>by rw[fy gs (by have:=p.len;omega)];exact p.same id h1 h2
  ob:=fun b h1 h2=>p.ob b h1 ((OB.ghost p.rel gs b).1 h2) }
theorem Post.Cs{B:Nat}{M:List Nat}{ρ ρ':Ren}{H H':Heap}{w w':World}{gs:List aa}(h0:Rel P B ρ H w)(p:Post P B (H++gs).length M ρ (H++gs) w ρ' H' w'):Post P B H.length M ρ H w ρ' H' w' :=
 { p with
  new:=fun id r a b=>by have:=p.new id r a b;rw[List.length_append]at this;omega
  len:=by have:=p.len;rw[List.length_append]at this;omega
  same:=fun id h1 h2=>by rw[p.same id (by rw[List.length_append];omega) h2,fy gs h1]
  keep:=fun b h1 h2=>p.keep b h1 (fun h=>h2 ((OB.ghost h0 gs b).1 h))
  ob:=fun b h1 h2=>(OB.ghost h0 gs b).1 (p.ob b h1 h2)
  frz:=fun b m hb=>(p.frz b m hb).imp id fun h=>h.imp id (OB.ghost h0 gs b).1
  kn:=fun F k r a b=>(p.kn F k r a b).imp (fun h=>by rw[List.length_append]at h;omega) id }
theorem ad.weak{f:FuncId}{args:List Value}{H:Heap}{M:List Nat}{Q Q':Value->Heap->Prop}(h:ad P f args H M Q)
  (hq:∀v H',Q v H'->∃v2 gs,wk v v2/\Q' v2 (H'++gs)):ad P f args H M Q':=by
 refine ⟨h.1,fun B ρ w args' hr ha=>(h.2 B ρ w args' hr ha).mono ?_⟩
 rintro e w' ⟨v,v',ρ',H',rfl,hv,hp,hQ⟩
 obtain ⟨v2,gs,k1,k2⟩:=hq v H' hQ
 exact ⟨v2,v',ρ',H'++gs,rfl,k1 _ _ hv,hp.ghost (Nat.le_refl _) gs,k2⟩
theorem ad.zw{f:FuncId}{args args2:List Value}{H:Heap}{M:List Nat}{Q:Value->Heap->Prop}(gs:List aa)(h:ad P f args2 (H++gs) M Q)
  (hl:args.length=args2.length) (ha:∀(i:Nat) (a b:Value),args[i]?=some a->args2[i]?=some b->wk a b):ad P f args H M Q:=by
 refine ⟨h.1,fun B ρ w args' hr hv=>(h.2 B ρ w args' (hr.ghost gs) ⟨hl.symm.trans hv.1,fun i b v' h1 h2 =>?_⟩).mono ?_⟩
 ·have hi:i<args.length:=by rw[hl];exact (List.getElem?_eq_some_iff.1 h1).1
  exact ha i _ b (List.getElem?_eq_getElem hi) h1 _ _ (hv.2 i _ v' (List.getElem?_eq_getElem hi) h2)
 ·rintro e w' ⟨v,v',ρ',H',rfl,h1,hp,hQ⟩
  exact ⟨v,v',ρ',H',rfl,h1,hp.Cs hr,hQ⟩
end
end Go.K
namespace Go.K
variable {P:Program}
def Ren.frz(ρ:Ren)(b:Nat)(m:Array Value):Ren:=⟨ρ.f,fun x=>if x=b then some m else ρ.mem x,ρ.g⟩
theorem Post.yZ{B base:Nat}{M:List Nat}{ρ:Ren}{H:Heap}{w:World}(hr:Rel P B ρ H w){id z:Nat}{r:RI}{cs:List Value}{m:Array Value}{ty:TypeId}{fz:Nat×Nat}(hid:ρ id=some r)(ho:H[id]?=some (.cells true z cs))
  (hb:w.heap[r.b]?=some (.cells m ty fz)) (hM:id<base->id∈M):Post P B base M ρ H w (ρ.frz r.b m) (H.set id .dead) w:=by
 have p:=Post.kill (base:=base) (M:=M) hr hid ho rfl hM
 have hno:∀m',ρ.mem r.b=some m'->False:=fun m' h=>(hr.mem r.b m' h).2 id r _ hid ho rfl rfl
 have hle:Ren.le ρ (ρ.frz r.b m):=⟨fun _ _ h=>h,fun b m' h=>by
  show (if _ then _ else _)=_
  by_cases e:b=r.b
  ·subst e;exact (hno m' h).elim
  ·rw[if_neg e];exact h,fun _ _ _ h=>h⟩
 refine ⟨⟨p.rel.bsize,p.rel.cS,p.rel.dom,p.rel.lt,fun i x o h1 h2=>(p.rel.obj i x o h1 h2).mono hle rfl,p.rel.base,p.rel.sep,fun b m' h =>?_,p.rel.fam.keep hle (fun _ _ _ h=>h) (fun _ _ _ _ h=>h) (Nat.le_refl _) (Nat.le_refl _) (fun _ _=>rfl) (fun i x o a b c=>p.rel.fam.free a b c) (fun b m' h=>by
   have h':(if b=r.b then some m else ρ.mem b)=some m':=h
   by_cases e:b=r.b
   ·subst e
    exact fun hf=>hr.fam.free hid ho rfl (FB.FP (fun _ _ h=>by cases h) hf)
   ·rw[if_neg e]at h';exact p.rel.fam.ez h')⟩,hle,p.new,p.len,p.same,p.size,p.keep,fun b hb ho2=>p.ob b hb (ho2.imp (fun q=>q) fun ⟨F,k,x,z,c,m,e⟩=>⟨F,k,x,z,c,⟨m.g,m.h,m.a⟩,e⟩),p.os,p.tape,p.output,fun b m' h =>?_,p.drawn,p.kn⟩
 ·have h':(if b=r.b then some m else ρ.mem b)=some m':=h
  by_cases e:b=r.b
  ·rw[if_pos e]at h';cases h';subst e
   refine ⟨⟨ty,fz,hb⟩,fun i x o h1 h2 h3 he =>?_⟩
   by_cases e2:i=id
   ·subst e2
    rw[List.getElem?_set_self (List.getElem?_eq_some_iff.1 ho).1]at h2
    cases h2;cases h3
   ·rw[List.getElem?_set_ne (Ne.symm e2)]at h2
    have hal:o.alive=true:=by cases o <;> first|rfl|cases h3
    exact hr.sep id i r x _ o hid h1 ho h2 rfl hal (Ne.symm e2) he.symm
  ·rw[if_neg e]at h';exact p.rel.mem b m' h'
 ·have h':(if b=r.b then some m else ρ.mem b)=some m':=h
  by_cases e:b=r.b
  ·exact .inr (.inr (.inl ⟨id,r,_,hid,ho,rfl,e.symm⟩))
  ·rw[if_neg e]at h';exact .inl h'
theorem VR.freeze{ρ:Ren}{r:RI}{id z n c:Nat}{tag:Option Nat}{cs:List Value}{H:Heap}{w:World}{m:Array Value}{ty:TypeId}{fz:Nat×Nat}(htag:tag=none∨tag=some 1)(hid:ρ id=some r)
  (hb:w.heap[r.b]?=some (.cells m ty fz)) (ho:aI ρ r (.cells true z cs) w) (hle:Ren.le ρ (ρ.frz r.b m)) {x:Value} (h:VR ρ (.slice (some ⟨id,0,tag⟩) n c) x):VR (ρ.frz r.b m) (.iface (n+1) (.agg ⟨cs⟩)) x:=by
 obtain ⟨_,_,m',ty',fz',hb',hsz,_,hcs⟩:=ho
 rw[hb]at hb';cases hb'
 have hm:(ρ.frz r.b m).mem r.b=some m:=by show (if _ then _ else _)=_;rw[if_pos rfl]
 have main:∀cap',n<=cap'->VR (ρ.frz r.b m) (.iface (n+1) (.agg ⟨cs⟩)) (.slice (some ⟨r.b,0+r.s,none⟩) n cap'):=by
  intro cap' hc
  rw[Nat.zero_add]
  rcases Nat.eq_zero_or_pos n with rfl|hp
  ·exact .br
  ·refine .deep hm hp hc ?_ (fun i v v' a b =>?_)
   ·rcases Nat.eq_zero_or_pos cs.length with h0|h0
    ·exact .inl h0
    ·right
     obtain ⟨v',g1,_⟩:=hcs (cs.length-1) _ (List.getElem?_eq_getElem (by omega))
     have:=(Array.getElem?_eq_some_iff.1 g1).1
     show cs.length+r.s<=m.size
     omega
   ·obtain ⟨v2,g1,g2⟩:=hcs i v (by simpa using a)
    rw[g1]at b;cases b
    exact g2.mono hle
 rcases htag with rfl|rfl
 ·cases h with
  |slice h' hl hc _=>rw[hid]at h';cases h';exact main _ (Nat.le_trans hl hc)
  |aQ h'=>exact .br
 ·cases h with
  |ax=>exact .br
  |ay=>exact .br
  |aD h' hp hl hc _=>rw[hid]at h';cases h';exact main _ (Nat.le_trans hl hc)
theorem VR.jk{ρ:Ren}{id n c:Nat}{tag:Option Nat}{cs:List Value}(htag:tag=none∨tag=some 1)(hid:ρ id=none){x:Value}(h:VR ρ (.slice (some ⟨id,0,tag⟩) n c) x):VR ρ (.iface (n+1) (.agg ⟨cs⟩)) x:=by
 rcases htag with rfl|rfl
 ·cases h with
  |slice h' hl hc _=>rw[hid]at h';cases h'
  |aQ h'=>rw[hid]at h';cases h'
 ·cases h with
  |ax=>exact .br
  |ay=>exact .br
  |aD h' hp hl hc _=>rw[hid]at h';cases h'
theorem aL.freeze{base:Nat}{M:List Nat}{T:Tm}{H:Heap}{t id n c z:Nat}{tag:Option Nat}{cs:List Value}(hT:T t = .slice (some ⟨id,0,tag⟩) n c)(htag:tag=none∨tag=some 1)(ho:H[id]?=some (.cells true z cs))(hM:id<base->id∈M) :
  aL P base M T H (put T (some t) (.iface (n+1) (.agg ⟨cs⟩))) (H.set id .dead):=by
 intro B ρ w N tmps h1 h2 h3
 have fin:∀ρ1,Post P B base M ρ H w ρ1 (H.set id .dead) w->(∀x,VR ρ (T t) x->VR ρ1 (.iface (n+1) (.agg ⟨cs⟩)) x)->∃ρ',Post P B base M ρ H w ρ' (H.set id .dead) w/\TR ρ' N (put T (some t) (.iface (n+1) (.agg ⟨cs⟩))) tmps:=by
  intro ρ1 p hv
  refine ⟨ρ1,p,h3.1,fun s hs =>?_⟩
  have:=h3.2 s hs
  show VR ρ1 (upd T t _ s) _
  unfold upd
  by_cases e:s=t
  ·subst e
   rw[if_pos rfl]
   exact hv _ this
  ·rw[if_neg e]
   exact this.mono p.ext
 cases hid:ρ id with
 |none=>exact fin ρ (Post.kr h1 ho rfl hM) (fun x hx=>VR.jk htag hid (by rw[<- hT];exact hx))
 |some r =>
  have hob:=h1.obj id r _ hid ho
  obtain ⟨_,_,m,ty,fz,hb,_⟩:=hob
  have p:=Post.yZ (base:=base) (M:=M) h1 hid ho hb hM
  exact fin _ p (fun x hx=>VR.freeze (H:=H) htag hid hb (h1.obj id r _ hid ho) p.ext (by rw[<- hT];exact hx))
theorem Post.more{B base:Nat}{M:List Nat}{ρ:Ren}{H:Heap}{w:World}(hr:Rel P B ρ H w)(hob:base<=H.length)(cs:List Value):Post P B base M ρ H w ρ (H ++ [.cells false 0 cs]) w:=by
 have hlt:∀id r o,ρ id=some r->(H ++ [aa.cells false 0 cs])[id]?=some o->H[id]?=some o:=fun id r o h1 h2=>by
  rw[List.getElem?_append_left (hr.dom _ _ h1)]at h2;exact h2
 refine ⟨⟨hr.bsize,hr.cS,fun id r h=>by have:=hr.dom _ _ h;rw[List.length_append];omega,hr.lt,fun id r o h1 h2=>hr.obj id r o h1 (hlt id r o h1 h2),fun id r o h1 h2=>hr.base id r o h1 (hlt id r o h1 h2),fun id id' r r' o o' h1 h1' h2 h2'=>hr.sep id id' r r' o o' h1 h1' (hlt _ _ _ h1 h2) (hlt _ _ _ h1' h2'),fun b m h=>⟨(hr.mem b m h).1,fun id r o h1 h2=>(hr.mem b m h).2 id r o h1 (hlt _ _ _ h1 h2)⟩,
   hr.fam.keep (Ren.le_refl _) (fun _ _ _ h=>h) (fun F z cs hF h=>by rw[List.getElem?_append_left hF]at h;exact h) (by simp) (Nat.le_refl _) (fun _ _=>rfl) (fun id r o a b c=>hr.fam.free a (hlt _ _ _ a b) c) (fun b m h=>hr.fam.ez h)⟩,
  Ren.le_refl _,fun id r a b=>(by rw[b]at a;cases a),by rw[List.length_append];omega,fun id h1 _=>List.getElem?_append_left (by omega),Nat.le_refl _,fun _ _ _=>rfl,fun b _ ho =>?_,rfl,rfl,rfl,fun _ _ h => .inl h,Nat.le_refl _,fun F k r a b=>(by rw[b]at a;cases a)⟩
 rcases ho with ⟨id,r,o,h1,h2,h3,h4⟩|⟨F,k,r,z,c,m,e⟩
 ·exact .inl ⟨id,r,o,h1,hlt _ _ _ h1 h2,h3,h4⟩
 ·exact .inr ⟨F,k,r,z,c,⟨m.g,by have:=m.h;rw[List.getElem?_append_left (hr.fam.dom F k r m.g)]at this;exact this,m.a⟩,e⟩
theorem Post.read{B base:Nat}{M:List Nat}{ρ:Ren}{H:Heap}{w:World}(hr:Rel P B ρ H w)(hob:base<=H.length){b s:Nat}{m:Array Value}(hm:ρ.mem b=some m){cs:List Value}(h1:cs.length=0∨cs.length+s<=m.size)
  (h2:∀(i:Nat) (v v':Value),cs[i]?=some v->m[i+s]?=some v'->VR ρ v v'):Post P B base M ρ H w (ρ.set H.length ⟨b,s,m.size,0,false⟩) (H ++ [.cells false 0 cs]) w:=by
 have hnone:ρ H.length=none:=by
  cases h:ρ H.length with
  |none=>rfl
  |some r=>exact absurd (hr.dom _ _ h) (Nat.lt_irrefl _)
 have hle:=Ren.dr (r:=⟨b,s,m.size,0,false⟩) hnone
 obtain ⟨⟨ty,fz,hb⟩,hmo⟩:=hr.mem b m hm
 have hnew:(H ++ [aa.cells false 0 cs])[H.length]?=some (.cells false 0 cs):=by simp
 have hold:∀id r,id≠H.length->ρ.set H.length ⟨b,s,m.size,0,false⟩ id=some r->ρ id=some r/\(H ++ [aa.cells false 0 cs])[id]?=H[id]? := fun id r e h=>by
  rw[Ren.au e]at h
  exact ⟨h,List.getElem?_append_left (hr.dom _ _ h)⟩
 refine ⟨⟨hr.bsize,fun g hg =>?_,fun id r h =>?_,fun id r h =>?_,fun id r o h3 h4 =>?_,fun id r o h3 h4 h5 =>?_,fun id id' r r' o o' h3 h3' h4 h4' h5 h5' hne =>?_,fun b' m' h=>⟨(hr.mem b' m' h).1,fun id r o h3 h4 h5 =>?_⟩,
   hr.fam.keep hle (fun _ _ _ h=>h) (fun F z cs hF h=>by rw[List.getElem?_append_left hF]at h;exact h) (by simp) (Nat.le_refl _) (fun _ _=>rfl) (fun id r o h1 h2 h3=>by
    by_cases e:id=H.length
    ·subst e;rw[Ren.av]at h1;cases h1;exact hr.fam.ez hm
    ·obtain ⟨k1,k2⟩:=hold id r e h1
     rw[k2]at h2
     exact hr.fam.free k1 h2 h3) (fun b m h=>hr.fam.ez h)⟩,
  hle,fun id r h3 h4 =>?_,by rw[List.length_append];omega,fun id h1 _=>List.getElem?_append_left (by omega),Nat.le_refl _,fun _ _ _=>rfl,fun b' _ ho =>?_,rfl,rfl,rfl,fun _ _ h => .inl h,Nat.le_refl _,fun F k r a b=>(by rw[show (ρ.set H.length _).g=ρ.g from rfl,b]at a;cases a)⟩
 ·obtain ⟨r,k1,k2,k3⟩:=hr.cS g hg;exact ⟨r,hle _ _ k1,k2,k3⟩
 ·rw[List.length_append]
  by_cases e:id=H.length
  ·simp[e]
  ·have:=hr.dom _ _ (hold id r e h).1;omega
 ·by_cases e:id=H.length
  ·subst e;rw[Ren.av]at h;cases h;exact (Array.getElem?_eq_some_iff.1 hb).1
  ·exact hr.lt _ _ (hold id r e h).1
 ·by_cases e:id=H.length
  ·subst e
   rw[Ren.av]at h3;cases h3
   rw[hnew]at h4;cases h4
   refine ⟨rfl,rfl,m,ty,fz,hb,rfl,fun h=>(by cases h),fun i v hv =>?_⟩
   have hi:i+s<m.size:=by have:=(List.getElem?_eq_some_iff.1 hv).1;omega
   exact ⟨_,Array.getElem?_eq_getElem hi,(h2 i v _ hv (Array.getElem?_eq_getElem hi)).mono hle⟩
  ·obtain ⟨k1,k2⟩:=hold id r e h3
   rw[k2]at h4
   exact (hr.obj id r o k1 h4).mono hle rfl
 ·by_cases e:id=H.length
  ·subst e;rw[hnew]at h4;cases h4;cases h5
  ·obtain ⟨k1,k2⟩:=hold id r e h3
   rw[k2]at h4
   exact hr.base id r o k1 h4 h5
 ·by_cases e:id=H.length
  ·subst e;rw[hnew]at h4;cases h4;cases h5
  ·obtain ⟨k1,k2⟩:=hold id r e h3
   rw[k2]at h4
   by_cases e':id'=H.length
   ·subst e'
    rw[Ren.av]at h3';cases h3'
    exact hmo id r o k1 h4 h5
   ·obtain ⟨k1',k2'⟩:=hold id' r' e' h3'
    rw[k2']at h4'
    exact hr.sep id id' r r' o o' k1 k1' h4 h4' h5 h5' hne
 ·by_cases e:id=H.length
  ·subst e;rw[hnew]at h4;cases h4;cases h5
  ·obtain ⟨k1,k2⟩:=hold id r e h3
   rw[k2]at h4
   exact (hr.mem b' m' h).2 id r o k1 h4 h5
 ·by_cases e:id=H.length
  ·omega
  ·have:=(hold id r e h3).1
   rw[h4]at this;cases this
 ·rcases ho with ⟨id,r,o,k1,k2,k3,k4⟩|⟨F,k,r,z,c,m,e⟩
  ·by_cases e:id=H.length
   ·subst e;rw[hnew]at k2;cases k2;cases k3
   ·obtain ⟨g1,g2⟩:=hold id r e k1
    rw[g2]at k2
    exact .inl ⟨id,r,o,g1,k2,k3,k4⟩
  ·exact .inr ⟨F,k,r,z,c,⟨m.g,by have:=m.h;rw[List.getElem?_append_left (hr.fam.dom F k r m.g)]at this;exact this,m.a⟩,e⟩
theorem aL.read{base:Nat}{M:List Nat}{T:Tm}{H:Heap}{t n:Nat}{cs:Array Value}(hT:T t = .iface (n+1) (.agg cs)) :
  aL P base M T H (put T (some t) (.slice (some ⟨H.length,0,some 2⟩) n n)) (H ++ [.cells false 0 cs.toList]):=by
 intro B ρ w N tmps hr hob h3
 have fin:∀ρ1,Post P B base M ρ H w ρ1 (H ++ [.cells false 0 cs.toList]) w->(t<N->VR ρ1 (.slice (some ⟨H.length,0,some 2⟩) n n) (tmps.getD t undef))->∃ρ',Post P B base M ρ H w ρ' (H ++ [.cells false 0 cs.toList]) w/\TR ρ' N (put T (some t) (.slice (some ⟨H.length,0,some 2⟩) n n)) tmps:=by
  intro ρ1 p hv
  refine ⟨ρ1,p,h3.1,fun s hs =>?_⟩
  have:=h3.2 s hs
  show VR ρ1 (upd T t _ s) _
  unfold upd
  by_cases e:s=t
  ·subst e;rw[if_pos rfl];exact hv hs
  ·rw[if_neg e];exact this.mono p.ext
 by_cases ht:t<N
 ·have hv:=h3.2 t ht
  rw[hT]at hv
  generalize tmps.getD t undef=x at hv fin
  cases hv with
  | @deep n b s cap' cs m hm hp hc h1 h2 =>
   refine fin _ (Post.read hr hob hm (cs:=cs.toList) (by simpa using h1) (fun i v v' a b=>h2 i v v' (by simpa using a) b)) (fun _ =>?_)
   have:=VR.aX (ρ:=ρ.set H.length ⟨b,s,m.size,0,false⟩) (id:=H.length) (o:=0) (r:=⟨b,s,m.size,0,false⟩) (len:=n) (cap:=n) (cap':=cap') (Ren.av ..) hp (Nat.le_refl _) hc (fun h=>by cases h)
   rw[Nat.zero_add]at this
   exact this
  |br=>exact fin _ (Post.more hr hob _) (fun _ => .aB)
 ·exact fin _ (Post.more hr hob _) (fun h=>absurd h ht)
def tf(A F k:Nat):Nat->Value->Value
 |0,v=>v
 |d+1,v=>match v with
  | .pointer (some ⟨id,off,none⟩)=>cond (Nat.beq id A) (.pointer (some ⟨F,off,some (k+3)⟩)) (.pointer (some ⟨id,off,none⟩))
  | .func (.func f) first cap => .func (.func f) ⟨first.toList.map (tf A F k d)⟩ ⟨cap.toList.map (tf A F k d)⟩
  | .agg cs => .agg ⟨cs.toList.map (tf A F k d)⟩
  | .tuple cs => .tuple ⟨cs.toList.map (tf A F k d)⟩
  |v=>v
theorem rF{ρ:Ren}{f:Value->Value}(ih:∀{v x:Value},VR ρ v x->VR ρ (f v) x){cs cs':Array Value}(h1:cs.size=cs'.size)(h2:∀(i:Nat) (v v':Value),cs[i]?=some v->cs'[i]?=some v'->VR ρ v v') :
  (⟨cs.toList.map f⟩:Array Value).size=cs'.size/\∀(i:Nat) (v v':Value),(⟨cs.toList.map f⟩:Array Value)[i]?=some v->cs'[i]?=some v'->VR ρ v v':=by
 have e:(⟨cs.toList.map f⟩:Array Value)=cs.map f:=Array.toList_inj.1 (by simp)
 rw[e]
 refine ⟨by simpa using h1,fun i v v' a b =>?_⟩
 rw[Array.getElem?_map]at a
 obtain ⟨x,hx,rfl⟩:=Option.map_eq_some_iff.1 a
 exact ih (h2 i x v' hx b)
theorem Ez{ρ:Ren}{A F k:Nat}(hA:∀r,ρ A=some r->ρ.g F k=some r):∀(d:Nat) {v x:Value},VR ρ v x->VR ρ (tf A F k d v) x:=by
 intro d
 induction d with
 |zero=>intro v x h;exact h
 |succ d ih =>
  intro v x h
  unfold tf
  split
  ·rename_i id off
   cases hb:Nat.beq id A with
   |false=>exact h
   |true =>
    rw[Nat.eq_of_beq_eq_true hb]at h
    cases h with|ptr hr=>exact .dS (hA _ hr)
  ·cases h with
   |func h1 h2 h3 h4 =>
    obtain ⟨a1,a2⟩:=rF ih h1 h2
    obtain ⟨b1,b2⟩:=rF ih h3 h4
    exact .func a1 a2 b1 b2
  ·cases h with|agg h1 h2=>obtain ⟨a1,a2⟩:=rF ih h1 h2;exact .agg a1 a2
  ·cases h with|tuple h1 h2=>obtain ⟨a1,a2⟩:=rF ih h1 h2;exact .tuple a1 a2
  ·exact h
theorem Post.zW{B base:Nat}{M:List Nat}{ρ:Ren}{H:Heap}{w:World}(hr:Rel P B ρ H w){b:Nat}{o o':aa}(ho:H[b]?=some o)(h1:o'.owned=o.owned)(h2:o'.alive=o.alive)
  (hf:∀z cs,o ≠ .fam z cs) (hf':∀z cs,o' ≠ .fam z cs) (h':∀r,ρ b=some r->aI ρ r o w->aI ρ r o' w) (hM:b<base->b∈M):Post P B base M ρ H w ρ (H.set b o') w:=by
 have hbl:b<H.length:=(List.getElem?_eq_some_iff.1 ho).1
 have back:∀(i:Nat) (p:aa),(H.set b o')[i]?=some p->∃q:aa,H[i]?=some q/\q.owned=p.owned/\q.alive=p.alive:=fun i p h=>by
  by_cases e:i=b
  ·subst e
   rw[List.getElem?_set_self hbl]at h;cases h
   exact ⟨o,ho,h1.symm,h2.symm⟩
  ·rw[List.getElem?_set_ne (Ne.symm e)]at h
   exact ⟨p,h,rfl,rfl⟩
 have ju:∀(F z:Nat) (cs:List Value),(H.set b o')[F]?=some (.fam z cs)->H[F]?=some (.fam z cs):=fun F z cs h=>by
  by_cases e:F=b
  ·subst e
   rw[List.getElem?_set_self hbl]at h;cases h
   exact absurd rfl (hf' z cs)
  ·rw[List.getElem?_set_ne (Ne.symm e)]at h;exact h
 refine ⟨⟨hr.bsize,hr.cS,fun i x h=>by simpa using hr.dom i x h,hr.lt,fun i x p a c =>?_,fun i x p a c d =>?_,fun i j x y p q a c d e f g hne =>?_,fun b' m hm=>⟨(hr.mem b' m hm).1,fun i x p a c d =>?_⟩,
   hr.fam.keep (Ren.le_refl _) (fun _ _ _ h=>h) (fun F z cs _ h=>ju F z cs h) (by simp) (Nat.le_refl _) (fun _ _=>rfl) (fun i x p a c d =>?_) (fun b m h=>hr.fam.ez h)⟩,
  Ren.le_refl _,fun i x a b=>(by rw[b]at a;cases a),by simp,fun i h3 h4=>List.getElem?_set_ne (fun (e:b=i)=>h4 (by subst e;exact hM h3)),Nat.le_refl _,fun _ _ _=>rfl,fun b' _ hob =>?_,rfl,rfl,rfl,fun _ _ h => .inl h,Nat.le_refl _,fun F k r a b=>(by rw[b]at a;cases a)⟩
 ·by_cases e:i=b
  ·subst e
   rw[List.getElem?_set_self hbl]at c;cases c
   exact h' x a (hr.obj _ x o a ho)
  ·rw[List.getElem?_set_ne (Ne.symm e)]at c
   exact hr.obj i x p a c
 ·obtain ⟨q,q1,q2,_⟩:=back i p c;exact hr.base i x q a q1 (by rw[q2];exact d)
 ·obtain ⟨p',p1,p2,_⟩:=back i p d
  obtain ⟨q',q1,_,q3⟩:=back j q e
  exact hr.sep i j x y p' q' a c p1 q1 (by rw[p2];exact f) (by rw[q3];exact g) hne
 ·obtain ⟨q,q1,q2,_⟩:=back i p c;exact (hr.mem b' m hm).2 i x q a q1 (by rw[q2];exact d)
 ·obtain ⟨q,q1,_,q3⟩:=back i p c;exact hr.fam.free a q1 (by rw[q3];exact d)
 ·rcases hob with ⟨i,x,p,a,c,d,e⟩|⟨F,k,x,z,cs,m,e⟩
  ·obtain ⟨q,q1,q2,_⟩:=back i p c;exact .inl ⟨i,x,q,a,q1,by rw[q2];exact d,e⟩
  ·exact .inr ⟨F,k,x,z,cs,⟨m.g,ju F z cs m.h,m.a⟩,e⟩
theorem aI.tf{ρ:Ren}{A F k d:Nat}(hA:∀r,ρ A=some r->ρ.g F k=some r){r:RI}{own:Bool}{z:Nat}{cs:List Value}{w:World}(h:aI ρ r (.cells own z cs) w):aI ρ r (.cells own z (cs.map (tf A F k d))) w:=by
 obtain ⟨h1,h2,cs',ty,fz,h3,h4,h5,h6⟩:=h
 refine ⟨h1,h2,cs',ty,fz,h3,h4,h5,fun i v a =>?_⟩
 rw[List.getElem?_map]at a
 obtain ⟨x,hx,rfl⟩:=Option.map_eq_some_iff.1 a
 obtain ⟨v',b,c⟩:=h6 i x hx
 exact ⟨v',b,Ez hA d c⟩
def Ren.mem1(ρ:Ren)(A F k:Nat):Ren:=⟨ρ.f,ρ.mem,fun F' k'=>if F'=F/\k'=k then ρ.f A else ρ.g F' k'⟩
theorem Post.member{B base:Nat}{M:List Nat}{ρ:Ren}{H:Heap}{w:World}(hr:Rel P B ρ H w){A F k z zA:Nat}{cs ms:List Value}(hA:H[A]?=some (.cells true zA cs))(hF:H[F]?=some (.fam z ms))
  (hz:cs.length=z) (h0:0<z) (hk:ms.length=k*z) (hMA:A<base->A∈M) (hMF:F<base->F∈M) :
  Post P B base M ρ H w (ρ.mem1 A F k) ((H.set A .dead).set F (.fam z (ms++cs))) w:=by
 have hAl:A<H.length:=(List.getElem?_eq_some_iff.1 hA).1
 have hFl:F<H.length:=(List.getElem?_eq_some_iff.1 hF).1
 have hne:A≠F:=fun e=>by subst e;rw[hA]at hF;cases hF
 have hgn:ρ.g F k=none:=by
  cases hq:ρ.g F k with
  |none=>rfl
  |some r =>
   obtain ⟨_,_,_,a2,_⟩:=hr.fam.obj F k r z ms ⟨hq,hF,fun e=>absurd e (by omega)⟩
   rw[Nat.add_mul,Nat.one_mul,hk]at a2;omega
 have hle:Ren.le ρ (ρ.mem1 A F k):=⟨fun _ _ h=>h,fun _ _ h=>h,fun F' k' r h=>by
  show (if _ then _ else _)=_
  rw[if_neg]
  ·exact h
  ·rintro ⟨rfl,rfl⟩;rw[hgn]at h;cases h⟩
 have hgA:((H.set A .dead).set F (.fam z (ms++cs)))[A]?=some .dead:=by
  rw[List.getElem?_set_ne (Ne.symm hne),List.getElem?_set_self hAl]
 have hgF:((H.set A .dead).set F (.fam z (ms++cs)))[F]?=some (.fam z (ms++cs)):=List.getElem?_set_self (by simpa using hFl)
 have hgo:∀i,i≠A->i≠F->((H.set A .dead).set F (.fam z (ms++cs)))[i]?=H[i]? := fun i a b=>by
  rw[List.getElem?_set_ne (Ne.symm b),List.getElem?_set_ne (Ne.symm a)]
 have back:∀i p,((H.set A .dead).set F (.fam z (ms++cs)))[i]?=some p->p.alive=true->i≠A/\H[i]?=some p:=fun i p h ha=>by
  by_cases e:i=A
  ·subst e;rw[hgA]at h;cases h;cases ha
  ·by_cases e2:i=F
   ·subst e2;rw[hgF]at h;cases h;cases ha
   ·rw[hgo i e e2]at h;exact ⟨e,h⟩
 have gof:∀{F' k' r},(ρ.mem1 A F k).g F' k'=some r->(F'=F/\k'=k/\ρ A=some r)∨(¬ (F'=F/\k'=k)/\ρ.g F' k'=some r):=fun {F' k' r} h=>by
  have h:(if F'=F/\k'=k then ρ.f A else ρ.g F' k')=some r:=h
  by_cases e:F'=F/\k'=k
  ·rw[if_pos e]at h;exact .inl ⟨e.1,e.2,h⟩
  ·rw[if_neg e]at h;exact .inr ⟨e,h⟩
 have fm:∀{F' k' r z' c},FM (ρ.mem1 A F k) ((H.set A .dead).set F (.fam z (ms++cs))) F' k' r z' c ->
   (F'=F/\k'=k/\ρ A=some r/\z'=z/\c=ms++cs)∨(∃c',FM ρ H F' k' r z' c'/\¬ (F'=F/\k'=k)/\(c=c'∨(F'=F/\c'=ms/\c=ms++cs/\z'=z))):=fun {F' k' r z' c} m=>by
  have hh:=m.h
  rcases gof m.g with ⟨rfl,rfl,h⟩|⟨e,h⟩
  ·rw[hgF]at hh;cases hh
   exact .inl ⟨rfl,rfl,h,rfl,rfl⟩
  ·right
   by_cases e2:F'=F
   ·subst e2
    rw[hgF]at hh;cases hh
    exact ⟨ms,⟨h,hF,fun e=>absurd e (by omega)⟩,e,.inr ⟨rfl,rfl,rfl,rfl⟩⟩
   ·by_cases e3:F'=A
    ·subst e3;rw[hgA]at hh;cases hh
    ·rw[hgo F' e3 e2]at hh
     exact ⟨c,⟨h,hh,m.a⟩,e,.inl rfl⟩
 have hown:(aa.cells true zA cs).owned=true:=rfl
 refine ⟨⟨hr.bsize,hr.cS,fun i x h=>by simpa using hr.dom i x h,hr.lt,fun i x o h1 h2 =>?_,fun i x o h1 h2 h3=>hr.base i x o h1 (back i o h2 (aJ h3)).2 h3,
   fun i j x y o o' h1 h2 h3 h4 h5 h6 hn=>hr.sep i j x y o o' h1 h2 (back i o h3 (aJ h5)).2 (back j o' h4 h6).2 h5 h6 hn,fun b m hm=>⟨(hr.mem b m hm).1,fun i x o h1 h2 h3=>(hr.mem b m hm).2 i x o h1 (back i o h2 (aJ h3)).2 h3⟩,?_⟩,
  hle,fun i x a b=>(by have a:ρ i=some x:=a;rw[b]at a;cases a),by simp,fun i h1 h2 =>?_,Nat.le_refl _,fun _ _ _=>rfl,fun b _ hob =>?_,rfl,rfl,rfl,fun _ _ h => .inl h,Nat.le_refl _,fun F' k' r a b =>?_⟩
 ·cases ha:o.alive with
  |true=>exact (hr.obj i x o h1 (back i o h2 ha).2).mono hle rfl
  |false=>cases o <;> first|trivial|simp[aa.alive]at ha
 ·refine ⟨fun F' k' r h =>?_,fun F' k' r h =>?_,fun F' k' r z' c m =>?_,fun F' k' r z' c m =>?_,fun F1 k1 r1 z1 c1 F2 k2 r2 z2 c2 m1 m2 e =>?_,fun F' k' r z' c id r2 o m h1 h2 h3 =>?_,fun F' k' r z' c b m2 m hb =>?_,fun F' k' r c g h =>?_⟩
  ·rcases gof h with ⟨rfl,_,_⟩|⟨_,h⟩
   ·simpa using hFl
   ·simpa using hr.fam.dom _ _ _ h
  ·rcases gof h with ⟨_,_,h⟩|⟨_,h⟩
   ·exact hr.lt _ _ h
   ·exact hr.fam.lt _ _ _ h
  ·rcases fm m with ⟨_,_,h,_⟩|⟨c',m',_⟩
   ·exact hr.base A r _ h hA hown
   ·exact hr.fam.base _ _ _ _ _ m'
  ·rcases fm m with ⟨rfl,rfl,h,rfl,rfl⟩|⟨c',m',e,hc⟩
   ·obtain ⟨e1,e2,cs',ty,fz,hb,hn,hfz,hcs⟩:=hr.obj A r _ h hA
    obtain rfl:fz=(0,0):=hfz rfl
    have hlast:=hcs (z'-1) _ (List.getElem?_eq_getElem (by omega))
    obtain ⟨v',g1,_⟩:=hlast
    have hlt:=(Array.getElem?_eq_some_iff.1 g1).1
    refine ⟨cs',ty,hb,by rw[List.length_append,hk,hz,Nat.add_mul,Nat.one_mul];exact Nat.le_refl _,fun e=>absurd e (by omega),by omega,fun i v hi hv =>?_⟩
    rw[List.getElem?_append_right (by omega),hk,Nat.add_sub_cancel_left]at hv
    obtain ⟨v',a1,a2⟩:=hcs i v hv
    exact ⟨v',a1,a2.mono hle⟩
   ·have ob:=hr.fam.obj _ _ _ _ _ m'
    rcases hc with rfl|⟨_,hc1,rfl,_⟩
    ·exact ob.mono hle rfl
    ·obtain ⟨cs',ty,a1,a2,a3,a4,a5⟩:=ob
     rw[hc1]at a2 a5
     refine ⟨cs',ty,a1,by rw[List.length_append];omega,fun e=>absurd e (by omega),a4,fun i v hi hv =>?_⟩
     have hlt:k'*z'+i<ms.length:=by rw[Nat.add_mul,Nat.one_mul]at a2;omega
     rw[List.getElem?_append_left hlt]at hv
     obtain ⟨v',b1,b2⟩:=a5 i v hi hv
     exact ⟨v',b1,b2.mono hle⟩
  ·rcases fm m1 with ⟨rfl,rfl,g1,_⟩|⟨c1',m1',e1,_⟩
   ·rcases fm m2 with ⟨rfl,rfl,g2,_⟩|⟨c2',m2',e2,_⟩
    ·exact ⟨rfl,rfl⟩
    ·exact absurd e (hr.fam.sep2 _ _ _ _ _ A r1 _ m2' g1 hA rfl)
   ·rcases fm m2 with ⟨rfl,rfl,g2,_⟩|⟨c2',m2',e2,_⟩
    ·exact absurd e.symm (hr.fam.sep2 _ _ _ _ _ A r2 _ m1' g2 hA rfl)
    ·exact hr.fam.sep _ _ _ _ _ _ _ _ _ _ m1' m2' e
  ·obtain ⟨hid,ho⟩:=back id o h2 h3
   rcases fm m with ⟨_,_,g1,_⟩|⟨c',m',_⟩
   ·exact (hr.sep A id r r2 _ o g1 h1 hA ho hown h3 (Ne.symm hid)).symm
   ·exact hr.fam.sep2 _ _ _ _ _ id r2 o m' h1 ho h3
  ·rcases fm m with ⟨_,_,g1,_⟩|⟨c',m',_⟩
   ·exact (hr.mem b m2 hb).2 A r _ g1 hA hown
   ·exact hr.fam.mem _ _ _ _ _ b m2 m' hb
  ·by_cases e:F'=F
   ·subst e;rw[hgF]at h;cases h;omega
   ·by_cases e2:F'=A
    ·subst e2;rw[hgA]at h;cases h
    ·rw[hgo F' e2 e]at h
     rcases gof g with ⟨q,_,_⟩|⟨_,q⟩
     ·exact absurd q e
     ·exact hr.fam.cnt F' k' r c q h
 ·by_cases e:i=A
  ·exact absurd (e ▸ hMA (e ▸ h1)) h2
  ·by_cases e2:i=F
   ·exact absurd (e2 ▸ hMF (e2 ▸ h1)) h2
   ·exact hgo i e e2
 ·rcases hob with ⟨i,x,o,k1,k2,k3,k4⟩|⟨F',k',x,z',c,m,e⟩
  ·exact .inl ⟨i,x,o,k1,(back i o k2 (aJ k3)).2,k3,k4⟩
  ·rcases fm m with ⟨_,_,g1,_⟩|⟨c',m',_⟩
   ·exact .inl ⟨A,x,_,g1,hA,hown,e⟩
   ·exact .inr ⟨F',k',x,z',c',m',e⟩
 ·rcases gof a with ⟨rfl,_,_⟩|⟨_,h⟩
  ·rcases Nat.lt_or_ge F' base with hl|hl
   ·exact .inr (hMF hl)
   ·exact .inl hl
  ·rw[b]at h;cases h
theorem Post.km{B base:Nat}{M:List Nat}{ρ:Ren}{H:Heap}{w:World}(hr:Rel P B ρ H w)(hob:base<=H.length)(z:Nat):Post P B base M ρ H w ρ (H ++ [.fam z []]) w:=by
 have hlt:∀id r o,ρ id=some r->(H ++ [aa.fam z []])[id]?=some o->H[id]?=some o:=fun id r o h1 h2=>by
  rw[List.getElem?_append_left (hr.dom _ _ h1)]at h2;exact h2
 refine ⟨⟨hr.bsize,hr.cS,fun id r h=>by have:=hr.dom _ _ h;rw[List.length_append];omega,hr.lt,fun id r o h1 h2=>hr.obj id r o h1 (hlt id r o h1 h2),fun id r o h1 h2=>hr.base id r o h1 (hlt id r o h1 h2),fun id id' r r' o o' h1 h1' h2 h2'=>hr.sep id id' r r' o o' h1 h1' (hlt _ _ _ h1 h2) (hlt _ _ _ h1' h2'),fun b m h=>⟨(hr.mem b m h).1,fun id r o h1 h2=>(hr.mem b m h).2 id r o h1 (hlt _ _ _ h1 h2)⟩,
   hr.fam.keep (Ren.le_refl _) (fun _ _ _ h=>h) (fun F z cs hF h=>by rw[List.getElem?_append_left hF]at h;exact h) (by simp) (Nat.le_refl _) (fun _ _=>rfl) (fun id r o a b c=>hr.fam.free a (hlt _ _ _ a b) c) (fun b m h=>hr.fam.ez h)⟩,
  Ren.le_refl _,fun id r a b=>(by rw[b]at a;cases a),by rw[List.length_append];omega,fun id h1 _=>List.getElem?_append_left (by omega),Nat.le_refl _,fun _ _ _=>rfl,fun b _ ho =>?_,rfl,rfl,rfl,fun _ _ h => .inl h,Nat.le_refl _,fun F k r a b=>(by rw[b]at a;cases a)⟩
 rcases ho with ⟨id,r,o,h1,h2,h3,h4⟩|⟨F,k,r,z,c,m,e⟩
 ·exact .inl ⟨id,r,o,h1,hlt _ _ _ h1 h2,h3,h4⟩
 ·exact .inr ⟨F,k,r,z,c,⟨m.g,by have:=m.h;rw[List.getElem?_append_left (hr.fam.dom F k r m.g)]at this;exact this,m.a⟩,e⟩
theorem aL.km{base:Nat}{M:List Nat}{T:Tm}{H:Heap}(z:Nat):aL P base M T H T (H ++ [.fam z []]):=fun B ρ w N tmps h1 h2 h3=>⟨ρ,Post.km h1 h2 z,h3⟩
def tfT(A F k d:Nat):List Nat->Tm->Tm
 | [],T=>T
 |t :: ts,T=>tfT A F k d ts (put T (some t) (tf A F k d (T t)))
def tfH(A F k d:Nat):List Nat->Heap->Heap
 | [],H=>H
 |b :: bs,H=>tfH A F k d bs (match H[b]? with|some (.cells own z cs)=>H.set b (.cells own z (cs.map (tf A F k d)))|_=>H)
theorem zH{ρ:Ren}{A F k d N:Nat}(hA:∀r,ρ A=some r->ρ.g F k=some r){tmps:Array Value}:∀{ts:List Nat} {T:Tm},TR ρ N T tmps->TR ρ N (tfT A F k d ts T) tmps
 | [],T,h=>h
 |t :: ts,T,h=>zH hA (ts:=ts) ⟨h.1,fun s hs=>by
   have:=h.2 s hs
   show VR ρ (upd T t _ s) _
   unfold upd
   by_cases e:s=t
   ·subst e;rw[if_pos rfl];exact Ez hA d this
   ·rw[if_neg e];exact this⟩
theorem Post.tfH{B base:Nat}{M:List Nat}{ρ:Ren}{w:World}{A F k d:Nat}(hA:∀r,ρ A=some r->ρ.g F k=some r):∀{bs:List Nat} {H:Heap},Rel P B ρ H w->(∀b∈bs,b<base->b∈M)->Post P B base M ρ H w ρ (tfH A F k d bs H) w
 | [],H,hr,_=>Post.refl hr
 |b :: bs,H,hr,hM=>by
  unfold K.tfH
  split
  ·rename_i own z cs hb
   have p:=Post.zW (base:=base) (M:=M) hr (o':=.cells own z (cs.map (tf A F k d))) hb rfl rfl (fun _ _ h=>by cases h) (fun _ _ h=>by cases h) (fun r _ h=>aI.tf hA h) (hM b (List.mem_cons_self ..))
   exact p.trans (Post.tfH hA p.rel (fun x hx=>hM x (List.mem_cons_of_mem _ hx)))
  ·exact Post.tfH hA hr (fun x hx=>hM x (List.mem_cons_of_mem _ hx))
theorem aL.fam{base:Nat}{M:List Nat}{T:Tm}{H:Heap}{A F k z zA d:Nat}{cs ms:List Value}{ts bs:List Nat}(hA:H[A]?=some (.cells true zA cs))(hF:H[F]?=some (.fam z ms))
  (hz:cs.length=z) (h0:0<z) (hk:ms.length=k*z) (hMA:A<base->A∈M) (hMF:F<base->F∈M) (hMb:∀b∈bs,b<base->b∈M) :
  aL P base M T H (tfT A F k d ts T) (tfH A F k d bs ((H.set A .dead).set F (.fam z (ms++cs)))):=by
 intro B ρ w N tmps h1 h2 h3
 have p:=Post.member (base:=base) (M:=M) h1 hA hF hz h0 hk hMA hMF
 have hg:∀r,(ρ.mem1 A F k) A=some r->(ρ.mem1 A F k).g F k=some r:=fun r h=>by
  show (if _ then _ else _)=_
  rw[if_pos ⟨rfl,rfl⟩];exact h
 exact ⟨_,p.trans (Post.tfH hg p.rel hMb),zH hg (h3.mono p.ext)⟩
def ux:Nat->List Value->Option (Nat×Value)
 |_,[] =>none
 |k,.slice (some a) n c :: _=>some (k,.slice (some a) n c)
 |k,.iface (n+1) (.agg cs) :: _=>some (k,.iface (n+1) (.agg cs))
 |k,_ :: r=>ux (k+1) r
theorem jZ:∀{vs:List Value} {k i:Nat} {v:Value},ux k vs=some (i,v)->k<=i/\vs[i-k]?=some v
 | [],k,i,v,h=>by cases h
 |x :: r,k,i,v,h=>by
  unfold ux at h
  have hrec:ux (k+1) r=some (i,v)->k<=i/\(x :: r)[i-k]?=some v:=fun h=>by
   obtain ⟨a,b⟩:=jZ h
   refine ⟨by omega,?_⟩
   rw[show i-k=(i-(k+1))+1 by omega,List.getElem?_cons_succ];exact b
  split at h
  ·cases h
  ·rename_i e;cases e;cases h;exact ⟨Nat.le_refl _,by simp⟩
  ·rename_i e;cases e;cases h;exact ⟨Nat.le_refl _,by simp⟩
  ·rename_i e;cases e;exact hrec h
theorem VR.rG{ρ ρ1:Ren}{vs:List Value}{i:Nat}{u u2:Value}(hi:vs[i]?=some u)(hle:Ren.le ρ ρ1)(hv:∀x,VR ρ u x->VR ρ1 u2 x){x:Value}(h:VR ρ (.agg ⟨vs⟩) x):VR ρ1 (.agg ⟨vs.set i u2⟩) x:=by
 cases h with
 | @agg _ cs' h1 h2 =>
  refine .agg (by simpa using h1) fun j v v' a b =>?_
  have a':(vs.set i u2)[j]?=some v:=by simpa using a
  rw[List.getElem?_set]at a'
  split at a'
  ·rename_i e;subst e
   split at a'
   ·cases a';exact hv _ (h2 i u v' (by simpa using hi) b)
   ·cases a'
  ·exact (h2 j v v' (by simpa using a') b).mono hle
theorem aL.dc{base:Nat}{M:List Nat}{T:Tm}{H H2:Heap}{t:Nat}{v2:Value}(h:∀(B:Nat) (ρ:Ren) (w:World) (x:Value),Rel P B ρ H w->base<=H.length->VR ρ (T t) x->∃ρ1,Post P B base M ρ H w ρ1 H2 w/\VR ρ1 v2 x)
  (h0:∀(B:Nat) (ρ:Ren) (w:World),Rel P B ρ H w->base<=H.length->∃ρ1,Post P B base M ρ H w ρ1 H2 w):aL P base M T H (put T (some t) v2) H2:=by
 intro B ρ w N tmps hr hb h3
 by_cases ht:t<N
 ·obtain ⟨ρ1,p,hv⟩:=h B ρ w _ hr hb (h3.2 t ht)
  refine ⟨ρ1,p,h3.1,fun s hs =>?_⟩
  show VR ρ1 (upd T t _ s) _
  unfold upd
  by_cases e:s=t
  ·subst e;rw[if_pos rfl];exact hv
  ·rw[if_neg e];exact (h3.2 s hs).mono p.ext
 ·obtain ⟨ρ1,p⟩:=h0 B ρ w hr hb
  refine ⟨ρ1,p,h3.1,fun s hs =>?_⟩
  show VR ρ1 (upd T t _ s) _
  unfold upd
  rw[if_neg (by omega)]
  exact (h3.2 s hs).mono p.ext
theorem aL.xw{base:Nat}{M:List Nat}{T:Tm}{H:Heap}{t id n c z i:Nat}{tag:Option Nat}{cs vs:List Value}(hT:T t = .agg ⟨vs⟩)(hi:vs[i]?=some (.slice (some ⟨id,0,tag⟩) n c))(htag:tag=none∨tag=some 1)(ho:H[id]?=some (.cells true z cs))(hM:id<base->id∈M) :
  aL P base M T H (put T (some t) (.agg ⟨vs.set i (.iface (n+1) (.agg ⟨cs⟩))⟩)) (H.set id .dead):=by
 have key:∀(B:Nat) (ρ:Ren) (w:World),Rel P B ρ H w->∃ρ1,Post P B base M ρ H w ρ1 (H.set id .dead) w/\∀x,VR ρ (.slice (some ⟨id,0,tag⟩) n c) x->VR ρ1 (.iface (n+1) (.agg ⟨cs⟩)) x:=by
  intro B ρ w h1
  cases hid:ρ id with
  |none=>exact ⟨ρ,Post.kr h1 ho rfl hM,fun x hx=>VR.jk htag hid hx⟩
  |some r =>
   have hob:=h1.obj id r _ hid ho
   obtain ⟨_,_,m,ty,fz,hb,_⟩:=hob
   have p:=Post.yZ (base:=base) (M:=M) h1 hid ho hb hM
   exact ⟨_,p,fun x hx=>VR.freeze (H:=H) htag hid hb (h1.obj id r _ hid ho) p.ext hx⟩
 refine aL.dc (fun B ρ w x hr hb hx =>?_) (fun B ρ w hr hb =>?_)
 ·obtain ⟨ρ1,p,hv⟩:=key B ρ w hr
  rw[hT]at hx
  exact ⟨ρ1,p,VR.rG hi p.ext hv hx⟩
 ·obtain ⟨ρ1,p,_⟩:=key B ρ w hr;exact ⟨ρ1,p⟩
theorem VR.thaw{B base n:Nat}{M:List Nat}{ρ:Ren}{H:Heap}{w:World}(hr:Rel P B ρ H w)(hob:base<=H.length){cs:Array Value}{x:Value}(hx:VR ρ (.iface (n+1) (.agg cs)) x) :
  ∃ρ1,Post P B base M ρ H w ρ1 (H ++ [.cells false 0 cs.toList]) w/\VR ρ1 (.slice (some ⟨H.length,0,some 2⟩) n n) x:=by
 cases hx with
 | @deep n b s cap' cs m hm hp hc h1 h2 =>
  refine ⟨_,Post.read hr hob hm (cs:=cs.toList) (by simpa using h1) (fun i v v' a b=>h2 i v v' (by simpa using a) b),?_⟩
  have:=VR.aX (ρ:=ρ.set H.length ⟨b,s,m.size,0,false⟩) (id:=H.length) (o:=0) (r:=⟨b,s,m.size,0,false⟩) (len:=n) (cap:=n) (cap':=cap') (Ren.av ..) hp (Nat.le_refl _) hc (fun h=>by cases h)
  rw[Nat.zero_add]at this
  exact this
 |br=>exact ⟨_,Post.more hr hob _,.aB⟩
theorem aL.EE{base:Nat}{M:List Nat}{T:Tm}{H:Heap}{t n i:Nat}{cs:Array Value}{vs:List Value}(hT:T t = .agg ⟨vs⟩)(hi:vs[i]?=some (.iface (n+1) (.agg cs))) :
  aL P base M T H (put T (some t) (.agg ⟨vs.set i (.slice (some ⟨H.length,0,some 2⟩) n n)⟩)) (H ++ [.cells false 0 cs.toList]):=by
 refine aL.dc (fun B ρ w x hr hb hx =>?_) (fun B ρ w hr hb=>⟨ρ,Post.more hr hb _⟩)
 rw[hT]at hx
 cases hx with
 | @agg _ cs' h1 h2 =>
  have hl:=(List.getElem?_eq_some_iff.1 hi).1
  have hlt:i<cs'.size:=by rw[<- h1];simpa using hl
  obtain ⟨ρ1,p,hv⟩:=VR.thaw (base:=base) (M:=M) hr hb (h2 i _ _ (by simpa using hi) (Array.getElem?_eq_getElem hlt))
  refine ⟨ρ1,p,.agg (by simpa using h1) fun j v v' a b =>?_⟩
  have a':(vs.set i (.slice (some ⟨H.length,0,some 2⟩) n n))[j]?=some v:=by simpa using a
  rw[List.getElem?_set]at a'
  split at a'
  ·rename_i e;subst e
   cases a'
   rw[Array.getElem?_eq_getElem hlt]at b;cases b
   exact hv
  ·exact (h2 j v v' (by simpa using a') b).mono p.ext
end Go.K
