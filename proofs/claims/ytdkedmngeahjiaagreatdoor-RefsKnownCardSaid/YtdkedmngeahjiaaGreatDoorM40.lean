import Derived.Test.YtdkedmngeahjiaaGreatDoorM35
import Derived.Test.YtdkedmngeahjiaaGreatDoorM39
import Derived.Test.YtdkedmngeahjiaaGreatDoorM24
import Derived.Test.YtdkedmngeahjiaaGreatDoorM22
import Derived.Test.YtdkedmngeahjiaaGreatDoorM23
import Derived.Test.YtdkedmngeahjiaaGreatDoorRfG
import Derived.Test.YtdkedmngeahjiaaGreatDoorM27
import Derived.Deep.QuietTactic
set_option maxRecDepth 100000
set_option maxHeartbeats 25600000
namespace Go.Proofs.YtdkedmngeahjiaaGreatDoor
theorem cG{p:Prop}(h:p:=by exact yQ _ rfl):p:=h
theorem jS{p:Prop}(h:p:=by exact⟨rfl,H13.out.fin aC⟩):p:=h
open Go Go.RowKit
def short(t:Tab):Prop:=∀p∈t,p.1.length≤200
def DOp.short:DOp→Prop
 |.create n _=>n.data.toList.length≤200
 |.rename _ n=>n.data.toList.length≤200
 |.remove _=>True
def DM.Short(m:DM):Prop:=short m.now∧short m.safe∧∀o∈m.pend,o.short
theorem Dq{o:DOp}(ho:o.short){t:Tab}(h:short t):short (o.act t):=by
 intro p hp
 cases o with
 |create n i=>
  rcases nZ.1 hp with rfl|⟨hp,_⟩
  ·exact ho
  ·exact h p hp
 |rename o n=>
  simp only[DOp.act]at hp;split at hp
  ·rcases nZ.1 hp with rfl|⟨hp,_⟩
   ·exact ho
   ·exact h p (oN.1 hp).1
  ·exact h p hp
 |remove n=>exact h p (oN.1 hp).1
theorem yD:∀(l:List DOp) (ks:List Int) (t:Tab),(∀o∈l,o.short)→short t→short (lJ l ks t)
 |[],_,_,_,h=>h
 |o::r,ks,t,hl,h=>by
  rw[lJ];refine yD r _ _ (fun x hx=>hl x (List.mem_cons_of_mem _ hx)) ?_;split
  ·exact Dq (hl o (List.mem_cons_self ..)) h
  ·exact h
theorem Cc{m:DM}(h:m.Short)(ks:List Int):(m.fail ks).Short:=by
 have:=yD m.pend ks m.safe h.2.2 h.2.1;exact⟨this,this,fun o ho=>kO⟩
theorem Bh{m:DM}(h:m.Short)(ks:List Int):(m.crash ks).Short:=by
 unfold DM.crash;split
 ·exact h
 ·exact Cc h ks
theorem yE{m:DM}(h:m.Short){o:DOp}(ho:o.short):(m.names o).Short:=
 ⟨Dq ho h.1,h.2.1,fun x hx=>by
  rcases List.mem_append.1 hx with hx|hx
  ·exact h.2.2 x hx
  ·rw[List.mem_singleton.1 hx];exact ho⟩
theorem Bi{n:ByteArray}(h:oA n=true):n.data.toList.length≤200:=by
 unfold oA at h;rw[Bool.and_eq_true]at h;have:=of_decide_eq_true h.2
 rw[Array.length_toList];exact this
theorem Hc{m:DM}(h:m.Short){c:DCall}(hr:m.refused c=0):(m.act c).Short:=by
 cases c with
 |create n=>
  refine yE (m:={m with files:=m.files++[⟨⟨#[]⟩,0⟩]}) h ?_;unfold DM.refused at hr
  cases hb:oA n with
  |true=>exact Bi hb
  |false=>simp[hb]at hr
 |write n s=>
  cases hg:m.get n with
  |none=>simp only[DM.act,hg];exact h
  |some i=>simp only[DM.act,hg];exact h
 |sync n=>
  cases hg:m.get n with
  |none=>simp only[DM.act,hg];exact h
  |some i=>simp only[DM.act,hg];exact h
 |rename o n=>
  refine yE h ?_;unfold DM.refused at hr
  cases hg:(m.get o).isSome with
  |false=>simp[hg]at hr
  |true=>
   cases hb:oA n with
   |true=>exact Bi hb
   |false=>simp[hg,hb]at hr
 |remove n=>exact yE h True.intro
 |flush=>exact⟨h.1,h.1,fun o ho=>kO⟩
theorem qH{m:DM}(h:m.Short)(c:DCall):(m.op c).1.Short:=by
 unfold DM.op;split
 ·exact h
 ·split
  ·exact h
  ·rename_i hr;have hr0:m.refused c=0:=aC
   have ht:m.tick.Short:=h;have ha:(m.tick.act c).Short:=Hc ht hr0
   split
   ·refine Cc ?_ _;split
    ·exact ht
    ·exact ha
   ·exact ha
theorem AK(r:Int):(DM.new r).Short:=⟨fun p hp=>kN,fun p hp=>kN,fun o ho=>kO⟩
theorem zL{t:Tab}(h:short t):∀p∈t,(mP p).size≤140737488355328:=fun p hp=>by
 have:=h p hp;show p.1.toArray.size≤_
 rw[List.size_toArray];omega
theorem rN{p:DM×Int}{f:DM→DM×Int}(h1:p.1.Short)(h2:∀m:DM,m.Short→(f m).1.Short):(pE p f).1.Short:=by
 unfold pE;split
 ·exact h2 _ h1
 ·exact h1
theorem Bj:∀(l:List ByteArray) {m:DM},m.Short→(oI l m).1.Short
 |[],_,h=>h
 |_::l,_,h=>rN (qH h _) fun _ h=>Bj l h
theorem tA{m:DM}(h:m.Short)(hd:ByteArray):∀s∈m.lists hd,s.size≤200:=by
 intro s hs;unfold DM.lists at hs;split at hs
 ·cases hs
 ·obtain⟨p,hp,rfl⟩:=List.mem_map.1 hs;have:=h.1 p (List.mem_filter.1 hp).1
  show p.1.toArray.size≤_;rw[List.size_toArray];exact this
theorem Bk{m:DM}(h:m.Short):(qF m).1.Short:=rN (qH h _) fun _ h=>qH h _
theorem Ew{m:DM}(h:m.Short):(qQ m).1.Short:=by
 unfold qQ;split
 ·exact Bk h
 ·split<;>exact h
theorem Hd{m:DM}(h:m.Short)(n t:ByteArray):(qR m n t).1.Short:=
 rN (Ew h) fun _ h=>rN (qH h _) fun m h=>by
  have h3:=qH h (.write handR t);unfold pU;split
  ·exact rN (qH h3 _) fun _ h=>rN (qH h _) fun _ h=>qH h _
  ·split
   ·exact Bk h3
   ·exact h3
theorem He{m:DM}(h:m.Short)(n:ByteArray):(xQ m n).1.Short:=rN (qH h _) fun _ h=>qH h _
theorem FM{m:DM}(h:m.Short):(mX m).1.Short:=by
 unfold mX;split
 ·exact h
 ·refine rN (Bj _ h) fun m' hm=>?_
  split
  ·exact hm
  ·exact qH hm _
def DOp.adds:DOp→Nat
 |.remove _=>0
 |_=>1
def uQ(l:List DOp):Nat:=(l.map DOp.adds).sum
theorem FN(o:DOp)(t:Tab):(o.act t).length≤t.length+o.adds:=by
 cases o with
 |create k i=>exact uJ _ _ _
 |remove k=>exact uI _ _
 |rename a b=>
  simp only[DOp.act];split
  ·refine Nat.le_trans (uJ _ _ _) ?_;have:=uI t a.data.toList
   show _≤t.length+1;omega
  ·exact Nat.le_add_right _ _
theorem zA:∀(l:List DOp) (ks:List Int) (t:Tab),(lJ l ks t).length≤t.length+uQ l
 |[],_,_=>Nat.le_refl _
 |o::r,ks,t=>by
  rw[lJ];refine Nat.le_trans (zA r _ _) ?_;have h:=FN o t
  have e:uQ (o::r)=o.adds+uQ r:=by unfold uQ;rw[List.map_cons,List.sum_cons]
  rw[e];split
  ·omega
  ·omega
def FitN(m:DM)(n:Nat):Prop:=m.now.length≤n∧m.safe.length+uQ m.pend≤n
theorem FO:∀l:List DOp,uQ l≤l.length
 |[]=>Nat.le_refl _
 |o::r=>by
  have e:uQ (o::r)=o.adds+uQ r:=by unfold uQ;rw[List.map_cons,List.sum_cons]
  have h:=FO r;have h2:o.adds≤1:=by cases o<;>first|exact Nat.le_refl 1|exact Nat.zero_le 1
  rw[e,List.length_cons];omega
theorem FitN.ok{m:DM}{n:Nat}(h:m.Ok n):FitN m n:=⟨h.nowN,Nat.le_trans (Nat.add_le_add_left (FO _) _) h.safeN⟩
theorem FP{m:DM}{n:Nat}(h:FitN m n)(ks:List Int):FitN (m.fail ks) n∧(m.fail ks).pend=[]:=by
 have h1:=zA m.pend ks m.safe;refine⟨⟨Nat.le_trans h1 h.2,?_⟩,rfl⟩
 ·show(lJ m.pend ks m.safe).length+uQ []≤n;exact Nat.le_trans h1 h.2
theorem Jf(l:List DOp)(o:DOp):uQ (l++[o])=uQ l+o.adds:=by unfold uQ;rw[List.map_append,List.sum_append];rfl
theorem AL{m:DM}{n:Nat}(h:FitN m n)(o:DOp):FitN (m.names o) (n+o.adds):=by
 refine⟨?_,?_⟩
 ·show(o.act m.now).length≤_;have:=FN o m.now
  have:=h.1;omega
 ·show m.safe.length+uQ (m.pend++[o])≤_;rw[Jf];have:=h.2
  omega
def DCall.adds:DCall→Nat
 |.create _=>1
 |.rename _ _=>1
 |_=>0
theorem FitN.more{m:DM}{n n':Nat}(h:FitN m n)(hn:n≤n'):FitN m n':=⟨Nat.le_trans h.1 hn,Nat.le_trans h.2 hn⟩
theorem Mc{m:DM}{n:Nat}(h:FitN m n)(c:DCall):FitN (m.act c) (n+c.adds):=by
 cases c with
 |create s=>exact AL (m:={m with files:=m.files++[⟨⟨#[]⟩,0⟩]}) h _
 |write s t=>
  rw[zK];split
  ·exact h
  ·exact h
 |sync s=>
  rw[AH];split
  ·exact h
  ·exact h
 |rename a b=>exact AL h _
 |remove s=>exact AL h _
 |flush=>exact⟨h.1,by show m.now.length+uQ []≤_;exact h.1⟩
theorem tE{m:DM}{n:Nat}(h:FitN m n)(c:DCall):FitN (m.op c).1 (n+c.adds):=by
 unfold DM.op;split
 ·exact h.more (Nat.le_add_right _ _)
 ·split
  ·exact h.more (Nat.le_add_right _ _)
  ·have ht:FitN m.tick n:=h;have ha:FitN (m.tick.act c) (n+c.adds):=Mc ht c
   split
   ·refine(FP ?_ _).1;split
    ·exact ht.more (Nat.le_add_right _ _)
    ·exact ha
   ·exact ha
theorem vE{p:DM×Int}{f:DM→DM×Int}{n n':Nat}(h1:FitN p.1 n)(hn:n≤n')(h2:∀m:DM,FitN m n→FitN (f m).1 n'):FitN (pE p f).1 n':=by
 unfold pE;split
 ·exact h2 _ h1
 ·exact h1.more hn
theorem Dr{n:Nat}:∀(l:List ByteArray) {m:DM},FitN m n→FitN (oI l m).1 n
 |[],_,h=>h
 |s::l,_,h=>vE (tE h (.remove s)) (Nat.le_refl _) fun _ h=>Dr l h
theorem Jg{m:DM}{n:Nat}(h:FitN m n):FitN (mX m).1 n:=by
 unfold mX;split
 ·exact h
 ·refine vE (Dr _ h) (Nat.le_refl _) fun m' hm=>?_
  split
  ·exact hm
  ·exact tE hm .flush
theorem Ds{m:DM}{n:Nat}(h:FitN m n):FitN (qF m).1 n:=vE (tE h (.remove handR)) (Nat.le_refl _) fun _ h=>tE h .flush
theorem Hf{m:DM}{n:Nat}(h:FitN m n):FitN (qQ m).1 n:=by
 unfold qQ;split
 ·exact Ds h
 ·split<;>exact h
theorem KO{m:DM}{n:Nat}(h:FitN m n)(name t:ByteArray):FitN (qR m name t).1 (n+2):=
 vE (Hf h) (Nat.le_add_right _ _) fun _ h=>vE (tE h (.create handR)) (Nat.le_succ _) fun m h=>by
  have h3:FitN (m.op (.write handR t)).1 (n+1):=tE h (.write handR t);unfold pU;split
  ·exact vE (tE h3 (.sync handR)) (Nat.le_succ _) fun _ h=>vE (tE h (.rename handR name)) (Nat.le_refl _) fun _ h=>tE h .flush
  ·split
   ·exact(Ds h3).more (Nat.le_succ _)
   ·exact h3.more (Nat.le_succ _)
theorem KP{m:DM}{n:Nat}(h:FitN m n)(s:ByteArray):FitN (xQ m s).1 n:=vE (tE h (.remove s)) (Nat.le_refl _) fun _ h=>tE h .flush
theorem Jh{m:DM}{n:Nat}(h:FitN m n)(ks:List Int):FitN (m.crash ks) n:=by
 unfold DM.crash;split
 ·exact h
 ·exact(FP h ks).1
theorem KQ(m:DM):(qG m).length≤1+m.now.length:=by
 unfold qG;rw[List.length_append]
 have h1:(m.lists ⟨refHead.toArray⟩).length≤m.now.length:=by
  unfold DM.lists;split
  ·exact gH
  ·rw[List.length_map];exact List.length_filter_le _ _
 have h2:=List.length_filter_le (fun n=>!mN m n) (m.lists ⟨refHead.toArray⟩)
 have h3:(if(m.reads handR).2=0 then [handR]else []).length≤1:=by
  split
  ·exact Nat.le_refl _
  ·exact gH
 omega
def Code(x:Int):Prop:=x=0∨(1≤x∧x≤32)
theorem yQ(k:Int)(h:(decide (0≤k)&&decide (k≤32))=true):Code k:=by
 rw[Bool.and_eq_true,decide_eq_true_eq,decide_eq_true_eq]at h;unfold Code;omega
theorem Ex(m:DM)(c:DCall):Code (m.refused c):=by
 cases c with
 |create n=>unfold DM.refused;(repeat' split)<;>exact yQ _ rfl
 |write n s=>unfold DM.refused;(repeat' split)<;>exact yQ _ rfl
 |sync n=>unfold DM.refused;(repeat' split)<;>exact yQ _ rfl
 |rename o n=>unfold DM.refused;(repeat' split)<;>exact yQ _ rfl
 |remove n=>unfold DM.refused;(repeat' split)<;>exact yQ _ rfl
 |flush=>exact cG
theorem rV(m:DM)(c:DCall):Code (m.op c).2:=by
 unfold DM.op;split
 ·exact cG
 ·split
  ·exact Ex m c
  ·split
   ·exact cG
   ·exact cG
theorem Cd(m:DM)(s:ByteArray):Code (m.reads s).2:=by
 unfold DM.reads;split
 ·exact cG
 ·split
  ·exact cG
  ·exact cG
theorem tC{p:DM×Int}{f:DM→DM×Int}(h1:Code p.2)(h2:∀m,Code (f m).2):Code (pE p f).2:=by
 unfold pE;split
 ·exact h2 _
 ·exact h1
theorem Hg(m:DM):Code (qF m).2:=tC (rV _ _) fun _=>rV _ _
theorem FQ(m:DM):Code (qQ m).2:=by
 unfold qQ;split
 ·exact Hg m
 ·split
  ·exact .inl rfl
  ·exact Cd _ _
theorem Ji(m:DM)(n t:ByteArray):Code (qR m n t).2:=
 tC (FQ m) fun _=>tC (rV _ _) fun m=>by
  unfold pU;split
  ·exact tC (rV _ _) fun _=>tC (rV _ _) fun _=>rV _ _
  ·split
   ·exact cG
   ·exact rV _ _
theorem Jj(m:DM)(n:ByteArray):Code (xQ m n).2:=tC (rV _ _) fun _=>rV _ _
theorem Jk(m:DM)(f:List UInt8):Code (DW m f).2:=by
 unfold DW;split
 ·exact Cd _ _
 ·split
  ·exact .inl rfl
  ·exact cG
theorem Ce:∀(l:List ByteArray) (m:DM),Code (oI l m).2
 |[],_=>.inl rfl
 |_::l,_=>tC (rV _ _) fun _=>Ce l _
theorem Hh(m:DM):Code (mX m).2:=by
 unfold mX;split
 ·exact cG
 ·refine tC (Ce _ _) fun m'=>?_
  split
  ·exact .inl rfl
  ·exact rV _ _
theorem Hi(m:DM):Code (sB m).2:=by
 unfold sB;split
 ·exact cG
 ·split
  ·exact .inl rfl
  ·exact cG
structure TabP (m:DM) (N:Nat):Prop where
 short:m.Short
 fit:FitN m N
theorem TabP.more{m:DM}{N N':Nat}(h:TabP m N)(hn:N≤N'):TabP m N':=⟨h.short,h.fit.more hn⟩
theorem TabP.op{m:DM}{N:Nat}(h:TabP m N)(c:DCall):TabP (m.op c).1 (N+1):=⟨qH h.short c,(tE h.fit c).more (by cases c<;>first|exact Nat.le_refl _|exact Nat.le_succ _)⟩
theorem TabP.new(r:Int):TabP (DM.new r) 0:=⟨AK r,⟨Nat.le_refl _,Nat.le_refl _⟩⟩
structure OpR where
 kind:Int
 name:ByteArray
 dig:List UInt8
 text:ByteArray
 num:Int
 keep:List Int
def OpR.cells(o:OpR)(kv:Value):List Value:=.int .i64 o.kind:: .string o.name::(o.dig.map lG++[.string o.text,.int .i64 o.num,kv])
def OpR.Fits(o:OpR):Prop:=o.dig.length=32∧Ef o.kind∧Ef o.num∧o.name.size≤140737488351232∧o.text.size≤140737488351232∧o.keep.length*8≤140737488351232
def MR(w:World)(v:Value)(l:List OpR):Prop:=
 ∃p cap,v=.slice p l.length cap∧∀i m,l[i]?=some m→∃b off kv,p=some ⟨b,off,none⟩∧b<w.heap.size∧(∀j,j<37→w.cell? ⟨b,off+(i*37+j),none⟩=(m.cells kv)[j]?)∧IntsIn w kv m.keep
section
variable {o:OpR} {kv:Value}
theorem OpR.len(h:o.dig.length=32):(o.cells kv).length=37:=by
 unfold OpR.cells;rw[List.length_cons,List.length_cons,List.length_append,List.length_map,h]
 rfl
theorem OpR.c34(h:o.dig.length=32):(o.cells kv)[34]?=some (.string o.text):=by
 unfold OpR.cells;rw[List.getElem?_cons_succ,List.getElem?_cons_succ,List.getElem?_append_right dU,List.length_map,h]
 rfl
theorem OpR.c35(h:o.dig.length=32):(o.cells kv)[35]?=some (.int .i64 o.num):=by
 unfold OpR.cells;rw[List.getElem?_cons_succ,List.getElem?_cons_succ,List.getElem?_append_right dU,List.length_map,h]
 rfl
theorem OpR.c36(h:o.dig.length=32):(o.cells kv)[36]?=some kv:=by
 unfold OpR.cells;rw[List.getElem?_cons_succ,List.getElem?_cons_succ,List.getElem?_append_right dU,List.length_map,h]
 rfl
theorem OpR.cd{j:Nat}(h:o.dig.length=32)(hj:j<32):(o.cells kv)[2+j]?=(o.dig.map lG)[j]?:=by
 unfold OpR.cells;rw[Nat.add_comm 2 j,List.getElem?_cons_succ,List.getElem?_cons_succ,List.getElem?_append_left (by rw[List.length_map,h];exact hj)]
theorem OpR.one(hk:kv.oneCell'=true):(o.cells kv).toArray.all (·.oneCell')=true:=by
 refine all_oneCell_toArray fun v hv=>?_
 unfold OpR.cells at hv;rcases List.mem_cons.1 hv with rfl|hv
 ·rfl
 rcases List.mem_cons.1 hv with rfl|hv
 ·rfl
 ·rcases List.mem_append.1 hv with hv|hv
  ·obtain⟨x,-,rfl⟩:=List.mem_map.1 hv
   rfl
  ·rcases List.mem_cons.1 hv with rfl|hv
   ·rfl
   ·rcases List.mem_cons.1 hv with rfl|hv
    ·rfl
    ·rw[List.mem_singleton.1 hv];exact hk
theorem Ak(h:o.dig.length=32):(Tryz.prog.info? 53).map (·.size)=some (o.cells kv).length:=by rw[OpR.len h];kernel_rfl
theorem KR(h:o.dig.length=32):(Tryz.prog.info? 53).map (·.size)=some (o.cells kv).toArray.size:=by rw[List.size_toArray];exact Ak h
end
def tH(m:DM)(kd:Int)(nm t:ByteArray)(z:Int)(ks:List Int):DM:=
 if kd=6 then m.arm z ks else if kd=7 then m.crash ks else if kd=8 then m.revive
 else if kd=9 then((m.op (.create nm)).1.op (.write nm t)).1
 else if kd=10 then(m.op (.sync nm)).1 else if kd=11 then(m.op .flush).1 else if kd=12 then(m.op (.remove nm)).1 else m
def sD(m:DM)(kd:Int)(nm:ByteArray)(D:List UInt8)(t:ByteArray)(z:Int)(ks:List Int):DM:=
 if kd=1 then(tX m nm.data.toList D).1 else if kd=3 then(uU m nm.data.toList).1 else if kd=5 then(mX m).1 else tH m kd nm t z ks
theorem TabP.disk{m:DM}{N:Nat}(h:TabP m N)(kd:Int)(nm t:ByteArray)(z:Int)(ks:List Int):TabP (tH m kd nm t z ks) (N+2):=by
 have h2:=h.more (Nat.le_add_right N 2);unfold tH;split
 ·exact⟨h2.short,h2.fit⟩
 split
 ·exact⟨Bh h2.short ks,Jh h2.fit ks⟩
 split
 ·exact⟨h2.short,h2.fit⟩
 split
 ·exact(h.op _).op _
 split
 ·exact(h.op _).more (Nat.le_succ _)
 split
 ·exact(h.op _).more (Nat.le_succ _)
 split
 ·exact(h.op _).more (Nat.le_succ _)
 ·exact h2
theorem TabP.set{m:DM}{N:Nat}(h:TabP m N)(s D:List UInt8):TabP (tX m s D).1 (N+2):=by
 unfold tX;split
 ·exact h.more (Nat.le_add_right _ _)
 ·exact⟨Hd h.short _ _,KO h.fit _ _⟩
theorem TabP.del{m:DM}{N:Nat}(h:TabP m N)(s:List UInt8):TabP (uU m s).1 N:=by
 unfold uU;split
 ·exact h
 ·exact⟨He h.short _,KP h.fit _⟩
theorem TabP.opens{m:DM}{N:Nat}(h:TabP m N):TabP (mX m).1 N:=⟨FM h.short,Jg h.fit⟩
theorem TabP.play{m:DM}{N:Nat}(h:TabP m N)(kd:Int)(nm:ByteArray)(D:List UInt8)(t:ByteArray)(z:Int)(ks:List Int):TabP (sD m kd nm D t z ks) (N+2):=by
 unfold sD;split
 ·exact h.set _ _
 split
 ·exact(h.del _).more (Nat.le_add_right _ _)
 split
 ·exact h.opens.more (Nat.le_add_right _ _)
 ·exact h.disk kd nm t z ks
theorem Jl(m:DM)(s D:List UInt8):Code (tX m s D).2:=by
 unfold tX;split
 ·exact cG
 ·exact Ji _ _ _
theorem Jm(m:DM)(s:List UInt8):Code (uU m s).2:=by
 unfold uU;split
 ·exact cG
 ·exact Jj _ _
theorem Jn(m:DM)(s:List UInt8):Code (wY m s).2:=by
 unfold wY;split
 ·exact cG
 ·exact Jk _ _
theorem KT(m:DM)(f:List UInt8):(DW m f).1.length=32:=by
 unfold DW;split
 ·rfl
 ·split
  ·rename_i d hd;exact uP hd
  ·rfl
theorem KU(m:DM)(s:List UInt8):(wY m s).1.length=32:=by
 unfold wY;split
 ·rfl
 ·exact KT _ _
theorem TabP.bad{m:DM}{N:Nat}(h:TabP m N):(qG m).length≤N+1:=by
 have h1:=KQ m;have h2:=h.fit.1
 omega
theorem AM{m:DM}:∀(L:List ByteArray) {l:List (List UInt8×ByteArray)},nL m L=some l→l.length≤L.length
 |[],l,h=>by cases h;exact Nat.le_refl _
 |n::r,l,h=>by
  unfold nL at h;split at h
  ·split at h
   ·rename_i l2 hd hl;have:=AM r hl
    cases h;rw[List.length_cons,List.length_cons];omega
   ·cases h
  ·have:=AM r h;rw[List.length_cons];omega
theorem FR(m:DM):(sB m).1.length≤m.now.length:=by
 have h1:(m.lists ⟨refHead.toArray⟩).length≤m.now.length:=by
  unfold DM.lists;split
  ·exact gH
  ·rw[List.length_map];exact List.length_filter_le _ _
 unfold sB;split
 ·exact gH
 ·split
  ·rename_i l hl;exact Nat.le_trans (AM _ hl) h1
  ·exact gH
theorem Dt(r:Int):mX (DM.new r)=(DM.new r,0):=rfl
theorem FS(r:Int):qG (DM.new r)=[]:=rfl
open Go.Maps Go.Shelf
structure RSt (w:World) (S P:Nat→Prop) (a:Nat) (w1:World) (n:Nat) (m:DM):Prop where
 ex:∃S1:Nat→Prop,RefAt w1 a n m S1∧∀b,S1 b→(S b∨w.heap.size≤b)∧¬P b
 pl:∀b,P b→b<w1.heap.size
 off:Off S w w1
 sl:∀b,S b→b<w.heap.size
section
variable {w w1 w2 w':World} {S P:Nat→Prop} {a n n':Nat} {m m':DM}
theorem RSt.start(h:RefAt w a n m S)(hP:∀b,P b→b<w.heap.size∧¬S b):RSt w S P a w n m:=
 ⟨⟨S,h,fun b hb=>⟨.inl hb,fun hp=>(hP b hp).2 hb⟩⟩,fun b hb=>(hP b hb).1,Off.refl S w,h.lt⟩
theorem RSt.fin(h:RSt w S P a w1 n m):nM a n m S w w1:=by
 obtain⟨⟨S1,h1,h2⟩,h3,h4,h5⟩:=h;have hz:=h4.size
 refine⟨h1.sup (fun b hb=>?_) (fun b hb=>?_),h4⟩
 ·rcases (h2 b hb).1 with hb2|hb2
  ·exact .inl hb2
  ·exact .inr ⟨hb2,h1.lt b hb⟩
 ·rcases hb with hb|hb
  ·exact Nat.lt_of_lt_of_le (h5 b hb) hz
  ·exact hb.2
theorem RSt.ok(h:RSt w S P a w1 n m):m.Ok n:=by
 obtain⟨⟨S1,h1,h2⟩,-⟩:=h;exact h1.ok
theorem RSt.more(h:RSt w S P a w1 n m)(hn:n≤n'):RSt w S P a w1 n' m:=by
 obtain⟨⟨S1,h1,h2⟩,h3,h4,h5⟩:=h;exact⟨⟨S1,h1.more hn,h2⟩,h3,h4,h5⟩
theorem RSt.size(h:RSt w S P a w1 n m):w.heap.size≤w1.heap.size:=h.off.size
theorem RSt.bel(h:RSt w S P a w1 n m)(hb:Below w1.heap.size w1 w2)(Q:Nat→Prop)(hQ:∀b,Q b→P b∨(w1.heap.size≤b∧b<w2.heap.size)):RSt w S Q a w2 n m:=by
 obtain⟨⟨S1,h1,h2⟩,h3,h4,h5⟩:=h;refine⟨⟨S1,h1.below hb,fun b hb1=>⟨(h2 b hb1).1,fun hq=>?_⟩⟩,fun b hb1=>?_,h4.below hb h4.size,h5⟩
 ·rcases hQ b hq with hp|⟨hp,_⟩
  ·exact(h2 b hb1).2 hp
  ·have:=h1.lt b hb1;omega
 ·rcases hQ b hb1 with hp|⟨_,hp⟩
  ·exact Nat.lt_of_lt_of_le (h3 b hp) hb.size
  ·exact hp
theorem RSt.same(h:RSt w S P a w1 n m)(hb:Below w1.heap.size w1 w2):SameP P w1 w2:=fun b hp=>hb.block b (h.pl b hp)
theorem RSt.drews(h:RSt w S P a w1 n m)(q:Nat):RSt w S P a (w1.drewN q) n m:=
 h.bel (w2:=w1.drewN q) ⟨rfl,rfl,rfl,Nat.le_refl _,fun _ _=>rfl⟩ P (fun _ hb=>.inl hb)
theorem RSt.sub(h:RSt w S P a w1 n m)(Q:Nat→Prop)(hQ:∀b,Q b→P b):RSt w S Q a w1 n m:=h.bel (Below.refl _ _) Q (fun b hb=>.inl (hQ b hb))
theorem RSt.setBox{k:Nat}(h:RSt w S P a w1 n m)(hk:w.heap.size≤k)(hp:P k)(v:Value):RSt w S P a (w1.setCell ⟨k,0,none⟩ v) n m:=by
 obtain⟨⟨S1,h1,h2⟩,h3,h4,h5⟩:=h;exact⟨⟨S1,h1.frame (fun b hb=>Below.heap_setCell _ _ _ _ (fun e=>(h2 b hb).2 (by have e':b=k:=e;rw[e'];exact hp))) bD,h2⟩,fun b hb=>by rw[World.size_setCell];exact h3 b hb,h4.setCell _ _ (fun hlt=>by have:k<w.heap.size:=hlt;omega),h5⟩
theorem RSt.setBlk{k:Nat}(h:RSt w S P a w1 n m)(hk:w.heap.size≤k)(hp:P k)(o:Obj):RSt w S P a (Go.Proofs.YtdkedmngeahjiaaGreatDoor.setBlk w1 k o) n m:=by
 obtain⟨⟨S1,h1,h2⟩,h3,h4,h5⟩:=h;refine⟨⟨S1,h1.frame (fun b hb=>?_) gQ,h2⟩,fun b hb=>by rw[pA];exact h3 b hb,h4.setBlk (fun hlt=>aC),h5⟩;exact mS (fun e=>(h2 b hb).2 (by rw[e];exact hp))
theorem RSt.post{S1:Nat→Prop}(h2:∀b,S1 b→(S b∨w.heap.size≤b)∧¬P b)(h3:∀b,P b→b<w1.heap.size)(h4:Off S w w1)(h5:∀b,S b→b<w.heap.size)(hp:nM a n' m' S1 w1 w'):RSt w S P a w' n' m'∧SameP P w1 w':=by
 have hz:=h4.size;have hz2:=hp.2.size
 refine⟨⟨⟨_,hp.1,?_⟩,fun b hb=>Nat.lt_of_lt_of_le (h3 b hb) hz2,h4.trans hp.2 (fun i hi hs=>?_),h5⟩,fun b hb=>hp.2.block b (h3 b hb) (fun hs=>(h2 b hs).2 hb)⟩
 ·rintro b (hb|⟨hb,_⟩)
  ·exact h2 b hb
  ·exact⟨.inr aC,fun hpb=>by have:=h3 b hpb;omega⟩
 ·rcases (h2 i hs).1 with h|h
  ·exact h
  ·omega
end
def pR(r:Nat):Obj:=.cells #[.pointer (some ⟨r,0,none⟩)] 169 (0,0)
structure RRf (w:World) (S P:Nat→Prop) (rb r:Nat) (w1:World) (n:Nat) (m:DM):Prop where
 st:RSt w S P r w1 n m
 box:w1.heap[rb]?=some (pR r)
 pb:P rb
section
variable {w w1 w2:World} {S P:Nat→Prop} {rb r n n':Nat} {m m':DM}
theorem RRf.step(h:RRf w S P rb r w1 n m)(hs:RSt w S P r w2 n' m')(hk:SameP P w1 w2):RRf w S P rb r w2 n' m':=⟨hs,(hk rb h.pb).trans h.box,h.pb⟩
theorem RRf.bel(h:RRf w S P rb r w1 n m)(hb:Below w1.heap.size w1 w2):RRf w S P rb r w2 n m:=h.step (h.st.bel hb P (fun b hb=>.inl hb)) (h.st.same hb)
theorem RRf.more(h:RRf w S P rb r w1 n m)(hb:Below w1.heap.size w1 w2)(Q:Nat→Prop)(hp:∀b,P b→Q b)(hQ:∀b,Q b→P b∨(w1.heap.size≤b∧b<w2.heap.size)):RRf w S Q rb r w2 n m:=
 ⟨h.st.bel hb Q hQ,(hb.block rb (h.st.pl rb h.pb)).trans h.box,hp _ h.pb⟩
theorem RRf.cell(h:RRf w S P rb r w1 n m):w1.cell? ⟨rb,0,none⟩=some (.pointer (some ⟨r,0,none⟩)):=by rw[lF h.box];rfl
theorem RRf.offc(h:RRf w S P rb r w1 n m):w1.cell? ⟨r,0,none⟩=some (.bool m.off):=by
 obtain⟨⟨S1,⟨⟨fv,nv,sv,pv,kv,ro,h1⟩,-,-⟩,-⟩,-⟩:=h.st;exact h1.cells.1
def RPost(w:World)(S P:Nat→Prop)(r:Nat)(w1:World)(n:Nat)(m:DM)(c:DCall)(e:Ending)(w':World):Prop:=e=.returned (.int .i64 (m.op c).2)∧RSt w S P r w' (n+1) (m.op c).1∧SameP P w1 w'
theorem RPost.eq{w':World}{c:DCall}{e:Ending}{y:Int}(hp:RPost w S P r w1 n m c e w')(he:m.op c=(m',y)):e=.returned (.int .i64 y)∧RSt w S P r w' (n+1) m'∧SameP P w1 w':=by
 obtain⟨h1,h2,h3⟩:=hp;rw[he]at h1 h2;exact⟨h1,h2,h3⟩
theorem oL(h:RRf w S P rb r w1 n m)(o:ROp)(s:ByteArray)(hk1:1≤o.kind)(hk2:o.kind≤6)(hf:o.file=0)(hn:n≤4000000000)(hs:s.size≤140737488355328):
  Calls Tryz.prog 119 #[.pointer (some ⟨rb,0,none⟩),.int .i64 o.kind,.string o.old,.string o.name,.string s] w1 (RPost w S P r w1 n m (mV o s)):=by
 have c0:=h.cell;obtain⟨⟨S1,h1,h2⟩,h3,h4,h5⟩:=h.st;have hd:=Dp h1 o s hk1 hk2 (Ae h1.ok hn) aC hs (by rw[hf];decide)
 go_enter Tryz.func119,Tryz.ntmps119;go_wp2_with fail
 have hd':Calls Tryz.prog 123 #[.pointer (some ⟨r,0,none⟩),.agg #[.int .i64 o.kind,.string o.old,.string o.name,.int .i64 0],.string s] w1 fun e w'=>e=.returned (.int .i64 (m.op (mV o s)).2)∧nM r (n+1) (m.op (mV o s)).1 S1 w1 w':=by
  have h:=hd;unfold oE at h;rw[hf]at h;exact h
 refine hd'.mono ?_;rintro e w2 ⟨rfl,hp⟩;go_wp2_with fail;go_ret;obtain⟨q1,q2⟩:=RSt.post h2 h3 h4 h5 hp;exact⟨rfl,q1,q2⟩
theorem Cf(h:RSt w S P r w1 n m)(hn:n≤4000000000)(s:ByteArray):Calls Tryz.prog 67 #[.pointer (some ⟨r,0,none⟩),.string s] w1 fun e w'=>e=.returned (.tuple #[.string (m.reads s).1,.int .i64 (m.reads s).2])∧∃q,w'=w1.drewN q:=by
 obtain⟨⟨S1,h1,h2⟩,-⟩:=h;exact FG h1 s aC
theorem yR(h:RRf w S P rb r w1 n m)(hn:n≤4000000000)(s:ByteArray):Calls Tryz.prog 67 #[.pointer (some ⟨r,0,none⟩),.string s] w1 fun e w'=>e=.returned (.tuple #[.string (m.reads s).1,.int .i64 (m.reads s).2])∧Below w1.heap.size w1 w':=by
 refine(Cf h.st hn s).mono ?_;rintro e w' ⟨rfl,q,rfl⟩;exact⟨rfl,rfl,rfl,rfl,Nat.le_refl _,fun _ _=>rfl⟩
theorem Cg(h:RSt w S P r w1 n m)(hn:n≤4000000000)(hnm:∀p∈m.now,(mP p).size≤140737488355328)(hd:ByteArray)(hhd:hd.size≤140737488355328):Calls Tryz.prog 65 #[.pointer (some ⟨r,0,none⟩),.string hd] w1 fun e w'=>∃u,e=.returned (.tuple #[u,.int .i64 (if m.off then 27 else 0)])∧GathT w1 w' u (m.lists hd):=by
 obtain⟨⟨S1,h1,h2⟩,-⟩:=h;exact FI h1 hd aC hnm hhd
theorem zM(h:RRf w S P rb r w1 n m)(hn:n≤4000000000)(s:ByteArray):
  Calls Tryz.prog 116 #[.pointer (some ⟨rb,0,none⟩),.string s] w1 fun e w'=>e=.returned (.bool (decide ((m.reads s).2=0)))∧Below w1.heap.size w1 w':=by
 have c0:=h.cell;have hr:=yR h hn s
 obtain⟨u,hu⟩:∃u,(m.reads s).1=u:=⟨_,rfl⟩
 obtain⟨x,hx⟩:∃x,(m.reads s).2=x:=⟨_,rfl⟩
 rw[hu,hx]at hr;rw[hx];clear hu hx h;go_enter Tryz.func116,Tryz.ntmps116;go_wp2_with fail;refine hr.mono ?_;rintro e w2 ⟨rfl,hb⟩;have HB:=hZ hb
 clear hb;go_wp2_with fail;go_ret
 have e0:(x==0)=decide (x=0):=by
  by_cases h0:x=0
  ·subst h0;rfl
  ·rw[beq_eq_false_iff_ne.2 h0,decide_eq_false h0]
 first|exact⟨rfl,HB.out⟩|exact⟨congrArg (fun b=>Ending.returned (.bool b)) e0,HB.out⟩
end
theorem Nz(s:ByteArray):(s.extract 5 s.size).data.toList=s.data.toList.drop 5:=by
 have h:(s.extract 5 s.size).data=s.data.extract 5 s.size:=by first|exact ByteArray.data_extract|(simp)
 rw[h,Array.toList_extract];show(s.data.toList.drop 5).take (s.size-5)=_
 refine List.take_of_length_le ?_;rw[List.length_drop];exact Nat.le_refl _
theorem Ni{s:ByteArray}(h:s.data.toList.take 5=refHead):nS s=s.data.toList.drop 5:=if_pos h
theorem KV{u:List UInt8}{X:ByteArray}(h:X.data.toList=u):(⟨u.toArray⟩:ByteArray)=X:=by
 subst h
 rfl
def KW(w:World)(s:ByteArray)(e:Ending)(w':World):Prop:=∃T,e=.returned (.tuple #[.string T,.bool (qP s)])∧(qP s=true→T.data.toList=nS s)∧Below w.heap.size w w'
theorem zN(s:ByteArray)(hs:(s.size:Int)≤140737488355328)(hh:s.data.toList.take 5=refHead)(w:World):
  Calls Tryz.prog 117 #[.string s] w (KW w s):=by
 have h5:5≤s.size:=by
  have:=congrArg List.length hh;rw[List.length_take]at this;have e:s.data.toList.length=s.size:=Array.length_toList
  have e2:refHead.length=5:=rfl;omega
 have h5i:(5:Int)≤(s.size:Int):=aC;have hXd:(s.extract 5 s.size).data.toList=nS s:=by rw[Nz,Ni hh]
 have hXs:(s.extract 5 s.size).size≤s.size:=by
  have e:(s.extract 5 s.size).size=(nS s).length:=by rw[←hXd];exact Array.length_toList.symm
  rw[e];exact Gl s
 have hfu:=fun W:World=>vW (s.extract 5 s.size) aC W
 have HRM:Hid (qP s=(nO (s.extract 5 s.size).data.toList==some (s.extract 5 s.size).data.toList)):=hZ (by unfold qP;rw[hXd]);have HXD:=hZ hXd
 obtain⟨O,hO⟩:∃O,nO (s.extract 5 s.size).data.toList=O:=⟨_,rfl⟩
 rw[hO]at hfu HRM;unfold lV at hfu;clear hXd hh hO h5 hXs
 cases O with
 |none=>
  have hfu2:∀W:World,Calls Tryz.prog 8 #[.string (s.extract 5 s.size)] W fun e w'=>e=.returned (.tuple #[.string ⟨#[]⟩,.int .i64 31])∧Below W.heap.size W w':=hfu
  clear hfu;go_enter Tryz.func117,Tryz.ntmps117;go_wp2_with (go_at_call 8;refine(hfu2 _).mono ?_;rintro e w2 ⟨rfl,hb2⟩;have HB2:=hZ hb2;clear hb2);go_quiet (fail);rename_i nq;go_wp2_with fail;go_ret2;have e:qP s=false:=HRM.out
  exact⟨⟨#[]⟩,eD,(fun h=>by rw[e]at h;cases h),⟨HB2.out.os,HB2.out.tape,HB2.out.output,HB2.out.size,HB2.out.block⟩⟩
 |some u=>
  have hfu2:∀W:World,Calls Tryz.prog 8 #[.string (s.extract 5 s.size)] W fun e w'=>e=.returned (.tuple #[.string ⟨u.toArray⟩,.int .i64 0])∧Below W.heap.size W w':=hfu
  obtain⟨U,hU⟩:∃U:ByteArray,⟨u.toArray⟩=U:=⟨_,rfl⟩
  rw[hU]at hfu2;have HUD:Hid (U.data.toList=u):=hZ (by rw[←hU])
  clear hfu hU;go_enter Tryz.func117,Tryz.ntmps117;go_wp2_with (go_at_call 8;refine(hfu2 _).mono ?_;rintro e w2 ⟨rfl,hb2⟩;have HB2:=hZ hb2;clear hb2);go_quiet (fail);rename_i nq;go_wp2_with fail;go_ret2
  have e:qP s=(U.toList==(s.extract 5 s.size).toList):=by
   rw[HRM.out,←HUD.out,ByteArray.toList_eq,ByteArray.toList_eq]
   rfl
  refine⟨U,?_,fun h=>?_,⟨HB2.out.os,HB2.out.tape,HB2.out.output,HB2.out.size,HB2.out.block⟩⟩
  ·rw[e]
   rfl
  ·rw[e,ByteArray.toList_eq,ByteArray.toList_eq]at h;rw[←HXD.out,eq_of_beq h]
theorem KX{m m1 m2 m3:DM}{t:ByteArray}{y2 y3:Int}(h1:m.op (.write handR t)=(m1,28))(h2:m1.op (.remove handR)=(m2,y2))(h3:m2.op .flush=(m3,y3)):(qF m1).1=m3:=by
 have hon:m.off=false:=by
  cases ho:m.off with
  |false=>rfl
  |true=>
   unfold DM.op at h1;rw[if_pos ho]at h1;have:=congrArg Prod.snd h1
   cases this
 have hw:m1=m∧(m.get handR).isSome=true:=by
  unfold DM.op at h1;rw[if_neg (by rw[hon];decide)]at h1;by_cases hr:m.refused (.write handR t)=0
  ·rw[if_neg (fun e=>e hr)]at h1;split at h1
   ·have:=congrArg Prod.snd h1;cases this
   ·have:=congrArg Prod.snd h1;cases this
  ·rw[if_pos hr]at h1;have e1:=congrArg Prod.fst h1
   have e2:=congrArg Prod.snd h1;refine⟨e1.symm,?_⟩;have e3:m.refused (.write handR t)=28:=e2
   rw[sQ]at e3;split at e3
   ·rename_i hs;exact hs
   ·cases e3
 obtain⟨rfl,hs⟩:=hw;unfold qF;by_cases hy:y2=0
 ·subst hy;rw[lN _ h2,h3]
 ·rw[nU _ h2 hy];show m2=m3
  have hr:m1.refused (.remove handR)=0:=by
   rw[pK,if_pos hs]
  unfold DM.op at h2;rw[if_neg (by rw[hon];decide),if_neg (fun e=>e hr)]at h2;split at h2
  ·have e1:=congrArg Prod.fst h2;have e2:m2.off=true:=(congrArg DM.off e1).symm.trans rfl
   unfold DM.op at h3;rw[if_pos e2]at h3;exact congrArg Prod.fst h3
  ·have e2:=congrArg Prod.snd h2;exact absurd e2.symm hy
theorem KY{m:DM}(h:m.off=true)(n t:ByteArray):qR m n t=(m,27):=by
 have e:qQ m=(m,27):=by
  have hr:(m.reads handR).2=27:=by unfold DM.reads;rw[if_pos h]
  unfold qQ;rw[hr]
  rfl
 unfold qR;rw[nU _ e aA]
theorem KZ{m:DM}(h:m.off=false)(n:ByteArray):(m.reads n).2=0∨(m.reads n).2=10:=by
 unfold DM.reads;rw[if_neg (by rw[h];decide)];split
 ·exact .inl rfl
 ·exact .inr rfl
structure RSetS (w:World) (S P:Nat→Prop) (rb r db:Nat) (D:List UInt8) (w1 W:World) (n:Nat) (m:DM):Prop where
 rf:RRf w S (fun b=>P b∨b=db) rb r W n m
 dg:W.heap[db]?=some (.cells (D.map lG).toArray 33 (0,0))
 sm:SameP P w1 W
section
variable {w w1 W W':World} {S P:Nat→Prop} {rb r db n n':Nat} {D:List UInt8} {m m':DM}
theorem RSetS.op(h:RSetS w S P rb r db D w1 W n m)(hs:RSt w S (fun b=>P b∨b=db) r W' n' m')(hk:SameP (fun b=>P b∨b=db) W W'):RSetS w S P rb r db D w1 W' n' m':=
 ⟨h.rf.step hs hk,(hk db (.inr rfl)).trans h.dg,fun b hb=>(hk b (.inl hb)).trans (h.sm b hb)⟩
theorem RSetS.bel(h:RSetS w S P rb r db D w1 W n m)(hb:Below W.heap.size W W'):RSetS w S P rb r db D w1 W' n m:=h.op (h.rf.bel hb).st (h.rf.st.same hb)
theorem RSetS.fin(h:RSetS w S P rb r db D w1 W n m)(hn:n≤n'):RSt w S P r W n' m∧SameP P w1 W:=⟨(h.rf.st.sub P (fun b hb=>.inl hb)).more hn,h.sm⟩
end
theorem Hj{w w1:World}{S P:Nat→Prop}{rb r n:Nat}{m:DM}(h:RRf w S P rb r w1 n m)(hn:n+7≤4000000000)(s:ByteArray)(hs:(s.size:Int)≤140737488355328)(D:List UInt8)(hD:D.length=32):
  Calls Tryz.prog 57 #[.pointer (some ⟨rb,0,none⟩),.string s,nH D] w1 fun e w'=>e=.returned (.int .i64 (tX m s.data.toList D).2)∧RSt w S P r w' (n+7) (tX m s.data.toList D).1∧SameP P w1 w':=by
 have hfu:=fun W:World=>vW s hs W
 unfold lV at hfu;have HDL:=hZ hD
 obtain⟨W1,hW1⟩:∃W,w1.alloc (.cells (D.map lG).toArray 33)=W:=⟨_,rfl⟩
 have hb1:Below w1.heap.size w1 W1:=aQ
 have HS1:Hid (RSetS w S P rb r w1.heap.size D w1 W1 n m):=hZ ⟨h.more hb1 _ (fun b hb=>.inl hb) (fun b hb=>by
  rcases hb with hb|rfl
  ·exact .inl hb
  ·exact .inr ⟨Nat.le_refl _,by rw[←hW1,World.size_alloc];omega⟩),cB,h.st.same hb1⟩
 have HTX:=hZ (fun W:World=>xS D hD W);have hTs:(nA D).size=71:=wB hD
 have hI:=oM hD;have hU:=nD
 unfold tX
 obtain⟨T,hT⟩:∃T,nA D=T:=⟨_,rfl⟩
 rw[hT]at HTX hTs⊢;have HTS:=hZ (show T.size≤140737488355328 by omega)
 have hfl:=fun u h=>(pD (s:=s.data.toList) (u:=u) h).2.1
 unfold nH at HTX⊢;clear h hb1 hT hTs hD
 cases hf:nO s.data.toList with
 |none=>
  rw[hf]at hfu;have hfu2:∀W:World,Calls Tryz.prog 8 #[.string s] W fun e w'=>e=.returned (.tuple #[.string ⟨#[]⟩,.int .i64 31])∧Below W.heap.size W w':=hfu
  clear hfu hf hfl;go_enter Tryz.func57,Tryz.ntmps57;go_wp2_with fail;refine(hfu2 _).mono ?_;rintro e w2 ⟨rfl,hb2⟩;have HS2:=hZ (HS1.out.bel hb2)
  clear hb2;go_wp2_with fail;go_ret;exact⟨rfl,HS2.out.fin aC⟩
 |some u=>
  rw[hf]at hfu;have hul:=hfl u hf
  have hfu2:∀W:World,Calls Tryz.prog 8 #[.string s] W fun e w'=>e=.returned (.tuple #[.string ⟨u.toArray⟩,.int .i64 0])∧Below W.heap.size W w':=hfu
  have happ:=wI u;have hzz:=pY u
  simp only;generalize nR u=N at happ hzz⊢;have hus:(((⟨u.toArray⟩:ByteArray).size:Nat):Int)≤96:=dR
  generalize (⟨u.toArray⟩:ByteArray)=U at hfu2 happ hus;clear hfu hf hfl hzz hul;go_enter Tryz.func57,Tryz.ntmps57;go_wp2_with fail;refine(hfu2 _).mono ?_;rintro e w2 ⟨rfl,hb2⟩;have H2:=hZ (HS1.out.bel hb2)
  have c2:=H2.out.rf.cell;have cof:=H2.out.rf.offc
  clear hb2 hW1 hfu2
  cases hoff:m.off with
  |true=>
   rw[hoff]at cof;have HOFF:=hZ hoff
   clear hoff;go_wp2_with fail;go_ret;rw[KY HOFF.out];exact⟨rfl,H2.out.fin aC⟩
  |false=>
   rw[hoff]at cof;have hro:=KZ hoff handR
   have hth:=zM H2.out.rf aC handR;have hcr:qQ m=if(m.reads handR).2=0 then qF m else if(m.reads handR).2=10 then(m,0)else(m,(m.reads handR).2):=rfl
   obtain⟨ex,hex⟩:∃y,(m.reads handR).2=y:=⟨_,rfl⟩
   rw[hex]at hro hth hcr;unfold handR at hth;clear hex hoff;rcases hro with rfl|rfl
   ·rw[if_pos rfl]at hcr;unfold qF at hcr;have HCG:=hZ hcr
    clear hcr;go_wp2_with fail;refine hth.mono ?_;rintro e w3 ⟨rfl,hb3⟩;have H3:=hZ (H2.out.bel hb3)
    clear hb3 hth c2 cof;go_wp2_with fail;have hdo:=oL H3.out.rf ⟨5,⟨#[]⟩,handR,0⟩ ⟨#[]⟩ (show 1≤5 by decide) (show 5≤6 by decide) rfl aC aA
    have hrc:mV ⟨5,⟨#[]⟩,handR,0⟩ ⟨#[]⟩=.remove handR:=rfl;rw[hrc]at hdo
    try unfold handR at hdo
    obtain⟨m4,y4,hop⟩:∃m' y,m.op (.remove handR)=(m',y):=⟨_,_,rfl⟩
    refine hdo.mono fun e W4 hp=>?_
    obtain⟨rfl,q1,q2⟩:=RPost.eq (c:=.remove handR) hp hop;have H4:=hZ (H3.out.op q1 q2)
    have O4:=hZ hop;clear hdo hrc hp q1 q2 hop;by_cases h4:y4=0
    ·subst h4;go_wp2_with fail;have hdo:=oL H4.out.rf ⟨6,⟨#[]⟩,⟨#[]⟩,0⟩ ⟨#[]⟩ (show 1≤6 by decide) (show 6≤6 by decide) rfl aC aA
     have hrc:mV ⟨6,⟨#[]⟩,⟨#[]⟩,0⟩ ⟨#[]⟩=.flush:=rfl;rw[hrc]at hdo
     try unfold handR at hdo
     obtain⟨m5,y5,hop⟩:∃m' y,m4.op (.flush)=(m',y):=⟨_,_,rfl⟩
     refine hdo.mono fun e W5 hp=>?_
     obtain⟨rfl,q1,q2⟩:=RPost.eq (c:=.flush) hp hop;have H5:=hZ (H4.out.op q1 q2)
     have O5:=hZ hop;clear hdo hrc hp q1 q2 hop;have HCR:=hZ (HCG.out.trans ((lN _ O4.out).trans O5.out))
     by_cases h5:y5=0
     ·subst h5;go_wp2_with fail;have hdo:=oL H5.out.rf ⟨1,⟨#[]⟩,handR,0⟩ ⟨#[]⟩ (show 1≤1 by decide) (show 1≤6 by decide) rfl aC aA
      have hrc:mV ⟨1,⟨#[]⟩,handR,0⟩ ⟨#[]⟩=.create handR:=rfl;rw[hrc]at hdo
      try unfold handR at hdo
      obtain⟨m10,y10,hop⟩:∃m' y,m5.op (.create handR)=(m',y):=⟨_,_,rfl⟩
      refine hdo.mono fun e W10 hp=>?_
      obtain⟨rfl,q1,q2⟩:=RPost.eq (c:=.create handR) hp hop;have H10:=hZ (H5.out.op q1 q2)
      have O10:=hZ hop;clear hdo hrc hp q1 q2 hop;by_cases h10:y10=0
      ·subst h10;have hrg:=oF H10.out.dg
       have HRG:=hZ hrg;clear hrg;go_wp2_with (first|refine wpList_load_mid rfl _ _ rfl w1.heap.size 0 rfl (D.map lG) _ HRG.out hU rfl hI ?_);refine(HTX.out _).mono ?_;rintro e W10t ⟨rfl,hbt⟩;have Ht:=hZ (H10.out.bel hbt)
       clear hbt HRG;go_wp2_with fail;have hdo:=oL Ht.out.rf ⟨2,⟨#[]⟩,handR,0⟩ T (show 1≤2 by decide) (show 2≤6 by decide) rfl aC (HTS.out)
       have hrc:mV ⟨2,⟨#[]⟩,handR,0⟩ T=.write handR T:=rfl;rw[hrc]at hdo
       try unfold handR at hdo
       obtain⟨m11,y11,hop⟩:∃m' y,m10.op (.write handR T)=(m',y):=⟨_,_,rfl⟩
       refine hdo.mono fun e W11 hp=>?_
       obtain⟨rfl,q1,q2⟩:=RPost.eq (c:=.write handR T) hp hop;have H11:=hZ (Ht.out.op q1 q2)
       have O11:=hZ hop;clear hdo hrc hp q1 q2 hop;by_cases h28:y11=28
       ·subst h28;go_wp2_with fail;have hdo:=oL H11.out.rf ⟨5,⟨#[]⟩,handR,0⟩ ⟨#[]⟩ (show 1≤5 by decide) (show 5≤6 by decide) rfl aC aA
        have hrc:mV ⟨5,⟨#[]⟩,handR,0⟩ ⟨#[]⟩=.remove handR:=rfl;rw[hrc]at hdo
        try unfold handR at hdo
        obtain⟨m12,y12,hop⟩:∃m' y,m11.op (.remove handR)=(m',y):=⟨_,_,rfl⟩
        refine hdo.mono fun e W12 hp=>?_
        obtain⟨rfl,q1,q2⟩:=RPost.eq (c:=.remove handR) hp hop;have H12:=hZ (H11.out.op q1 q2)
        have O12:=hZ hop;clear hdo hrc hp q1 q2 hop;go_wp2_with fail;have hdo:=oL H12.out.rf ⟨6,⟨#[]⟩,⟨#[]⟩,0⟩ ⟨#[]⟩ (show 1≤6 by decide) (show 6≤6 by decide) rfl aC aA
        have hrc:mV ⟨6,⟨#[]⟩,⟨#[]⟩,0⟩ ⟨#[]⟩=.flush:=rfl;rw[hrc]at hdo
        try unfold handR at hdo
        obtain⟨m13,y13,hop⟩:∃m' y,m12.op (.flush)=(m',y):=⟨_,_,rfl⟩
        refine hdo.mono fun e W13 hp=>?_
        obtain⟨rfl,q1,q2⟩:=RPost.eq (c:=.flush) hp hop;have H13:=hZ (H12.out.op q1 q2)
        have O13:=hZ hop;clear hdo hrc hp q1 q2 hop;go_wp2_with fail;go_ret;unfold qR;rw[lN _ HCR.out,lN _ O10.out,uO O11.out,KX O11.out O12.out O13.out];exact jS
       ·have b28:(y11==28)=false:=beq_eq_false_iff_ne.2 h28;have N28:=hZ h28
        clear h28;by_cases h11:y11=0
        ·subst h11;go_wp2_with fail;have hdo:=oL H11.out.rf ⟨3,⟨#[]⟩,handR,0⟩ ⟨#[]⟩ (show 1≤3 by decide) (show 3≤6 by decide) rfl aC aA
         have hrc:mV ⟨3,⟨#[]⟩,handR,0⟩ ⟨#[]⟩=.sync handR:=rfl;rw[hrc]at hdo
         try unfold handR at hdo
         obtain⟨m12,y12,hop⟩:∃m' y,m11.op (.sync handR)=(m',y):=⟨_,_,rfl⟩
         refine hdo.mono fun e W12 hp=>?_
         obtain⟨rfl,q1,q2⟩:=RPost.eq (c:=.sync handR) hp hop;have H12:=hZ (H11.out.op q1 q2)
         have O12:=hZ hop;clear hdo hrc hp q1 q2 hop;by_cases h12:y12=0
         ·subst h12;go_wp2_with fail;have hdo:=oL H12.out.rf ⟨4,handR,N,0⟩ ⟨#[]⟩ (show 1≤4 by decide) (show 4≤6 by decide) rfl aC aA
          have hrc:mV ⟨4,handR,N,0⟩ ⟨#[]⟩=.rename handR N:=rfl;rw[hrc]at hdo
          try unfold handR at hdo
          obtain⟨m13,y13,hop⟩:∃m' y,m12.op (.rename handR N)=(m',y):=⟨_,_,rfl⟩
          refine hdo.mono fun e W13 hp=>?_
          obtain⟨rfl,q1,q2⟩:=RPost.eq (c:=.rename handR N) hp hop;have H13:=hZ (H12.out.op q1 q2)
          have O13:=hZ hop;clear hdo hrc hp q1 q2 hop;by_cases h13:y13=0
          ·subst h13;go_wp2_with fail;have hdo:=oL H13.out.rf ⟨6,⟨#[]⟩,⟨#[]⟩,0⟩ ⟨#[]⟩ (show 1≤6 by decide) (show 6≤6 by decide) rfl aC aA
           have hrc:mV ⟨6,⟨#[]⟩,⟨#[]⟩,0⟩ ⟨#[]⟩=.flush:=rfl;rw[hrc]at hdo
           try unfold handR at hdo
           obtain⟨m14,y14,hop⟩:∃m' y,m13.op (.flush)=(m',y):=⟨_,_,rfl⟩
           refine hdo.mono fun e W14 hp=>?_
           obtain⟨rfl,q1,q2⟩:=RPost.eq (c:=.flush) hp hop;have H14:=hZ (H13.out.op q1 q2)
           have O14:=hZ hop;clear hdo hrc hp q1 q2 hop;go_wp2_with fail;go_ret;unfold qR;rw[lN _ HCR.out,lN _ O10.out,pO O11.out,lN _ O12.out,lN _ O13.out,O14.out];exact⟨rfl,H14.out.fin aC⟩
          ·have b13:(y13==0)=false:=beq_eq_false_iff_ne.2 h13;have Z13:=hZ h13
           clear h13;go_wp2_with fail;go_ret;unfold qR;rw[lN _ HCR.out,lN _ O10.out,pO O11.out,lN _ O12.out,nU _ O13.out Z13.out];exact jS
         ·have b12:(y12==0)=false:=beq_eq_false_iff_ne.2 h12;have Z12:=hZ h12
          clear h12;go_wp2_with fail;go_ret;unfold qR;rw[lN _ HCR.out,lN _ O10.out,pO O11.out,nU _ O12.out Z12.out];exact⟨rfl,H12.out.fin aC⟩
        ·have b11:(y11==0)=false:=beq_eq_false_iff_ne.2 h11;have Z11:=hZ h11
         clear h11;go_wp2_with fail;go_ret;unfold qR;rw[lN _ HCR.out,lN _ O10.out,xZ O11.out Z11.out N28.out];exact⟨rfl,H11.out.fin aC⟩
      ·have b10:(y10 !=0)=true:=bne_iff_ne.2 h10;have Z10:=hZ h10
       clear h10;go_wp2_with fail;go_ret;unfold qR;rw[lN _ HCR.out,nU _ O10.out Z10.out];exact⟨rfl,H10.out.fin aC⟩
     ·have b5:(y5 !=0)=true:=bne_iff_ne.2 h5;have Z5:=hZ h5
      clear h5;go_wp2_with fail;go_ret;unfold qR;rw[nU _ HCR.out Z5.out];exact⟨rfl,H5.out.fin aC⟩
    ·have b4:(y4==0)=false:=beq_eq_false_iff_ne.2 h4;have b4b:(y4 !=0)=true:=bne_iff_ne.2 h4
     have Z4:=hZ h4;have HCR:=hZ (HCG.out.trans (nU _ O4.out Z4.out))
     clear h4;go_wp2_with fail;go_ret;unfold qR;rw[nU _ HCR.out Z4.out];exact⟨rfl,H4.out.fin aC⟩
   ·rw[if_neg aA,if_pos rfl]at hcr;have HCR:=hZ hcr
    clear hcr;go_wp2_with fail;refine hth.mono ?_;rintro e w3 ⟨rfl,hb3⟩;have H3:=hZ (H2.out.bel hb3)
    clear hb3 hth c2 cof;go_wp2_with fail;have hdo:=oL H3.out.rf ⟨1,⟨#[]⟩,handR,0⟩ ⟨#[]⟩ (show 1≤1 by decide) (show 1≤6 by decide) rfl aC aA
    have hrc:mV ⟨1,⟨#[]⟩,handR,0⟩ ⟨#[]⟩=.create handR:=rfl;rw[hrc]at hdo
    try unfold handR at hdo
    obtain⟨m10,y10,hop⟩:∃m' y,m.op (.create handR)=(m',y):=⟨_,_,rfl⟩
    refine hdo.mono fun e W10 hp=>?_
    obtain⟨rfl,q1,q2⟩:=RPost.eq (c:=.create handR) hp hop;have H10:=hZ (H3.out.op q1 q2)
    have O10:=hZ hop;clear hdo hrc hp q1 q2 hop;by_cases h10:y10=0
    ·subst h10;have hrg:=oF H10.out.dg
     have HRG:=hZ hrg;clear hrg;go_wp2_with (first|refine wpList_load_mid rfl _ _ rfl w1.heap.size 0 rfl (D.map lG) _ HRG.out hU rfl hI ?_);refine(HTX.out _).mono ?_;rintro e W10t ⟨rfl,hbt⟩;have Ht:=hZ (H10.out.bel hbt)
     clear hbt HRG;go_wp2_with fail;have hdo:=oL Ht.out.rf ⟨2,⟨#[]⟩,handR,0⟩ T (show 1≤2 by decide) (show 2≤6 by decide) rfl aC (HTS.out)
     have hrc:mV ⟨2,⟨#[]⟩,handR,0⟩ T=.write handR T:=rfl;rw[hrc]at hdo
     try unfold handR at hdo
     obtain⟨m11,y11,hop⟩:∃m' y,m10.op (.write handR T)=(m',y):=⟨_,_,rfl⟩
     refine hdo.mono fun e W11 hp=>?_
     obtain⟨rfl,q1,q2⟩:=RPost.eq (c:=.write handR T) hp hop;have H11:=hZ (Ht.out.op q1 q2)
     have O11:=hZ hop;clear hdo hrc hp q1 q2 hop;by_cases h28:y11=28
     ·subst h28;go_wp2_with fail;have hdo:=oL H11.out.rf ⟨5,⟨#[]⟩,handR,0⟩ ⟨#[]⟩ (show 1≤5 by decide) (show 5≤6 by decide) rfl aC aA
      have hrc:mV ⟨5,⟨#[]⟩,handR,0⟩ ⟨#[]⟩=.remove handR:=rfl;rw[hrc]at hdo
      try unfold handR at hdo
      obtain⟨m12,y12,hop⟩:∃m' y,m11.op (.remove handR)=(m',y):=⟨_,_,rfl⟩
      refine hdo.mono fun e W12 hp=>?_
      obtain⟨rfl,q1,q2⟩:=RPost.eq (c:=.remove handR) hp hop;have H12:=hZ (H11.out.op q1 q2)
      have O12:=hZ hop;clear hdo hrc hp q1 q2 hop;go_wp2_with fail;have hdo:=oL H12.out.rf ⟨6,⟨#[]⟩,⟨#[]⟩,0⟩ ⟨#[]⟩ (show 1≤6 by decide) (show 6≤6 by decide) rfl aC aA
      have hrc:mV ⟨6,⟨#[]⟩,⟨#[]⟩,0⟩ ⟨#[]⟩=.flush:=rfl;rw[hrc]at hdo
      try unfold handR at hdo
      obtain⟨m13,y13,hop⟩:∃m' y,m12.op (.flush)=(m',y):=⟨_,_,rfl⟩
      refine hdo.mono fun e W13 hp=>?_
      obtain⟨rfl,q1,q2⟩:=RPost.eq (c:=.flush) hp hop;have H13:=hZ (H12.out.op q1 q2)
      have O13:=hZ hop;clear hdo hrc hp q1 q2 hop;go_wp2_with fail;go_ret;unfold qR;rw[lN _ HCR.out,lN _ O10.out,uO O11.out,KX O11.out O12.out O13.out];exact jS
     ·have b28:(y11==28)=false:=beq_eq_false_iff_ne.2 h28;have N28:=hZ h28
      clear h28;by_cases h11:y11=0
      ·subst h11;go_wp2_with fail;have hdo:=oL H11.out.rf ⟨3,⟨#[]⟩,handR,0⟩ ⟨#[]⟩ (show 1≤3 by decide) (show 3≤6 by decide) rfl aC aA
       have hrc:mV ⟨3,⟨#[]⟩,handR,0⟩ ⟨#[]⟩=.sync handR:=rfl;rw[hrc]at hdo
       try unfold handR at hdo
       obtain⟨m12,y12,hop⟩:∃m' y,m11.op (.sync handR)=(m',y):=⟨_,_,rfl⟩
       refine hdo.mono fun e W12 hp=>?_
       obtain⟨rfl,q1,q2⟩:=RPost.eq (c:=.sync handR) hp hop;have H12:=hZ (H11.out.op q1 q2)
       have O12:=hZ hop;clear hdo hrc hp q1 q2 hop;by_cases h12:y12=0
       ·subst h12;go_wp2_with fail;have hdo:=oL H12.out.rf ⟨4,handR,N,0⟩ ⟨#[]⟩ (show 1≤4 by decide) (show 4≤6 by decide) rfl aC aA
        have hrc:mV ⟨4,handR,N,0⟩ ⟨#[]⟩=.rename handR N:=rfl;rw[hrc]at hdo
        try unfold handR at hdo
        obtain⟨m13,y13,hop⟩:∃m' y,m12.op (.rename handR N)=(m',y):=⟨_,_,rfl⟩
        refine hdo.mono fun e W13 hp=>?_
        obtain⟨rfl,q1,q2⟩:=RPost.eq (c:=.rename handR N) hp hop;have H13:=hZ (H12.out.op q1 q2)
        have O13:=hZ hop;clear hdo hrc hp q1 q2 hop;by_cases h13:y13=0
        ·subst h13;go_wp2_with fail;have hdo:=oL H13.out.rf ⟨6,⟨#[]⟩,⟨#[]⟩,0⟩ ⟨#[]⟩ (show 1≤6 by decide) (show 6≤6 by decide) rfl aC aA
         have hrc:mV ⟨6,⟨#[]⟩,⟨#[]⟩,0⟩ ⟨#[]⟩=.flush:=rfl;rw[hrc]at hdo
         try unfold handR at hdo
         obtain⟨m14,y14,hop⟩:∃m' y,m13.op (.flush)=(m',y):=⟨_,_,rfl⟩
         refine hdo.mono fun e W14 hp=>?_
         obtain⟨rfl,q1,q2⟩:=RPost.eq (c:=.flush) hp hop;have H14:=hZ (H13.out.op q1 q2)
         have O14:=hZ hop;clear hdo hrc hp q1 q2 hop;go_wp2_with fail;go_ret;unfold qR;rw[lN _ HCR.out,lN _ O10.out,pO O11.out,lN _ O12.out,lN _ O13.out,O14.out];exact⟨rfl,H14.out.fin aC⟩
        ·have b13:(y13==0)=false:=beq_eq_false_iff_ne.2 h13;have Z13:=hZ h13
         clear h13;go_wp2_with fail;go_ret;unfold qR;rw[lN _ HCR.out,lN _ O10.out,pO O11.out,lN _ O12.out,nU _ O13.out Z13.out];exact jS
       ·have b12:(y12==0)=false:=beq_eq_false_iff_ne.2 h12;have Z12:=hZ h12
        clear h12;go_wp2_with fail;go_ret;unfold qR;rw[lN _ HCR.out,lN _ O10.out,pO O11.out,nU _ O12.out Z12.out];exact⟨rfl,H12.out.fin aC⟩
      ·have b11:(y11==0)=false:=beq_eq_false_iff_ne.2 h11;have Z11:=hZ h11
       clear h11;go_wp2_with fail;go_ret;unfold qR;rw[lN _ HCR.out,lN _ O10.out,xZ O11.out Z11.out N28.out];exact⟨rfl,H11.out.fin aC⟩
    ·have b10:(y10 !=0)=true:=bne_iff_ne.2 h10;have Z10:=hZ h10
     clear h10;go_wp2_with fail;go_ret;unfold qR;rw[lN _ HCR.out,nU _ O10.out Z10.out];exact⟨rfl,H10.out.fin aC⟩
def Hk(w1:World)(r:List UInt8×Int)(e:Ending)(w':World):Prop:=e=.returned (.tuple #[nH r.1,.int .i64 r.2])∧Below w1.heap.size w1 w'
theorem Hl{w w1:World}{S P:Nat→Prop}{rb r n:Nat}{m:DM}(h:RRf w S P rb r w1 n m)(hn:n≤4000000000)(s:ByteArray)(hs:(s.size:Int)≤140737488355328):
  Calls Tryz.prog 58 #[.pointer (some ⟨rb,0,none⟩),.string s] w1 (Hk w1 (wY m s.data.toList)):=by
 have hfu:=fun W:World=>vW s hs W
 unfold lV at hfu;have HF:=hZ h
 have hb0:Below w1.heap.size w1 (w1.alloc (.cells z32 33)):=(Below.refl _ _).alloc (Nat.le_refl _) _;have HB0:=hZ hb0
 have HR0:Hid ((w1.alloc (.cells z32 33)).heap[w1.heap.size]?=some (.cells z32 33 (0,0))):=hZ (lP _ _);have h1z:=nW zeroD
 have hI32:=lX (d:=zeroD) rfl;have hsz:=nE (d:=zeroD) rfl
 have hU:=nD;unfold Hk wY;have hfl:=fun u h=>(pD (s:=s.data.toList) (u:=u) h).2.1
 clear h hb0
 cases hf:nO s.data.toList with
 |none=>
  rw[hf]at hfu;have hfu2:∀W:World,Calls Tryz.prog 8 #[.string s] W fun e w'=>e=.returned (.tuple #[.string ⟨#[]⟩,.int .i64 31])∧Below W.heap.size W w':=hfu
  clear hfu hf hfl;go_enter Tryz.func58,Tryz.ntmps58;go_wp2_with (first|(go_at_call 8;refine(hfu2 _).mono ?_;rintro e w2 ⟨rfl,hb2⟩;have HB2:=hZ (HB0.out.trans (hb2.mono cO));have HR2:Hid (w2.heap[w1.heap.size]?=some (.cells z32 33 (0,0))):=hZ ((hb2.block _ (lH HR0.out)).trans HR0.out);have c2:=(HF.out.bel HB2.out).cell;clear hb2 HR0)|(refine wpList_store_row rfl _ _ _ rfl w1.heap.size (zeroD.map lG).toArray rfl rfl 33 z32 HR2.out hI32 hsz h1z ?_;rw[lZ HR2.out]));refine bodyPost_ret (v:=.tuple #[nH zeroD,.int .i64 31]) (mT (fn:=Tryz.f58) (p:=4) (u:=5) rfl _ _ w1.heap.size _ _ rfl (lM (lH HR2.out)) rfl) rfl ?_;exact⟨rfl,HB2.out.setBlk (Nat.le_refl _)⟩
 |some u=>
  rw[hf]at hfu;have hul:=hfl u hf
  have hfu2:∀W:World,Calls Tryz.prog 8 #[.string s] W fun e w'=>e=.returned (.tuple #[.string ⟨u.toArray⟩,.int .i64 0])∧Below W.heap.size W w':=hfu
  have happ:=wI u;have hzz:=pY u
  simp only;unfold DW;generalize nR u=N at happ hzz⊢;have hus:(((⟨u.toArray⟩:ByteArray).size:Nat):Int)≤96:=dR
  generalize (⟨u.toArray⟩:ByteArray)=U at hfu2 happ hus;have hrd:=fun W (hst:RRf w S P rb r W n m)=>yR hst hn N
  obtain⟨T,hT⟩:∃T,(m.reads N).1=T:=⟨_,rfl⟩
  obtain⟨y,hy⟩:∃y,(m.reads N).2=y:=⟨_,rfl⟩
  rw[hT,hy]at hrd⊢;have HRD:=hZ hrd
  clear hfu hf hfl hzz hul hT hy hrd;by_cases hy0:y=0
  ·subst hy0;have hpa:=fun W:World=>tM T W
   unfold vP at hpa;rw[if_neg (show¬(0:Int)≠0 from fun h=>h rfl)]
   cases hp:nI T with
   |none=>
    rw[hp]at hpa;have hpa2:∀W:World,Calls Tryz.prog 118 #[.string T] W fun e w'=>e=.returned (.tuple #[.agg (zeroD.map lG).toArray,.int .i64 4])∧Below W.heap.size W w':=hpa
    clear hpa hp;go_enter Tryz.func58,Tryz.ntmps58;go_wp2_with (first|(go_at_call 8;refine(hfu2 _).mono ?_;rintro e w2 ⟨rfl,hb2⟩;have HB2:=hZ (HB0.out.trans (hb2.mono cO));have HR2:Hid (w2.heap[w1.heap.size]?=some (.cells z32 33 (0,0))):=hZ ((hb2.block _ (lH HR0.out)).trans HR0.out);have c2:=(HF.out.bel HB2.out).cell;clear hb2 HR0));refine(HRD.out _ (HF.out.bel HB2.out)).mono ?_;rintro e w3 ⟨rfl,hb3⟩;have HB3:=hZ (HB2.out.trans (hb3.mono HB2.out.size))
    have HR3:Hid (w3.heap[w1.heap.size]?=some (.cells z32 33 (0,0))):=hZ ((hb3.block _ (lH HR2.out)).trans HR2.out);clear hb3 HR2 c2;go_wp2_with (first|(go_at_call 118;refine(hpa2 _).mono ?_;rintro e w4 ⟨rfl,hb4⟩;have HB4:=hZ (HB3.out.trans (hb4.mono HB3.out.size));have HR4:Hid (w4.heap[w1.heap.size]?=some (.cells z32 33 (0,0))):=hZ ((hb4.block _ (lH HR3.out)).trans HR3.out);clear hb4 HR3)|(refine lO rfl _ _ _ rfl _ (zeroD.map lG).toArray _ rfl rfl rfl hI32 hsz h1z ?_;(obtain⟨W5,hW5⟩:∃W,w4.alloc (.cells (zeroD.map lG).toArray 33)=W:=⟨_,rfl⟩;have hb5:Below w4.heap.size w4 W5:=aM;have HB5:=hZ (HB4.out.trans (hb5.mono HB4.out.size));have HR5:Hid (W5.heap[w1.heap.size]?=some (.cells z32 33 (0,0))):=hZ ((hb5.block _ (lH HR4.out)).trans HR4.out);rw[hW5];clear hW5 hb5 HR4))|(refine wpList_store_row rfl _ _ _ rfl w1.heap.size (zeroD.map lG).toArray rfl rfl 33 z32 HR5.out hI32 hsz h1z ?_;rw[lZ HR5.out]));refine bodyPost_ret (v:=.tuple #[nH zeroD,.int .i64 30]) (mT (fn:=Tryz.f58) (p:=4) (u:=5) rfl _ _ w1.heap.size _ _ rfl (lM (lH HR5.out)) rfl) rfl ?_;exact⟨rfl,HB5.out.setBlk (Nat.le_refl _)⟩
   |some D=>
    have hDl:=uP hp;rw[hp]at hpa;have hpa2:∀W:World,Calls Tryz.prog 118 #[.string T] W fun e w'=>e=.returned (.tuple #[.agg (D.map lG).toArray,.int .i64 0])∧Below W.heap.size W w':=hpa
    have hI:=oM hDl;have hI2:=lX hDl
    have h1:=nW D;have hz:=nE hDl
    have HDL:=hZ hDl;clear hpa hp hDl;go_enter Tryz.func58,Tryz.ntmps58;go_wp2_with (first|(go_at_call 8;refine(hfu2 _).mono ?_;rintro e w2 ⟨rfl,hb2⟩;have HB2:=hZ (HB0.out.trans (hb2.mono cO));have HR2:Hid (w2.heap[w1.heap.size]?=some (.cells z32 33 (0,0))):=hZ ((hb2.block _ (lH HR0.out)).trans HR0.out);have c2:=(HF.out.bel HB2.out).cell;clear hb2 HR0));refine(HRD.out _ (HF.out.bel HB2.out)).mono ?_;rintro e w3 ⟨rfl,hb3⟩;have HB3:=hZ (HB2.out.trans (hb3.mono HB2.out.size))
    have HR3:Hid (w3.heap[w1.heap.size]?=some (.cells z32 33 (0,0))):=hZ ((hb3.block _ (lH HR2.out)).trans HR2.out);clear hb3 HR2 c2;go_wp2_with (first|(go_at_call 118;refine(hpa2 _).mono ?_;rintro e w4 ⟨rfl,hb4⟩;have HB4:=hZ (HB3.out.trans (hb4.mono HB3.out.size));have HR4:Hid (w4.heap[w1.heap.size]?=some (.cells z32 33 (0,0))):=hZ ((hb4.block _ (lH HR3.out)).trans HR3.out);clear hb4 HR3)|(refine lO rfl _ _ _ rfl _ (D.map lG).toArray _ rfl rfl rfl hI2 hz h1 ?_;(obtain⟨W5,hW5⟩:∃W,w4.alloc (.cells (D.map lG).toArray 33)=W:=⟨_,rfl⟩;have hb5:Below w4.heap.size w4 W5:=aM;have HB5:=hZ (HB4.out.trans (hb5.mono HB4.out.size));have HR5:Hid (W5.heap[w1.heap.size]?=some (.cells z32 33 (0,0))):=hZ ((hb5.block _ (lH HR4.out)).trans HR4.out);have HRG5:Hid (W5.rangeAt w4.heap.size 0 (D.map lG)):=hZ (oF cJ);rw[hW5];clear hW5 hb5 HR4))|refine wpList_load_mid rfl _ _ rfl w4.heap.size 0 rfl (D.map lG) _ HRG5.out hU rfl hI ?_|(refine wpList_store_row rfl _ _ _ rfl w1.heap.size (D.map lG).toArray rfl rfl 33 z32 HR5.out hI2 hz h1 ?_;rw[lZ HR5.out]));refine bodyPost_ret (v:=.tuple #[nH D,.int .i64 0]) (mT (fn:=Tryz.f58) (p:=4) (u:=5) rfl _ _ w1.heap.size _ _ rfl (lM (lH HR5.out)) jG) rfl ?_;exact⟨rfl,HB5.out.setBlk (Nat.le_refl _)⟩
  ·rw[if_pos hy0];have hyb:(y !=0)=true:=bne_iff_ne.2 hy0
   clear hy0;go_enter Tryz.func58,Tryz.ntmps58;go_wp2_with (first|(go_at_call 8;refine(hfu2 _).mono ?_;rintro e w2 ⟨rfl,hb2⟩;have HB2:=hZ (HB0.out.trans (hb2.mono cO));have HR2:Hid (w2.heap[w1.heap.size]?=some (.cells z32 33 (0,0))):=hZ ((hb2.block _ (lH HR0.out)).trans HR0.out);have c2:=(HF.out.bel HB2.out).cell;clear hb2 HR0));refine(HRD.out _ (HF.out.bel HB2.out)).mono ?_;rintro e w3 ⟨rfl,hb3⟩;have HB3:=hZ (HB2.out.trans (hb3.mono HB2.out.size))
   have HR3:Hid (w3.heap[w1.heap.size]?=some (.cells z32 33 (0,0))):=hZ ((hb3.block _ (lH HR2.out)).trans HR2.out);clear hb3 HR2 c2;go_wp2_with (first|(refine wpList_store_row rfl _ _ _ rfl w1.heap.size (zeroD.map lG).toArray rfl rfl 33 z32 HR3.out hI32 hsz h1z ?_;rw[lZ HR3.out]));refine bodyPost_ret (v:=.tuple #[nH zeroD,.int .i64 y]) (mT (fn:=Tryz.f58) (p:=4) (u:=5) rfl _ _ w1.heap.size _ _ rfl (lM (lH HR3.out)) rfl) rfl ?_;exact⟨rfl,HB3.out.setBlk (Nat.le_refl _)⟩
theorem Hm{w w1:World}{S P:Nat→Prop}{rb r n:Nat}{m:DM}(h:RRf w S P rb r w1 n m)(hn:n+2≤4000000000)(s:ByteArray)(hs:(s.size:Int)≤140737488355328):
  Calls Tryz.prog 59 #[.pointer (some ⟨rb,0,none⟩),.string s] w1 fun e w'=>e=.returned (.int .i64 (uU m s.data.toList).2)∧RSt w S P r w' (n+2) (uU m s.data.toList).1∧SameP P w1 w':=by
 have hfu:=fun W:World=>vW s hs W
 unfold lV at hfu;have H0:=hZ h
 unfold uU;have hfl:=fun u h=>(pD (s:=s.data.toList) (u:=u) h).2.1
 clear h
 cases hf:nO s.data.toList with
 |none=>
  rw[hf]at hfu;have hfu2:∀W:World,Calls Tryz.prog 8 #[.string s] W fun e w'=>e=.returned (.tuple #[.string ⟨#[]⟩,.int .i64 31])∧Below W.heap.size W w':=hfu
  clear hfu hf hfl;go_enter Tryz.func59,Tryz.ntmps59;go_wp2_with (go_at_call 8;refine(hfu2 _).mono ?_;rintro e w2 ⟨rfl,hb2⟩;have HB2:=hZ hb2;clear hb2);go_ret;exact⟨rfl,(H0.out.bel HB2.out).st.more aC,H0.out.st.same HB2.out⟩
 |some u=>
  rw[hf]at hfu;have hul:=hfl u hf
  have hfu2:∀W:World,Calls Tryz.prog 8 #[.string s] W fun e w'=>e=.returned (.tuple #[.string ⟨u.toArray⟩,.int .i64 0])∧Below W.heap.size W w':=hfu
  have happ:=wI u;have hzz:=pY u
  simp only;unfold xQ;generalize nR u=N at happ hzz⊢;have hus:(((⟨u.toArray⟩:ByteArray).size:Nat):Int)≤96:=dR
  generalize (⟨u.toArray⟩:ByteArray)=U at hfu2 happ hus;clear hfu hf hfl hzz hul;go_enter Tryz.func59,Tryz.ntmps59;go_wp2_with (go_at_call 8;refine(hfu2 _).mono ?_;rintro e w2 ⟨rfl,hb2⟩;have H2:=hZ (H0.out.bel hb2);have S2:=hZ (H0.out.st.same hb2);clear hb2);have hdo:=oL H2.out ⟨5,⟨#[]⟩,N,0⟩ ⟨#[]⟩ (show 1≤5 by decide) (show 5≤6 by decide) rfl aC aA
  have hrc:mV ⟨5,⟨#[]⟩,N,0⟩ ⟨#[]⟩=.remove N:=rfl;rw[hrc]at hdo
  try unfold handR at hdo
  obtain⟨m3,y3,hop⟩:∃m' y,m.op (.remove N)=(m',y):=⟨_,_,rfl⟩
  refine hdo.mono fun e W3 hp=>?_
  obtain⟨rfl,q1,q2⟩:=RPost.eq (c:=.remove N) hp hop;have H3:=hZ (H2.out.step q1 q2)
  have O3:=hZ hop;have S3:Hid (SameP P w1 W3):=hZ (fun b hb=>(q2 b hb).trans (S2.out b hb))
  clear hdo hrc hp q1 q2 hop;by_cases h3:y3=0
  ·subst h3;go_wp2_with fail;have hdo:=oL H3.out ⟨6,⟨#[]⟩,⟨#[]⟩,0⟩ ⟨#[]⟩ (show 1≤6 by decide) (show 6≤6 by decide) rfl aC aA
   have hrc:mV ⟨6,⟨#[]⟩,⟨#[]⟩,0⟩ ⟨#[]⟩=.flush:=rfl;rw[hrc]at hdo
   try unfold handR at hdo
   obtain⟨m4,y4,hop⟩:∃m' y,m3.op (.flush)=(m',y):=⟨_,_,rfl⟩
   refine hdo.mono fun e W4 hp=>?_
   obtain⟨rfl,q1,q2⟩:=RPost.eq (c:=.flush) hp hop;have H4:=hZ (H3.out.step q1 q2)
   have O4:=hZ hop;have S4:Hid (SameP P w1 W4):=hZ (fun b hb=>(q2 b hb).trans (S3.out b hb))
   clear hdo hrc hp q1 q2 hop;go_wp2_with fail;go_ret;rw[lN _ O3.out,O4.out];exact⟨rfl,H4.out.st,S4.out⟩
  ·have b3:(y3 !=0)=true:=bne_iff_ne.2 h3;have Z3:=hZ h3
   clear h3;go_wp2_with fail;go_ret;rw[nU _ O3.out Z3.out];exact⟨rfl,H3.out.st.more aC,S3.out⟩
end Go.Proofs.YtdkedmngeahjiaaGreatDoor
