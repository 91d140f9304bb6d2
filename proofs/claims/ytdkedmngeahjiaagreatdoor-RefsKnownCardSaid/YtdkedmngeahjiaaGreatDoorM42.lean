import Derived.Test.YtdkedmngeahjiaaGreatDoorRfG
import Derived.Test.YtdkedmngeahjiaaGreatDoorM33
import Derived.Test.YtdkedmngeahjiaaGreatDoorM13
import Derived.Test.YtdkedmngeahjiaaGreatDoorM35
import Derived.Test.YtdkedmngeahjiaaGreatDoorM23
import Derived.Test.YtdkedmngeahjiaaGreatDoorM14
import Derived.Test.YtdkedmngeahjiaaGreatDoorM21
import Derived.Test.YtdkedmngeahjiaaGreatDoorM27
set_option maxRecDepth 100000
set_option maxHeartbeats 25600000
namespace Go.Proofs.YtdkedmngeahjiaaGreatDoor
theorem aI{p:Prop}(h:p:=by exact .inr ⟨rfl,.still (hW) rfl⟩):p:=h
theorem dW{p:Prop}(h:p:=by exact flS rfl aD (hW.early (.inl aA)) rfl):p:=h
theorem fC{p:Prop}(h:p:=by exact .inl ⟨rfl,_,rfl,HS8.out.size,K3 HS8.out dE⟩):p:=h
theorem fV{p:Prop}(h:p:=by have:=hlt;omega):p:=h
theorem iJ{p:Prop}(h:p:=by rw[h.calm.1];decide):p:=h
theorem iY{p:Prop}(h:p:=by rw[HWZ.out];omega):p:=h
theorem jH{p:Prop}(h:p:=by first|rfl|(rw[Int.natCast_add,Int.natCast_add];rfl)):p:=h
theorem jM{p:Prop}(h:p:=by rw[e1];exact h.norm.files e2.1 (fun i hi _=>e2.2 i hi)):p:=h
theorem kX{p:Prop}(h:p:=by rw[World.size_alloc];have:=HB7.out.size;omega):p:=h
theorem lE{p:Prop}(h:p:=by exact⟨pW a1,pW a2,pW a3⟩):p:=h
open Go Go.RowKit
def clP(p:List UInt8×ByteArray):Array Value:=#[lV p.1,.string p.2]
abbrev OwnP(base:Nat)(l:List (List UInt8×ByteArray))(v:Value)(w:World):Prop:=OwnG 83 2 clP base l v w
theorem OwnP.below{base:Nat}{l:List (List UInt8×ByteArray)}{v:Value}{w w':World}(h:OwnP base l v w)(hb:Below w.heap.size w w'):OwnP base l v w':=B6 h (fun b hv=>hb.block b (BG h hv).2.1)
theorem OwnP.row{base K:Nat}{l:List (List UInt8×ByteArray)}{v:Value}{w:World}(h:OwnP base l v w)(hl:l.length=K):w.ownsRow base 83 2 v K (sZ clP l):=hl▸h
theorem OwnP.base{base b:Nat}{l:List (List UInt8×ByteArray)}{v:Value}{w:World}(h:OwnP base l v w)(hb:b≤base):OwnP b l v w:=by
 refine⟨h.1,?_⟩;rcases h.2 with h2|⟨g,cap,cur,h1,h2,h3⟩
 ·exact .inl h2
 ·exact .inr ⟨g,cap,cur,h1,Nat.le_trans hb h2,h3⟩
theorem MF:(Tryz.prog.info? 83).map (fun i=>(i.zero,i.size,i.bytes))=some (some (.agg #[.string ⟨#[]⟩,.string ⟨#[]⟩]),2,32):=aE
theorem Nj(w:World)(x y:Value)(t:TypeId):∀(j:Nat) (u:Value),[x,y][j]?=some u→(w.alloc (.cells #[x,y] t)).cell? ((⟨w.heap.size,0,none⟩:Addr).add j)=some u:=fun j u h=>by
 rw[show((⟨w.heap.size,0,none⟩:Addr).add j)=⟨w.heap.size,j,none⟩ by simp[Addr.add];intro e;exact e.symm,lF (lP w _)];rw[←h,←List.getElem?_toArray]
theorem MG(x y:ByteArray):∀u∈[Value.string x,Value.string y],u.oneCell'=true:=fun u hu=>by
 rcases List.mem_cons.1 hu with rfl|hu
 ·rfl
 ·rw[List.mem_singleton.1 hu];rfl
theorem tV{m:DM}(hr:mF m.now)(hoff:m.off=false){hd s:ByteArray}(h:s∈m.lists hd):(m.reads s).2=0:=by
 unfold DM.lists at h;rw[if_neg (by rw[hoff];decide)]at h;obtain⟨p,hp,rfl⟩:=List.mem_map.1 h;have h1:lS m.now (mP p).data.toList=some p.2:=mO hr (List.mem_filter.1 hp).1
 unfold DM.reads DM.get;rw[if_neg (by rw[hoff];decide),h1]
def Du(w1:World)(r:List (List UInt8×ByteArray)×Int)(e:Ending)(w':World):Prop:=
 ∃v t,e=.returned (.tuple #[v,nT t r.2])∧OwnP w1.heap.size r.1 v w'∧Below w1.heap.size w1 w'
theorem AN{w w1:World}{S P:Nat→Prop}{rb a n:Nat}{m:DM}(h:Rf w S P rb a w1 n m)(hn:n≤1000000000)(hsh:∀s∈m.lists ⟨refHead.toArray⟩,s.size≤200):
  Calls Tryz.prog 39 #[.pointer (some ⟨rb,0,none⟩)] w1 (Du w1 (sB m)):=by
 obtain⟨i0,hi,hz0,hz1,hz2⟩:=info_parts MF;have HS1:=hZ h
 have hlN:(m.lists ⟨refHead.toArray⟩).length≤n:=by
  unfold DM.lists;split
  ·exact gH
  ·rw[List.length_map];exact Nat.le_trans (List.length_filter_le _ _) h.st.ok.nowN
 have hls:=Af h.st ⟨#[114,101,102,115,47]⟩ aC;have hlq:m.lists ⟨refHead.toArray⟩=m.lists ⟨#[114,101,102,115,47]⟩:=rfl
 rw[←hlq]at hls
 have hLM:sB m=if m.off then([],(27:Int))else match nL m (m.lists ⟨refHead.toArray⟩)with
  |some l=>(l,(0:Int))
  |none=>([],(30:Int)):=rfl
 have hrl:m.off=false→∀s∈m.lists ⟨refHead.toArray⟩,(m.reads s).2=0:=fun ho s hs=>tV h.st.ok.now ho hs
 have hbox:=h.cell
 obtain⟨L,hL⟩:∃L,m.lists ⟨refHead.toArray⟩=L:=⟨_,rfl⟩
 rw[hL]at hls hlN hsh hLM hrl
 obtain⟨R,hR⟩:∃R,sB m=R:=⟨_,rfl⟩
 rw[hR]at hLM⊢;have HLM:=hZ hLM
 have HSH:=hZ hsh;have HRL:=hZ hrl
 obtain⟨N,hN⟩:∃N,L.length=N:=⟨_,rfl⟩
 have HN:=hZ hN;rw[hN]at hlN;have HNN:Hid (N≤n∧n≤1000000000):=hZ ⟨hlN,hn⟩
 clear h hsh hlN hL hN hn hlq hLM hR hrl
 cases hoff:m.off with
 |true=>
  rw[hoff]at hls;have HOFF:=hZ hoff
  clear hoff;have hlsw:Calls Tryz.prog 17 #[.pointer (some ⟨a,0,none⟩),.string ⟨#[114,101,102,115,47]⟩] w1 fun e w'=>∃v,e=.returned (.tuple #[v,.iface 71 (.int .i64 27)])∧OwnTexts w1.heap.size w' v L∧Below w1.heap.size w1 w':=hls
  have htl:=fun W:World=>nQ CB 27 W
  rw[show nG 27=.iface 71 (.int .i64 27)from rfl]at htl;unfold CB at htl;clear hls;go_enter Tryz.func39,Tryz.ntmps39;go_wp2_with fail;refine hlsw.mono ?_;rintro e w2 ⟨v,rfl,-,hb2⟩;have HB2:=hZ hb2
  clear hb2 hlsw hbox;go_wp2_with (go_at_call 34;refine(htl _).mono ?_;rintro e w3 ⟨rfl,rfl⟩);go_ret2;have hO:R=([],27):=gI
  rw[hO];exact⟨_,CB,rfl,⟨rfl,.inl ⟨rfl,rfl⟩⟩,HB2.out⟩
 |false=>
  rw[hoff]at hls;have HOFF:=hZ hoff
  clear hoff;have hlsw:Calls Tryz.prog 17 #[.pointer (some ⟨a,0,none⟩),.string ⟨#[114,101,102,115,47]⟩] w1 fun e w'=>∃v,e=.returned (.tuple #[v,.nilIface])∧OwnTexts w1.heap.size w' v L∧Below w1.heap.size w1 w':=hls
  clear hls
  have HLM2:Hid (R=match nL m L with
   |some l=>(l,(0:Int))
   |none=>([],(30:Int))):=hZ gI
  have htl:=fun W:World=>nQ CB 30 W
  rw[show nG 30=.iface 71 (.int .i64 30)from rfl]at htl;unfold CB at htl;have HTL:=hZ htl
  have hI32:=lX (d:=zeroD) rfl;have hsz:=nE (d:=zeroD) rfl
  have h1z:=nW zeroD;clear htl HLM;go_enter Tryz.func39,Tryz.ntmps39;go_wp2_with fail;refine hlsw.mono ?_;rintro e w2 ⟨v,rfl,hv,hb2⟩;obtain⟨vp,vc,rfl⟩:=hv.rd.len;rw[HN.out]at hv⊢;have HV2:=hZ hv.rd
  have HB2:=hZ hb2;have HS2:=hZ (HS1.out.bel hb2)
  have hNi:(N:Int)≤1000000000:=eY;clear hb2 hlsw hv HS1 hbox;go_wp2_with fail;go_loopw [6,29] (fun v iv wr=>∃(k K:Nat) (l:List (List UInt8×ByteArray)),(k:Int)≤N∧(K:Int)≤k∧iv=.int .i64 k∧(∃vp vc,v=.slice vp K vc)∧Hid (l.length=K)∧Hid (nL m L=(nL m (L.drop k)).map (l++ ·))∧Hid (OwnP w2.heap.size l v wr)∧Hid (Below w2.heap.size w2 wr)) (fun _ iv _=>N-(intOf iv).toNat)
  case atStart=>exact⟨0,0,[],aC,aC,rfl,⟨_,_,rfl⟩,hZ rfl,hZ (by rw[List.drop_zero];cases nL m L<;>rfl),hZ ⟨rfl,.inl ⟨rfl,rfl⟩⟩,hZ (Below.refl _ _)⟩
  case round=>
   obtain⟨k,K,l,hk,hKk,rfl,⟨up,uc,rfl⟩,HK,HNM,HR,HB⟩:=hrel;by_cases hlt:(k:Int)<N
   ·have hkl:k<L.length:=by rw[HN.out];omega
    obtain⟨s,hs⟩:∃s,L[k]?=some s:=⟨_,List.getElem?_eq_getElem hkl⟩
    obtain⟨vp',vc',he,hv⟩:=HV2.out.below HB.out;obtain⟨vb,vo,hvp,hvl,hvc⟩:=hv k s hs;have hpe:vp=some ⟨vb,vo,none⟩:=dN
    subst hpe;have hss:=HSH.out s (List.mem_of_getElem? hs)
    have hy:=HRL.out HOFF.out s (List.mem_of_getElem? hs)
    have hdr:L.drop k=s::L.drop (k+1):=by
     rw[List.drop_eq_getElem_cons hkl];rw[List.getElem?_eq_getElem hkl]at hs;rw[Option.some.inj hs]
    have HDR:=hZ hdr;have hre:=fun W:World=>Cz s (show((s.size:Nat):Int)≤140737488355328 by omega) W
    unfold lV at hre;clear hs he hv hvp hvl hkl hdr;have HS4:=hZ (HS2.out.bel HB.out)
    have c4:=HS4.out.cell
    cases hrs:qP s with
    |false=>
     have hnx:nL m (L.drop k)=nL m (L.drop (k+1)):=by rw[HDR.out,nL,if_neg (by rw[hrs];decide)]
     have HNX:=hZ hnx;rw[hrs]at hre;clear hrs hnx hy;go_wp2_with (go_at_call 43;refine(hre _).mono ?_;rintro e w5 ⟨rfl,hb5⟩;have HB5:Hid (Below w2.heap.size w2 w5):=hZ (HB.out.trans (hb5.mono HB.out.size));have HR5:=hZ (HR.out.below hb5);clear hb5);exact gX
    |true=>
     have hrd:=fun W (hst:St w S P a W n m)=>wV hst s (show s.size≤maxLen by unfold maxLen;omega)
     obtain⟨T,hT⟩:∃T,(m.reads s).1=T:=⟨_,rfl⟩
     rw[hT,hy,show nG 0=.nilIface from rfl]at hrd;have HRD:=hZ hrd
     have hpa:=fun W:World=>yM T W
     have hnx:nL m (L.drop k)=match nI T,nL m (L.drop (k+1))with
      |some _,some l=>some ((nS s,T)::l)
      |_,_=>none:=fU
     rw[hrs]at hre;clear hrd hT hy hrs
     cases hp:nI T with
     |none=>
      rw[hp]at hpa hnx;have HNX:Hid (nL m (L.drop k)=none):=hZ hnx
      have hpa2:∀W:World,Calls Tryz.prog 42 #[.string T] W fun e w'=>e=.returned (.tuple #[.agg (zeroD.map lG).toArray,.iface 71 (.int .i64 4)])∧Below W.heap.size W w':=hpa
      clear hpa hp hnx;go_wp2_with (go_at_call 43;refine(hre _).mono ?_;rintro e w5 ⟨rfl,hb5⟩;have HB5:Hid (Below w2.heap.size w2 w5):=hZ (HB.out.trans (hb5.mono HB.out.size));have HS5:=hZ (HS4.out.bel hb5);have c5:=HS5.out.cell;clear hb5);refine(HRD.out _ HS5.out.st).mono ?_;rintro e w6 ⟨rfl,rfl⟩;go_wp2_with (first|(go_at_call 42;refine(hpa2 _).mono ?_;rintro e w7 ⟨rfl,hb7⟩;have HB7:Hid (Below w2.heap.size w2 w7):=hZ (HB5.out.trans (hb7.mono HB5.out.size));clear hb7)|(refine lO rfl _ _ _ rfl _ (zeroD.map lG).toArray _ rfl rfl rfl hI32 hsz h1z ?_;(obtain⟨W5,hW5⟩:∃W,w7.alloc (.cells (zeroD.map lG).toArray 33)=W:=⟨_,rfl⟩;have HB8:Hid (Below w2.heap.size w2 W5):=hZ (by rw[←hW5];exact HB7.out.alloc HB7.out.size _);rw[hW5];clear hW5))|(go_at_call 34;refine(HTL.out _).mono ?_;rintro e w9 ⟨rfl,rfl⟩));go_ret2;have hO:R=([],30):=by rw[HLM2.out,HNM.out,HNX.out];rfl
      rw[hO];exact⟨_,CB,rfl,⟨rfl,.inl ⟨rfl,rfl⟩⟩,HB2.out.trans (HB8.out.mono HB2.out.size)⟩
     |some D=>
      have hDl:=(sF hp).2;rw[hp]at hpa hnx;have HNX:Hid (nL m (L.drop k)=(nL m (L.drop (k+1))).map ((nS s,T):: ·)):=hZ kW
      have hpa2:∀W:World,Calls Tryz.prog 42 #[.string T] W fun e w'=>e=.returned (.tuple #[.agg (D.map lG).toArray,.nilIface])∧Below W.heap.size W w':=hpa
      have hI2:=lX hDl;have hd1:=nW D
      have hdz:=nE hDl;clear hpa hp hnx hDl;go_wp2_with (go_at_call 43;refine(hre _).mono ?_;rintro e w5 ⟨rfl,hb5⟩;have HB5:Hid (Below w2.heap.size w2 w5):=hZ (HB.out.trans (hb5.mono HB.out.size));have HS5:=hZ (HS4.out.bel hb5);have HR5:=hZ (HR.out.below hb5);have c5:=HS5.out.cell;clear hb5);refine(HRD.out _ HS5.out.st).mono ?_;rintro e w6 ⟨rfl,rfl⟩;go_wp2_with (first|(go_at_call 42;refine(hpa2 _).mono ?_;rintro e w7 ⟨rfl,hb7⟩;have HB7:Hid (Below w2.heap.size w2 w7):=hZ (HB5.out.trans (hb7.mono HB5.out.size));have HR7:=hZ (HR5.out.below hb7);clear hb7)|(refine lO rfl _ _ _ rfl _ (D.map lG).toArray _ rfl rfl rfl hI2 hdz hd1 ?_;(obtain⟨W5,hW5⟩:∃W,w7.alloc (.cells (D.map lG).toArray 33)=W:=⟨_,rfl⟩;have hb8:Below w7.heap.size w7 W5:=aM;have HB8:Hid (Below w2.heap.size w2 W5):=hZ (HB7.out.trans (hb8.mono HB7.out.size));have HR8:=hZ (HR7.out.below hb8);rw[hW5];clear hW5 hb8))|(at_builtin;go_must (refine rF rfl _ _ 79 rfl w2.heap.size 83 i0 (.agg #[.string ⟨#[]⟩,.string ⟨#[]⟩]) 2 32 Tryz.underlying79 hi hz0 hz1 hz2 rfl aA (.slice up K uc) K _ rfl ((HR8.out.below ((Below.refl W5.heap.size W5).alloc (Nat.le_refl _) (.cells #[.string ⟨(nS s).toArray⟩,.string T] 83))).row HK.out) ⟨W5.heap.size,0,none⟩ 1 1 [.string ⟨(nS s).toArray⟩,.string T] rfl rfl (Nj W5 _ _ _) (MG _ _) aA cT aC (Nat.le_trans HB8.out.size cO) ?_);intro v6 W6 ho6 hl6;have HO6:=hZ ho6;have HL6:=hZ hl6;(obtain⟨p6,c6,rfl⟩:=oV ho6);clear ho6 hl6));have hb9:Below w2.heap.size w2 W6:=(HB8.out.alloc (by have:=HB8.out.size;omega) _).trans (Dm ((HR8.out.below ((Below.refl W5.heap.size W5).alloc (Nat.le_refl _) (.cells #[.string ⟨(nS s).toArray⟩,.string T] 83))).row HK.out) HL6.out (Nat.le_trans HB8.out.size cO))
      refine⟨⟨k+1,K+1,l++[(nS s,T)],aC,aC,aG,⟨_,_,rfl⟩,hZ ?_,hZ ?_,hZ ?_,hZ hb9⟩,cN⟩
      ·rw[List.length_append,HK.out];rfl
      ·rw[HNM.out,HNX.out]
       cases nL m (L.drop (k+1))with
       |none=>rfl
       |some r=>exact congrArg some (List.append_assoc l [(nS s,T)] r).symm
      ·exact OwnG.app (by rw[HK.out];exact HO6.out)
   ·obtain rfl:k=N:=by omega
    have hall:nL m L=some l:=gK;have hO:R=(l,0):=by rw[HLM2.out,hall]
    have HO:=hZ hO;clear hall hO;go_wp2_with fail;go_ret2;rw[HO.out];exact⟨_,CB,rfl,HR.out.base HB2.out.size,HB2.out.trans (HB.out.mono HB2.out.size)⟩
theorem oZ{m:DM}(h:m.off=false):mX m=pE (oI (qG m) m) fun m'=>if qG m=[]then(m',0)else m'.op .flush:=if_neg (by rw[h];decide)
theorem RowC.own{base:Nat}{l:List Value}{v:Value}{w:World}(h:RowC base l v w)(b:Nat)(hb:v.ownBlock=some b):base≤b∧b<w.heap.size:=by
 rcases h with⟨rfl,-⟩|⟨g,cap,rfl,h2,h3,-⟩
 ·cases hb
 ·cases hb;exact⟨h2,h3⟩
theorem Jr{m:DM}(h:m.off=false)(n:ByteArray):(m.reads n).2=0∨(m.reads n).2=10:=by
 unfold DM.reads;rw[if_neg (by rw[h];decide)];split
 ·exact .inl rfl
 ·exact .inr rfl
def Dv(w:World)(S P:Nat→Prop)(a n N:Nat)(w1:World)(r:DM×Int)(e:Ending)(w':World):Prop:=
 ∃v,e=.returned v∧((r.2=0∧∃rb,v=.tuple #[.pointer (some ⟨rb,0,none⟩),.nilIface]∧w1.heap.size≤rb∧Rf w S (fun b=>P b∨b=rb) rb a w' (n+N+1) r.1)∨
  (r.2≠0∧∃u t,v=.tuple #[.pointer none,u]∧u=nT t r.2∧St w S P a w' (n+N+1) r.1))∧SameP P w1 w'
theorem K3{w w1:World}{S P:Nat→Prop}{a n n':Nat}{m:DM}(h:St w S P a w1 n m)(hn:n≤n'):Rf w S (fun b=>P b∨b=w1.heap.size) w1.heap.size a (w1.alloc (qI a)) n' m:=
 ⟨(h.bel ((Below.refl _ _).alloc (Nat.le_refl _) _) _ (fun b hb=>by
  rcases hb with hb|rfl
  ·exact .inl hb
  ·exact .inr ⟨Nat.le_refl _,cO⟩)).more hn,lP _ _,.inr rfl⟩
theorem Jt(w:World):Calls Tryz.prog 13 #[.pointer none] w fun e w'=>e=.returned (.tuple #[.pointer none,nT xM 1])∧w=w':=by
 have htl:=fun W:World=>nQ xM 1 W
 rw[show nG 1=.iface 71 (.int .i64 1)from rfl]at htl;unfold xM at htl;go_enter Tryz.func13,Tryz.ntmps13;go_wp2_with (go_at_call 34;refine(htl _).mono ?_;rintro e w3 ⟨rfl,rfl⟩);go_ret2;exact cF
theorem MT{w1:World}{S P:Nat→Prop}{a n:Nat}{m:DM}(h:St w1 S P a w1 n m)(hn:n≤1000000000)(hsh:∀s∈m.lists ⟨refHead.toArray⟩,s.size≤200):
  Calls Tryz.prog 13 #[.pointer (some ⟨a,0,none⟩)] w1 (Dv w1 S P a n (qG m).length w1 (mX m)):=by
 obtain⟨i0,hi,hz0,hz1,hz2⟩:=info_parts CP;have HS1:=hZ h
 have hlN:(m.lists ⟨refHead.toArray⟩).length≤n:=by
  unfold DM.lists;split
  ·exact gH
  ·rw[List.length_map];exact Nat.le_trans (List.length_filter_le _ _) h.ok.nowN
 have hrl:m.off=false→∀s∈m.lists ⟨refHead.toArray⟩,(m.reads s).2=0:=fun ho s hs=>tV h.ok.now ho hs
 have hls:=Af h ⟨#[114,101,102,115,47]⟩ aC;have hlq:m.lists ⟨refHead.toArray⟩=m.lists ⟨#[114,101,102,115,47]⟩:=rfl
 rw[←hlq]at hls
 obtain⟨L,hL⟩:∃L,m.lists ⟨refHead.toArray⟩=L:=⟨_,rfl⟩
 rw[hL]at hls hlN hsh hrl;have HL:=hZ hL
 have HSH:=hZ hsh;have HRL:=hZ hrl
 obtain⟨N,hN⟩:∃N,L.length=N:=⟨_,rfl⟩
 have HN:=hZ hN;rw[hN]at hlN;have HNN:Hid (N≤n∧n≤1000000000):=hZ ⟨hlN,hn⟩
 have HTL:=hZ (fun(y:Int) (W:World)=>nQ xM y W);unfold xM at HTL;clear h hsh hlN hL hN hn hlq hrl
 cases hoff:m.off with
 |true=>
  rw[hoff]at hls;have HOFF:=hZ hoff
  clear hoff;have hlsw:Calls Tryz.prog 17 #[.pointer (some ⟨a,0,none⟩),.string ⟨#[114,101,102,115,47]⟩] w1 fun e w'=>∃v,e=.returned (.tuple #[v,.iface 71 (.int .i64 27)])∧OwnTexts w1.heap.size w' v L∧Below w1.heap.size w1 w':=hls
  have htl:=HTL.out 27;rw[show nG 27=.iface 71 (.int .i64 27)from rfl]at htl;clear hls;go_enter Tryz.func13,Tryz.ntmps13;go_wp2_with fail;refine hlsw.mono ?_;rintro e w2 ⟨v,rfl,-,hb2⟩;have HS2:=hZ (HS1.out.bel hb2 P (fun b hb=>.inl hb))
  have HM2:Hid (SameP P w1 w2):=hZ (HS1.out.same hb2);clear hb2 hlsw;go_wp2_with (go_at_call 34;refine(htl _).mono ?_;rintro e w3 ⟨rfl,rfl⟩);go_ret2;have hO:mX m=(m,27):=if_pos HOFF.out
  refine⟨_,rfl,?_,HM2.out⟩;rw[hO];exact .inr ⟨(show(27:Int)≠0 by decide),_,xM,rfl,rfl,HS2.out.more aC⟩
 |false=>
  rw[hoff]at hls;have HOFF:=hZ hoff
  clear hoff;have hlsw:Calls Tryz.prog 17 #[.pointer (some ⟨a,0,none⟩),.string ⟨#[114,101,102,115,47]⟩] w1 fun e w'=>∃v,e=.returned (.tuple #[v,.nilIface])∧OwnTexts w1.heap.size w' v L∧Below w1.heap.size w1 w':=hls
  clear hls
  obtain⟨r,hr⟩:∃r,(m.reads handR).1=r:=⟨_,rfl⟩
  have hrd:=fun W (hs:St w1 S P a W n m)=>wV hs handR aA
  rcases Jr HOFF.out handR with hy0|hy0
  ·rw[hy0,hr,show nG 0=.nilIface from rfl]at hrd;have HY0:=hZ hy0
   unfold handR at hrd;clear hr hy0;go_enter Tryz.func13,Tryz.ntmps13;go_wp2_with fail;refine hlsw.mono ?_;rintro e w2 ⟨v,rfl,hv,hb2⟩;obtain⟨vp,vc,rfl⟩:=hv.rd.len;rw[HN.out]at hv⊢;have HV2:=hZ hv.rd
   have HS2:=hZ (HS1.out.bel hb2 P (fun b hb=>.inl hb));have HM2:Hid (SameP P w1 w2):=hZ (HS1.out.same hb2)
   clear hb2 hlsw hv HS1;go_wp2_with fail;refine(hrd _ HS2.out).mono ?_;rintro e w3 ⟨rfl,rfl⟩;clear hrd;have hbn:(0:Nat)+1≤140737488355328:=aA
   go_wp2_with (at_builtin;refine mD rfl _ _ 31 rfl w2.heap.size 9 i0 (.string ⟨#[]⟩) 16 Tryz.underlying31 hi hz0 hz1 hz2 rfl [] _ rfl (RowC.nil _ _) (.string handR) ⟨w2.heap.size,0,none⟩ rfl (xA w2 _ _) rfl aA aA gZ ?_;intro v1 w7 hr7 hb7;have HR7:=hZ hr7;have HB7:Hid (Below w2.heap.size w2 w7):=hZ (((Below.refl w2.heap.size w2).alloc lD _).trans hb7);clear hr7 hb7);have HR9:Hid (RowC w2.heap.size (([handR]:List ByteArray).map tJ) v1 w7):=HR7
   have HB9:=HB7;clear hbn HR7 HB7;have hNi:(N:Int)≤1000000000:=eY
   go_wp2_with fail;go_loopw [6,52] (fun v iv wr=>∃k:Nat,(k:Int)≤N∧iv=.int .i64 k∧Hid (RowC w2.heap.size (([handR]++(L.take k).filter fun s=>!mN m s).map tJ) v wr)∧Hid (Below w2.heap.size w2 wr)) (fun _ iv _=>N-(intOf iv).toNat)
   case atStart=>exact⟨0,aC,rfl,hZ bH,HB9⟩
   case round=>
    obtain⟨k,hk,rfl,HR,HB⟩:=hrel;by_cases hlt:(k:Int)<N
    ·have hkl:k<L.length:=by rw[HN.out];omega
     obtain⟨s,hs⟩:∃s,L[k]?=some s:=⟨_,List.getElem?_eq_getElem hkl⟩
     obtain⟨vp',vc',he,hv⟩:=HV2.out.below HB.out;obtain⟨vb,vo,hvp,hvl,hvc⟩:=hv k s hs;have hpe:vp=some ⟨vb,vo,none⟩:=dN
     subst hpe;have hss:=HSH.out s (List.mem_of_getElem? hs)
     have hy:=HRL.out HOFF.out s (List.mem_of_getElem? hs);have htk:L.take (k+1)=L.take k++[s]:=fX
     have HTK:=hZ htk;obtain⟨q,cap,rfl,-⟩:=HR.out.slice
     have hql:(([handR]++(L.take k).filter fun s=>!mN m s).map tJ).length≤1+k:=by
      rw[List.length_map,List.length_append];have h1:=List.length_filter_le (fun s=>!mN m s) (L.take k)
      rw[List.length_take]at h1;have:([handR]:List ByteArray).length=1:=rfl
      omega
     obtain⟨K,hK⟩:∃K,(([handR]++(L.take k).filter fun s=>!mN m s).map tJ).length=K:=⟨_,rfl⟩
     rw[hK]at hql HR⊢;have HQL:=hZ hql
     have HK:=hZ hK;have hre:=fun W:World=>Cz s (show((s.size:Nat):Int)≤140737488355328 by omega) W
     unfold lV at hre;have hrd:=fun W (hst:St w1 S P a W n m)=>wV hst s (show s.size≤maxLen by unfold maxLen;omega)
     obtain⟨T,hT⟩:∃T,(m.reads s).1=T:=⟨_,rfl⟩
     rw[hT,hy,show nG 0=.nilIface from rfl]at hrd;have HRD:=hZ hrd
     have hpa:=fun W:World=>yM T W
     have hrr:mN m s=(qP s&&(nI T).isSome):=by unfold mN;rw[hT]
     obtain⟨RS,hRS⟩:∃b,qP s=b:=⟨_,rfl⟩
     rw[hRS]at hre hrr
     obtain⟨T1,hT1⟩:∃T:ByteArray,(⟨(nS s).toArray⟩:ByteArray)=T:=⟨_,rfl⟩
     rw[hT1]at hre;clear hs he hv hvp hvl htk hkl hql hK hrd hT hy hT1 hRS;have HS4:=hZ (HS2.out.bel HB.out P (fun b hb=>.inl hb))
     have hpp:∃(D:List UInt8) (e:Value),GN (nI T)=.tuple #[.agg (D.map lG).toArray,e]∧D.length=32∧(((nI T).isSome=true∧e=.nilIface)∨((nI T).isSome=false∧e=.iface 71 (.int .i64 4))):=by
      cases hp:nI T with
      |none=>exact⟨zeroD,_,rfl,rfl,.inr ⟨rfl,rfl⟩⟩
      |some D=>exact⟨D,_,rfl,(sF hp).2,.inl ⟨rfl,rfl⟩⟩
     obtain⟨D,ev,hpv,-,hev⟩:=hpp;rw[hpv]at hpa;generalize (nI T).isSome=PS at hev hrr;have HRR:=hZ hrr
     clear hrr hpv;rcases hev with⟨rfl,rfl⟩|⟨rfl,rfl⟩<;>cases RS
     all_goals
      have hvv:True:=trivial;go_wp2_with fail;refine(HRD.out _ HS4.out).mono ?_;rintro e w5 ⟨rfl,rfl⟩;go_wp2_with (first|(go_at_call 42;refine(hpa _).mono ?_;rintro e w6 ⟨rfl,hb6⟩;have HB6:Hid (Below w2.heap.size w2 w6):=hZ (HB.out.trans (hb6.mono HB.out.size));have HR6:=hZ (HR.out.keep hb6);clear hb6)|(go_at_call 43;refine(hre _).mono ?_;rintro e w7 ⟨rfl,hb7⟩;have HB7:Hid (Below w2.heap.size w2 w7):=hZ (HB6.out.trans (hb7.mono HB6.out.size));have HR7:=hZ (HR6.out.keep hb7);clear hb7)|(at_builtin;refine mD rfl _ _ 31 rfl w2.heap.size 9 i0 (.string ⟨#[]⟩) 16 Tryz.underlying31 hi hz0 hz1 hz2 rfl _ _ rfl (HR7.out.keep ((Below.refl _ _).alloc (Nat.le_refl _) _)) (.string s) ⟨w7.heap.size,0,none⟩ rfl (xA w7 _ _) rfl eX cX kX ?_;intro v1 w8 hr8 hb8;have HR8:=hZ hr8;have HB8:Hid (Below w2.heap.size w2 w8):=hZ ((HB7.out.alloc (by have:=HB7.out.size;omega) _).trans hb8);clear hr8 hb8))
      first
       |(have hf:[s].filter (fun s=>!mN m s)=[s]:=by rw[List.filter_cons,HRR.out];rfl
         refine⟨⟨k+1,aC,aG,hZ ?_,HB8⟩,cN⟩;rw[HTK.out,List.filter_append,hf,←List.append_assoc,List.map_append];exact HR8.out)
       |(have hf:[s].filter (fun s=>!mN m s)=[]:=by rw[List.filter_cons,HRR.out];rfl
         refine⟨⟨k+1,aC,aG,hZ ?_,HB7⟩,cN⟩;rw[HTK.out,List.filter_append,hf,List.append_nil];exact HR7.out)
    ·have hbad:([handR]++(L.take k).filter fun s=>!mN m s)=qG m:=by
      rw[List.take_of_length_le gR];exact iR
     rw[hbad]at HR
     have hbl:(qG m).length≤1+N:=by
      rw[←hbad,List.length_append];have h1:=List.length_filter_le (fun s=>!mN m s) (L.take k)
      rw[List.length_take]at h1;have:([handR]:List ByteArray).length=1:=rfl
      have:=HN.out;omega
     have hsz:∀s∈qG m,s.size≤200:=by
      rw[←hbad];intro s hs;rcases List.mem_append.1 hs with hs|hs
      ·rw[List.mem_singleton.1 hs];decide
      ·exact bX
     obtain⟨BD,hBD⟩:∃l,qG m=l:=⟨_,rfl⟩
     rw[hBD]at HR hbl hsz;have HBD:=hZ hBD
     have HBL:=hZ hbl;have HSZ:=hZ hsz
     have HQ:Hid (St w1 S (fun b=>P b∨u6.ownBlock=some b) a wr n m):=hZ (HS2.out.bel HB.out _ (fun b hb=>hb.elim .inl (fun e=>.inr (HR.out.own b e))));have HMQ:Hid (SameP P w1 wr):=hZ (fun b hb=>(HS2.out.same HB.out b hb).trans (HM2.out b hb))
     obtain⟨q,cap,hu9,hcl⟩:=HR.out.slice;rw[List.length_map]at hu9
     obtain⟨M,hM⟩:∃M,BD.length=M:=⟨_,rfl⟩
     rw[hM]at hu9 HBL;have HMM:=hZ hM
     have HCL:Hid (∀j s,BD[j]?=some s→∃g,q=some ⟨g,0,none⟩∧wr.cell? ⟨g,j,none⟩=some (.string s)):=hZ (fun j s hj=>by
      obtain⟨g,h1,-,h3⟩:=hcl j (tJ s) bW;exact⟨g,h1,h3⟩)
     subst hu9;clear hbad hbl hsz hBD hcl hM HR
     obtain⟨W9,hW9⟩:∃W,W=wr:=⟨_,rfl⟩
     rw[←hW9]at HQ HMQ HCL⊢;clear hW9;have hMi:(M:Int)≤1000000001:=fO
     go_wp2_with fail;go_loopw [89] (fun iv wx=>∃(k:Nat) (mk:DM),(k:Int)≤M∧iv=.int .i64 k∧Hid (oI BD m=oI (BD.drop k) mk)∧Hid (St w1 S (fun b=>P b∨(Value.slice q M cap).ownBlock=some b) a wx (n+k) mk)∧Hid (SameP (fun b=>P b∨(Value.slice q M cap).ownBlock=some b) W9 wx)) (fun iv _=>M-(intOf iv).toNat)
     case atStart=>exact⟨0,m,aC,rfl,hZ rfl,HQ,hZ (fun _ _=>rfl)⟩
     case round=>
      obtain⟨k,mk,hk,rfl,HTM,HS,HX⟩:=hrel;by_cases hlt:(k:Int)<M
      ·have hkl:k<BD.length:=by rw[HMM.out];omega
       obtain⟨s,hs⟩:∃s,BD[k]?=some s:=⟨_,List.getElem?_eq_getElem hkl⟩
       obtain⟨g,hqg,hgc⟩:=HCL.out k s hs;have hss:=HSZ.out s (List.mem_of_getElem? hs)
       have hdr:BD.drop k=s::BD.drop (k+1):=by
        rw[List.drop_eq_getElem_cons hkl];rw[List.getElem?_eq_getElem hkl]at hs;rw[Option.some.inj hs]
       have htm:oI BD m=pE (mk.op (.remove s)) (oI (BD.drop (k+1))):=jD;have HTM2:=hZ htm
       subst hqg;have hc9:wr.cell? ⟨g,k,none⟩=some (.string s):=(lK (HX.out g (.inr rfl))).trans hgc
       have hMn:M≤1+N:=dG;have hnn:=HNN.out
       clear hs hgc hdr htm hkl;go_wp2_with fail;refine(sI HS.out s (Nat.le_trans hss aA) aC).mono ?_;intro e w8 hp;by_cases hy:(mk.op (.remove s)).2=0
       ·obtain⟨mj,h1⟩:∃mj,mk.op (.remove s)=(mj,0):=⟨_,cC⟩
        obtain⟨rfl,hs8,hk8⟩:=hp.eq h1 (show nG 0=.nilIface from rfl);have HS8:=hZ hs8
        have HX8:Hid (SameP (fun b=>P b∨(Value.slice (some ⟨g,0,none⟩) M cap).ownBlock=some b) W9 w8):=hZ (fun b hb=>(hk8 b hb).trans (HX.out b hb));have HOP:=hZ h1
        clear hp hy hs8 hk8 h1 hc9;go_wp2_with fail;refine⟨⟨k+1,mj,aC,aG,hZ ?_,HS8,HX8⟩,cN⟩;rw[HTM2.out,lN _ HOP.out]
       ·obtain⟨y,hyy⟩:∃y,(mk.op (.remove s)).2=y:=⟨_,rfl⟩
        rw[hyy]at hy
        obtain⟨mj,h1⟩:∃mj,mk.op (.remove s)=(mj,y):=⟨_,bU⟩
        obtain⟨rfl,hs8,hk8⟩:=hp.eq h1 (nK hy);have HS8:=hZ hs8
        have HX8:Hid (SameP P w1 w8):=hZ (fun b hb=>(hk8 b (.inl hb)).trans ((HX.out b (.inl hb)).trans (HMQ.out b hb)));have HOP:=hZ h1
        have HY:=hZ hy;have htl:=HTL.out y
        rw[nK hy]at htl;clear hp hy hs8 hk8 h1 hc9 hyy;go_wp2_with (go_at_call 34;refine(htl _).mono ?_;rintro e w9 ⟨rfl,rfl⟩);go_ret2
        have hO:mX m=(mj,y):=by
         rw[oZ HOFF.out,HBD.out];exact aZ
        refine⟨_,rfl,?_,HX8.out⟩;rw[hO,HBD.out];refine .inr ⟨HY.out,_,xM,rfl,rfl,(HS8.out.sub P (fun b hb=>.inl hb)).more ?_⟩;rw[HMM.out];omega
      ·obtain rfl:k=M:=by omega
       have htm:oI BD m=(mk,0):=bC;have HTM2:=hZ htm
       have hMn:k≤1+N:=dG;have hnn:=HNN.out
       have HX9:Hid (SameP P w1 wr):=hZ (fun b hb=>(HX.out b (.inl hb)).trans (HMQ.out b hb));clear htm;by_cases hk0:(0:Int)<k
       ·have hne:BD≠[]:=fun e=>by have h0:([]:List ByteArray).length=k:=e▸HMM.out;have h1:(0:Nat)=k:=h0;omega
        have HNE:=hZ hne;clear hne;go_wp2_with fail;refine(uN HS.out aC).mono ?_;intro e w8 hp;by_cases hy:(mk.op .flush).2=0
        ·obtain⟨mj,h1⟩:∃mj,mk.op .flush=(mj,0):=⟨_,cC⟩
         obtain⟨rfl,hs8,hk8⟩:=hp.eq h1 (show nG 0=.nilIface from rfl);have HS8:=hZ (hs8.sub P (fun b hb=>.inl hb))
         have HX8:Hid (SameP P w1 w8):=hZ (fun b hb=>(hk8 b (.inl hb)).trans (HX9.out b hb));have HOP:=hZ h1
         clear hp hy hs8 hk8 h1;go_wp2_with fail;go_ret2
         have hO:mX m=(mj,0):=by
          rw[oZ HOFF.out,HBD.out,lN _ HTM2.out,if_neg HNE.out];exact HOP.out
         refine⟨_,rfl,?_,fun b hb=>(HS8.out.same ((Below.refl _ _).alloc (Nat.le_refl _) _) b hb).trans (HX8.out b hb)⟩;rw[hO,HBD.out];exact fC
        ·obtain⟨y,hyy⟩:∃y,(mk.op .flush).2=y:=⟨_,rfl⟩
         rw[hyy]at hy
         obtain⟨mj,h1⟩:∃mj,mk.op .flush=(mj,y):=⟨_,bU⟩
         obtain⟨rfl,hs8,hk8⟩:=hp.eq h1 (nK hy);have HS8:=hZ hs8
         have HX8:Hid (SameP P w1 w8):=hZ (fun b hb=>(hk8 b (.inl hb)).trans (HX9.out b hb));have HOP:=hZ h1
         have HY:=hZ hy;have htl:=HTL.out y
         rw[nK hy]at htl;clear hp hy hs8 hk8 h1 hyy;go_wp2_with (go_at_call 34;refine(htl _).mono ?_;rintro e w9 ⟨rfl,rfl⟩);go_ret2
         have hO:mX m=(mj,y):=by
          rw[oZ HOFF.out,HBD.out,lN _ HTM2.out,if_neg HNE.out];exact HOP.out
         refine⟨_,rfl,?_,HX8.out⟩;rw[hO,HBD.out];refine .inr ⟨HY.out,_,xM,rfl,rfl,(HS8.out.sub P (fun b hb=>.inl hb)).more ?_⟩;rw[HMM.out];omega
       ·have he:BD=[]:=List.eq_nil_of_length_eq_zero dE;have HE:=hZ he
        have HS8:=hZ (HS.out.sub P (fun b hb=>.inl hb));clear he;go_wp2_with fail;go_ret2
        have hO:mX m=(mk,0):=by
         rw[oZ HOFF.out,HBD.out,lN _ HTM2.out,if_pos HE.out]
        refine⟨_,rfl,?_,fun b hb=>(HS8.out.same ((Below.refl _ _).alloc (Nat.le_refl _) _) b hb).trans (HX9.out b hb)⟩;rw[hO,HBD.out];exact fC
  ·rw[hy0,hr,show nG 10=.iface 71 (.int .i64 10)from rfl]at hrd;have HY0:=hZ hy0
   have hie:=fun W:World=>Ma 10 10 aA W
   rw[show nG 10=.iface 71 (.int .i64 10)from rfl,show nJ 10=.iface 71 (.int .i64 10)from rfl,show((10:Int)==10)=true from rfl]at hie;unfold handR at hrd;clear hr hy0;go_enter Tryz.func13,Tryz.ntmps13;go_wp2_with fail;refine hlsw.mono ?_;rintro e w2 ⟨v,rfl,hv,hb2⟩;obtain⟨vp,vc,rfl⟩:=hv.rd.len;rw[HN.out]at hv⊢;have HV2:=hZ hv.rd
   have HS2:=hZ (HS1.out.bel hb2 P (fun b hb=>.inl hb));have HM2:Hid (SameP P w1 w2):=hZ (HS1.out.same hb2)
   clear hb2 hlsw hv HS1;go_wp2_with fail;refine(hrd _ HS2.out).mono ?_;rintro e w3 ⟨rfl,rfl⟩;clear hrd;go_wp2_with (go_at_call 41;refine(hie _).mono ?_;rintro e w4 ⟨rfl,rfl⟩);have HR9:Hid (RowC w2.heap.size (([]:List ByteArray).map tJ) (.slice none 0 0) w2):=hZ (RowC.nil _ _)
   have HB9:Hid (Below w2.heap.size w2 w2):=hZ (Below.refl _ _);have hNi:(N:Int)≤1000000000:=eY
   go_wp2_with fail;go_loopw [6,52] (fun v iv wr=>∃k:Nat,(k:Int)≤N∧iv=.int .i64 k∧Hid (RowC w2.heap.size (([]++(L.take k).filter fun s=>!mN m s).map tJ) v wr)∧Hid (Below w2.heap.size w2 wr)) (fun _ iv _=>N-(intOf iv).toNat)
   case atStart=>exact⟨0,aC,rfl,hZ bH,HB9⟩
   case round=>
    obtain⟨k,hk,rfl,HR,HB⟩:=hrel;by_cases hlt:(k:Int)<N
    ·have hkl:k<L.length:=by rw[HN.out];omega
     obtain⟨s,hs⟩:∃s,L[k]?=some s:=⟨_,List.getElem?_eq_getElem hkl⟩
     obtain⟨vp',vc',he,hv⟩:=HV2.out.below HB.out;obtain⟨vb,vo,hvp,hvl,hvc⟩:=hv k s hs;have hpe:vp=some ⟨vb,vo,none⟩:=dN
     subst hpe;have hss:=HSH.out s (List.mem_of_getElem? hs)
     have hy:=HRL.out HOFF.out s (List.mem_of_getElem? hs);have htk:L.take (k+1)=L.take k++[s]:=fX
     have HTK:=hZ htk;obtain⟨q,cap,rfl,-⟩:=HR.out.slice
     have hql:(([]++(L.take k).filter fun s=>!mN m s).map tJ).length≤0+k:=by
      rw[List.length_map,List.length_append];have h1:=List.length_filter_le (fun s=>!mN m s) (L.take k)
      rw[List.length_take]at h1;have:([]:List ByteArray).length=0:=rfl
      omega
     obtain⟨K,hK⟩:∃K,(([]++(L.take k).filter fun s=>!mN m s).map tJ).length=K:=⟨_,rfl⟩
     rw[hK]at hql HR⊢;have HQL:=hZ hql
     have HK:=hZ hK;have hre:=fun W:World=>Cz s (show((s.size:Nat):Int)≤140737488355328 by omega) W
     unfold lV at hre;have hrd:=fun W (hst:St w1 S P a W n m)=>wV hst s (show s.size≤maxLen by unfold maxLen;omega)
     obtain⟨T,hT⟩:∃T,(m.reads s).1=T:=⟨_,rfl⟩
     rw[hT,hy,show nG 0=.nilIface from rfl]at hrd;have HRD:=hZ hrd
     have hpa:=fun W:World=>yM T W
     have hrr:mN m s=(qP s&&(nI T).isSome):=by unfold mN;rw[hT]
     obtain⟨RS,hRS⟩:∃b,qP s=b:=⟨_,rfl⟩
     rw[hRS]at hre hrr
     obtain⟨T1,hT1⟩:∃T:ByteArray,(⟨(nS s).toArray⟩:ByteArray)=T:=⟨_,rfl⟩
     rw[hT1]at hre;clear hs he hv hvp hvl htk hkl hql hK hrd hT hy hT1 hRS;have HS4:=hZ (HS2.out.bel HB.out P (fun b hb=>.inl hb))
     have hpp:∃(D:List UInt8) (e:Value),GN (nI T)=.tuple #[.agg (D.map lG).toArray,e]∧D.length=32∧(((nI T).isSome=true∧e=.nilIface)∨((nI T).isSome=false∧e=.iface 71 (.int .i64 4))):=by
      cases hp:nI T with
      |none=>exact⟨zeroD,_,rfl,rfl,.inr ⟨rfl,rfl⟩⟩
      |some D=>exact⟨D,_,rfl,(sF hp).2,.inl ⟨rfl,rfl⟩⟩
     obtain⟨D,ev,hpv,-,hev⟩:=hpp;rw[hpv]at hpa;generalize (nI T).isSome=PS at hev hrr;have HRR:=hZ hrr
     clear hrr hpv;rcases hev with⟨rfl,rfl⟩|⟨rfl,rfl⟩<;>cases RS
     all_goals
      have hvv:True:=trivial;go_wp2_with fail;refine(HRD.out _ HS4.out).mono ?_;rintro e w5 ⟨rfl,rfl⟩;go_wp2_with (first|(go_at_call 42;refine(hpa _).mono ?_;rintro e w6 ⟨rfl,hb6⟩;have HB6:Hid (Below w2.heap.size w2 w6):=hZ (HB.out.trans (hb6.mono HB.out.size));have HR6:=hZ (HR.out.keep hb6);clear hb6)|(go_at_call 43;refine(hre _).mono ?_;rintro e w7 ⟨rfl,hb7⟩;have HB7:Hid (Below w2.heap.size w2 w7):=hZ (HB6.out.trans (hb7.mono HB6.out.size));have HR7:=hZ (HR6.out.keep hb7);clear hb7)|(at_builtin;refine mD rfl _ _ 31 rfl w2.heap.size 9 i0 (.string ⟨#[]⟩) 16 Tryz.underlying31 hi hz0 hz1 hz2 rfl _ _ rfl (HR7.out.keep ((Below.refl _ _).alloc (Nat.le_refl _) _)) (.string s) ⟨w7.heap.size,0,none⟩ rfl (xA w7 _ _) rfl eX cX kX ?_;intro v1 w8 hr8 hb8;have HR8:=hZ hr8;have HB8:Hid (Below w2.heap.size w2 w8):=hZ ((HB7.out.alloc (by have:=HB7.out.size;omega) _).trans hb8);clear hr8 hb8))
      first
       |(have hf:[s].filter (fun s=>!mN m s)=[s]:=by rw[List.filter_cons,HRR.out];rfl
         refine⟨⟨k+1,aC,aG,hZ ?_,HB8⟩,cN⟩;rw[HTK.out,List.filter_append,hf,←List.append_assoc,List.map_append];exact HR8.out)
       |(have hf:[s].filter (fun s=>!mN m s)=[]:=by rw[List.filter_cons,HRR.out];rfl
         refine⟨⟨k+1,aC,aG,hZ ?_,HB7⟩,cN⟩;rw[HTK.out,List.filter_append,hf,List.append_nil];exact HR7.out)
    ·have hbad:([]++(L.take k).filter fun s=>!mN m s)=qG m:=by
      rw[List.take_of_length_le gR];exact(show []++L.filter _=qG m by unfold qG;rw[if_neg (by rw[HY0.out];decide),HL.out])
     rw[hbad]at HR
     have hbl:(qG m).length≤0+N:=by
      rw[←hbad,List.length_append];have h1:=List.length_filter_le (fun s=>!mN m s) (L.take k)
      rw[List.length_take]at h1;have:([]:List ByteArray).length=0:=rfl
      have:=HN.out;omega
     have hsz:∀s∈qG m,s.size≤200:=by
      rw[←hbad];intro s hs;rcases List.mem_append.1 hs with hs|hs
      ·cases hs
      ·exact bX
     obtain⟨BD,hBD⟩:∃l,qG m=l:=⟨_,rfl⟩
     rw[hBD]at HR hbl hsz;have HBD:=hZ hBD
     have HBL:=hZ hbl;have HSZ:=hZ hsz
     have HQ:Hid (St w1 S (fun b=>P b∨u6.ownBlock=some b) a wr n m):=hZ (HS2.out.bel HB.out _ (fun b hb=>hb.elim .inl (fun e=>.inr (HR.out.own b e))));have HMQ:Hid (SameP P w1 wr):=hZ (fun b hb=>(HS2.out.same HB.out b hb).trans (HM2.out b hb))
     obtain⟨q,cap,hu9,hcl⟩:=HR.out.slice;rw[List.length_map]at hu9
     obtain⟨M,hM⟩:∃M,BD.length=M:=⟨_,rfl⟩
     rw[hM]at hu9 HBL;have HMM:=hZ hM
     have HCL:Hid (∀j s,BD[j]?=some s→∃g,q=some ⟨g,0,none⟩∧wr.cell? ⟨g,j,none⟩=some (.string s)):=hZ (fun j s hj=>by
      obtain⟨g,h1,-,h3⟩:=hcl j (tJ s) bW;exact⟨g,h1,h3⟩)
     subst hu9;clear hbad hbl hsz hBD hcl hM HR
     obtain⟨W9,hW9⟩:∃W,W=wr:=⟨_,rfl⟩
     rw[←hW9]at HQ HMQ HCL⊢;clear hW9;have hMi:(M:Int)≤1000000001:=fO
     go_wp2_with fail;go_loopw [89] (fun iv wx=>∃(k:Nat) (mk:DM),(k:Int)≤M∧iv=.int .i64 k∧Hid (oI BD m=oI (BD.drop k) mk)∧Hid (St w1 S (fun b=>P b∨(Value.slice q M cap).ownBlock=some b) a wx (n+k) mk)∧Hid (SameP (fun b=>P b∨(Value.slice q M cap).ownBlock=some b) W9 wx)) (fun iv _=>M-(intOf iv).toNat)
     case atStart=>exact⟨0,m,aC,rfl,hZ rfl,HQ,hZ (fun _ _=>rfl)⟩
     case round=>
      obtain⟨k,mk,hk,rfl,HTM,HS,HX⟩:=hrel;by_cases hlt:(k:Int)<M
      ·have hkl:k<BD.length:=by rw[HMM.out];omega
       obtain⟨s,hs⟩:∃s,BD[k]?=some s:=⟨_,List.getElem?_eq_getElem hkl⟩
       obtain⟨g,hqg,hgc⟩:=HCL.out k s hs;have hss:=HSZ.out s (List.mem_of_getElem? hs)
       have hdr:BD.drop k=s::BD.drop (k+1):=by
        rw[List.drop_eq_getElem_cons hkl];rw[List.getElem?_eq_getElem hkl]at hs;rw[Option.some.inj hs]
       have htm:oI BD m=pE (mk.op (.remove s)) (oI (BD.drop (k+1))):=jD;have HTM2:=hZ htm
       subst hqg;have hc9:wr.cell? ⟨g,k,none⟩=some (.string s):=(lK (HX.out g (.inr rfl))).trans hgc
       have hMn:M≤1+N:=dG;have hnn:=HNN.out
       clear hs hgc hdr htm hkl;go_wp2_with fail;refine(sI HS.out s (Nat.le_trans hss aA) aC).mono ?_;intro e w8 hp;by_cases hy:(mk.op (.remove s)).2=0
       ·obtain⟨mj,h1⟩:∃mj,mk.op (.remove s)=(mj,0):=⟨_,cC⟩
        obtain⟨rfl,hs8,hk8⟩:=hp.eq h1 (show nG 0=.nilIface from rfl);have HS8:=hZ hs8
        have HX8:Hid (SameP (fun b=>P b∨(Value.slice (some ⟨g,0,none⟩) M cap).ownBlock=some b) W9 w8):=hZ (fun b hb=>(hk8 b hb).trans (HX.out b hb));have HOP:=hZ h1
        clear hp hy hs8 hk8 h1 hc9;go_wp2_with fail;refine⟨⟨k+1,mj,aC,aG,hZ ?_,HS8,HX8⟩,cN⟩;rw[HTM2.out,lN _ HOP.out]
       ·obtain⟨y,hyy⟩:∃y,(mk.op (.remove s)).2=y:=⟨_,rfl⟩
        rw[hyy]at hy
        obtain⟨mj,h1⟩:∃mj,mk.op (.remove s)=(mj,y):=⟨_,bU⟩
        obtain⟨rfl,hs8,hk8⟩:=hp.eq h1 (nK hy);have HS8:=hZ hs8
        have HX8:Hid (SameP P w1 w8):=hZ (fun b hb=>(hk8 b (.inl hb)).trans ((HX.out b (.inl hb)).trans (HMQ.out b hb)));have HOP:=hZ h1
        have HY:=hZ hy;have htl:=HTL.out y
        rw[nK hy]at htl;clear hp hy hs8 hk8 h1 hc9 hyy;go_wp2_with (go_at_call 34;refine(htl _).mono ?_;rintro e w9 ⟨rfl,rfl⟩);go_ret2
        have hO:mX m=(mj,y):=by
         rw[oZ HOFF.out,HBD.out];exact aZ
        refine⟨_,rfl,?_,HX8.out⟩;rw[hO,HBD.out];refine .inr ⟨HY.out,_,xM,rfl,rfl,(HS8.out.sub P (fun b hb=>.inl hb)).more ?_⟩;rw[HMM.out];omega
      ·obtain rfl:k=M:=by omega
       have htm:oI BD m=(mk,0):=bC;have HTM2:=hZ htm
       have hMn:k≤1+N:=dG;have hnn:=HNN.out
       have HX9:Hid (SameP P w1 wr):=hZ (fun b hb=>(HX.out b (.inl hb)).trans (HMQ.out b hb));clear htm;by_cases hk0:(0:Int)<k
       ·have hne:BD≠[]:=fun e=>by have h0:([]:List ByteArray).length=k:=e▸HMM.out;have h1:(0:Nat)=k:=h0;omega
        have HNE:=hZ hne;clear hne;go_wp2_with fail;refine(uN HS.out aC).mono ?_;intro e w8 hp;by_cases hy:(mk.op .flush).2=0
        ·obtain⟨mj,h1⟩:∃mj,mk.op .flush=(mj,0):=⟨_,cC⟩
         obtain⟨rfl,hs8,hk8⟩:=hp.eq h1 (show nG 0=.nilIface from rfl);have HS8:=hZ (hs8.sub P (fun b hb=>.inl hb))
         have HX8:Hid (SameP P w1 w8):=hZ (fun b hb=>(hk8 b (.inl hb)).trans (HX9.out b hb));have HOP:=hZ h1
         clear hp hy hs8 hk8 h1;go_wp2_with fail;go_ret2
         have hO:mX m=(mj,0):=by
          rw[oZ HOFF.out,HBD.out,lN _ HTM2.out,if_neg HNE.out];exact HOP.out
         refine⟨_,rfl,?_,fun b hb=>(HS8.out.same ((Below.refl _ _).alloc (Nat.le_refl _) _) b hb).trans (HX8.out b hb)⟩;rw[hO,HBD.out];exact fC
        ·obtain⟨y,hyy⟩:∃y,(mk.op .flush).2=y:=⟨_,rfl⟩
         rw[hyy]at hy
         obtain⟨mj,h1⟩:∃mj,mk.op .flush=(mj,y):=⟨_,bU⟩
         obtain⟨rfl,hs8,hk8⟩:=hp.eq h1 (nK hy);have HS8:=hZ hs8
         have HX8:Hid (SameP P w1 w8):=hZ (fun b hb=>(hk8 b (.inl hb)).trans (HX9.out b hb));have HOP:=hZ h1
         have HY:=hZ hy;have htl:=HTL.out y
         rw[nK hy]at htl;clear hp hy hs8 hk8 h1 hyy;go_wp2_with (go_at_call 34;refine(htl _).mono ?_;rintro e w9 ⟨rfl,rfl⟩);go_ret2
         have hO:mX m=(mj,y):=by
          rw[oZ HOFF.out,HBD.out,lN _ HTM2.out,if_neg HNE.out];exact HOP.out
         refine⟨_,rfl,?_,HX8.out⟩;rw[hO,HBD.out];refine .inr ⟨HY.out,_,xM,rfl,rfl,(HS8.out.sub P (fun b hb=>.inl hb)).more ?_⟩;rw[HMM.out];omega
       ·have he:BD=[]:=List.eq_nil_of_length_eq_zero dE;have HE:=hZ he
        have HS8:=hZ (HS.out.sub P (fun b hb=>.inl hb));clear he;go_wp2_with fail;go_ret2
        have hO:mX m=(mk,0):=by
         rw[oZ HOFF.out,HBD.out,lN _ HTM2.out,if_pos HE.out]
        refine⟨_,rfl,?_,fun b hb=>(HS8.out.same ((Below.refl _ _).alloc (Nat.le_refl _) _) b hb).trans (HX9.out b hb)⟩;rw[hO,HBD.out];exact fC
theorem St.under{w w1 w':World}{S S1 Q:Nat→Prop}{a n':Nat}{m':DM}(h2:∀b,S1 b→(S b∨w.heap.size≤b))(h4:Off S w w1)(h5:∀b,S b→b<w.heap.size)(h:St w1 S1 Q a w' n' m'):St w S Q a w' n' m':=by
 obtain⟨⟨S2,hd,g2⟩,g3,g4,g5⟩:=h;have hz:=h4.size
 refine⟨⟨S2,hd,fun b hb=>⟨?_,(g2 b hb).2⟩⟩,g3,h4.trans g4 (fun i hi hs=>?_),h5⟩
 ·rcases (g2 b hb).1 with h|h
  ·exact h2 b h
  ·exact .inr aC
 ·rcases h2 i hs with h|h
  ·exact h
  ·omega
theorem wF{w w1:World}{S P:Nat→Prop}{a n:Nat}{m:DM}(h:St w S P a w1 n m)(hn:n≤1000000000)(hsh:∀s∈m.lists ⟨refHead.toArray⟩,s.size≤200):
  Calls Tryz.prog 13 #[.pointer (some ⟨a,0,none⟩)] w1 (Dv w S P a n (qG m).length w1 (mX m)):=by
 obtain⟨⟨S1,hd,h2⟩,h3,h4,h5⟩:=h;have hs:St w1 S1 P a w1 n m:=St.start hd (fun b hb=>⟨h3 b hb,fun hs=>(h2 b hs).2 hb⟩)
 refine(MT hs hn hsh).mono ?_;rintro e w' ⟨v,rfl,hr,hk⟩;refine⟨v,rfl,?_,hk⟩;rcases hr with⟨h0,rb,h6,h7,h8⟩|⟨h0,u,t,h6,h7,h8⟩
 ·exact .inl ⟨h0,rb,h6,h7,⟨h8.st.under (fun b hb=>(h2 b hb).1) h4 h5,h8.box,h8.pb⟩⟩
 ·exact .inr ⟨h0,u,t,h6,h7,h8.under (fun b hb=>(h2 b hb).1) h4 h5⟩
theorem St.toB{w w1:World}{P:Nat→Prop}{a n:Nat}{m:DM}(h:St w (fun _=>False) P a w1 n m):Below w.heap.size w w1:=h.off.toBelow (fun _ hf=>hf.elim) (Nat.le_refl _)
theorem Hn(w w1:World)(hb:Below w.heap.size w w1)(r:Int)(h1:-9223372036854775808≤r)(h2:r≤9223372036854775807):
  Calls Tryz.prog 12 #[.int .i64 r] w1 fun e w'=>∃a,e=.returned (.pointer (some ⟨a,0,none⟩))∧St w (fun _=>False) (fun b=>b<w1.heap.size) a w' 0 (DM.new r)∧Below w1.heap.size w1 w':=by
 refine(Is w1 r h1 h2).mono ?_;rintro e w' ⟨a,rfl,hd,hb2⟩;have hz:=hb.size
 exact⟨a,rfl,⟨⟨_,hd,fun b hb3=>⟨.inr (Nat.le_trans hz hb3.1),fun h=>by have:=hb3.1;omega⟩⟩,fun b hb3=>Nat.lt_of_lt_of_le hb3 hb2.size,(Off.refl _ w).below (hb.trans (hb2.mono hz)) (Nat.le_refl _),fun _ hf=>hf.elim⟩,hb2⟩
def x12:List UInt8:=1::2::List.replicate 30 0
def aL:List UInt8:=[97,58,108,97,116,101,115,116]
def wM0:DM:=DM.new 1000
def wM1:DM:=(tX wM0 [97] x12).1
def wM2:DM:=(uU wM1 [97]).1
theorem wf1:(tX wM0 [97] x12).2=0:=dX
theorem wf2:wY wM1 aL=(x12,0):=dX
theorem wf3:sB wM1=([(aL,nA x12)],0):=dX
theorem wf4:(uU wM1 [97]).2=0:=dX
theorem wf5:wY wM2 [97]=(zeroD,10):=dX
theorem wf6:∀s∈wM1.lists ⟨refHead.toArray⟩,s.size≤200:=dX
theorem wf7:mX wM0=(wM0,0):=by rfl
theorem RfPost.eq{w w1 w':World}{S P:Nat→Prop}{a n:Nat}{r:DM×Int}{m:DM}{e:Ending}(hp:RfPost w S P a n w1 r e w')(h1:r.1=m)(h2:r.2=0):e=.returned .nilIface∧St w S P a w' n m∧SameP P w1 w':=by
 obtain⟨⟨t,ht⟩,h3,h4⟩:=hp;rw[h2]at ht;rw[h1]at h3;exact⟨ht,h3,h4⟩
theorem tD(w:World)(hG:ErrT w):
  Calls Tryz.prog 11 #[] w fun e w'=>e=.returned (.bool true)∧Below w.heap.size w w':=by
 have HG:=hZ hG;clear hG;have hI:=oM (d:=x12) rfl
 have hI2:=lX (d:=x12) rfl;have h1:=nW x12
 have hz:=nE (d:=x12) rfl;have hU:=nD
 have hIz:=oM (d:=zeroD) rfl;have hIz2:=lX (d:=zeroD) rfl
 have h1z:=nW zeroD;have hzz:=nE (d:=zeroD) rfl
 go_enter Tryz.func11,Tryz.ntmps11;go_wp2_with fail;refine(Hn w w (Below.refl _ _) 1000 aA aA).mono ?_;rintro e w1 ⟨a,rfl,hst,hb1⟩;have HST:=hZ hst
 clear hst hb1;go_wp2_with fail;refine(wF HST.out aA (fun s hs=>by cases hs)).mono ?_;rintro e w2 ⟨v,rfl,h,hk⟩;rw[show mX (DM.new 1000)=(wM0,0)from wf7]at h;rcases h with⟨-,rb,rfl,hsb,hrf⟩|⟨hne,-⟩
 case inr=>exact absurd rfl hne
 have HR2:=hZ hrf;have HB2:=hZ hrf.st.toB
 clear hk HST hsb hrf;go_wp2_with fail;refine(Jt _).mono ?_;rintro e w3 ⟨rfl,rfl⟩;have hpl:=oQ xM 1 (.inr ⟨aA,aA⟩) 1 w2 (HG.out.below HB2.out HG.out.2)
 rw[Lu xM (show(1:Int)≠0 by decide)]at hpl⊢;rw[show((1:Int)==1)=true from rfl]at hpl;go_wp2_with (first|(go_at_call 10;refine hpl.mono ?_;rintro e w4 ⟨rfl,hb4⟩;have HR4:=hZ (HR2.out.bel hb4);clear hb4 hpl HR2 HB2)|(refine lO rfl _ _ _ rfl _ (x12.map lG).toArray _ rfl rfl rfl hI2 hz h1 ?_;(obtain⟨W5,hW5⟩:∃W,w4.alloc (.cells (x12.map lG).toArray 33)=W:=⟨_,rfl⟩;have hb5:Below w4.heap.size w4 W5:=aM;have hx5:W5.heap[w4.heap.size]?=some (.cells (x12.map lG).toArray 33 (0,0)):=cJ;have HX5:=hZ hx5;have HR5:=hZ (HR4.out.more hb5 (fun b=>(b<w.heap.size∨b=rb)∨b=w4.heap.size) (fun b hb=>.inl hb) (fun b hb=>hb.elim .inl (fun e=>.inr ⟨aC,by have:=lH hx5;omega⟩)));have HRG5:=hZ (oF hx5);rw[hW5];clear hW5 hb5 hx5 HR4))|refine wpList_load_mid rfl _ _ rfl w4.heap.size 0 rfl (x12.map lG) _ HRG5.out hU rfl hI ?_);refine(Ag HR5.out aA ⟨#[97]⟩ aA x12 rfl).mono ?_;intro e w6 hp;obtain⟨rfl,hs6,hk6⟩:=hp.eq (m:=wM1) rfl wf1;have HR6:=hZ (HR5.out.step hs6 hk6)
 have HX6:Hid (w6.heap[w4.heap.size]?=some (.cells (x12.map lG).toArray 33 (0,0))):=hZ ((hk6 _ (.inr rfl)).trans HX5.out);clear hp hs6 hk6 HRG5 HR5 HX5;go_wp2_with fail;refine(Ai HR6.out ⟨aL.toArray⟩ aA).mono ?_;rintro e w7 ⟨⟨t,rfl⟩,hb7⟩;rw[show wY wM1 (⟨aL.toArray⟩:ByteArray).data.toList=(x12,0)from wf2];rw[show nT t (x12,(0:Int)).2=.nilIface from rfl];have HR7:=hZ (HR6.out.bel hb7)
 have HX7:Hid (w7.heap[w4.heap.size]?=some (.cells (x12.map lG).toArray 33 (0,0))):=hZ ((hb7.block _ (lH HX6.out)).trans HX6.out);clear hb7 HR6 HX6;unfold nH;go_wp2_with (refine lO rfl _ _ _ rfl _ (x12.map lG).toArray _ rfl rfl rfl hI2 hz h1 ?_;(obtain⟨W8,hW8⟩:∃W,w7.alloc (.cells (x12.map lG).toArray 33)=W:=⟨_,rfl⟩;have hb8:Below w7.heap.size w7 W8:=jF;have hx8:W8.heap[w7.heap.size]?=some (.cells (x12.map lG).toArray 33 (0,0)):=(by rw[←hW8];exact lP _ _);have HX8:=hZ hx8;have HY8:Hid (W8.heap[w4.heap.size]?=some (.cells (x12.map lG).toArray 33 (0,0))):=hZ ((hb8.block _ (lH HX7.out)).trans HX7.out);have HR8:=hZ (HR7.out.bel hb8);rw[hW8];clear hW8 hb8 hx8 HR7 HX7));refine(AN HR8.out aA wf6).mono ?_;rintro e w9 ⟨v,t2,rfl,hown,hb9⟩;rw[wf3]at hown;rw[show nT t2 (sB wM1).2=.nilIface from by rw[wf3];rfl];have HR9:=hZ (HR8.out.bel hb9)
 have HX9:=hZ (oF ((hb9.block _ (lH HX8.out)).trans HX8.out));have HY9:=hZ (oF ((hb9.block _ (lH HY8.out)).trans HY8.out))
 obtain⟨g,cp,rfl,hc0,hc1⟩:∃g cp,v=.slice (some ⟨g,0,none⟩) 1 cp∧w9.cell? ⟨g,0,none⟩=some (lV aL)∧w9.cell? ⟨g,1,none⟩=some (.string (nA x12)):=by
  rcases hown.2 with⟨-,h⟩|⟨g,cap,cur,rfl,h2,h3,h4,h5,h6,h7⟩
  ·cases h
  ·have hq:∀j,j<2→cur[j]?=([lV aL,.string (nA x12)]:List Value)[j]?:=fun j hj=>by
    have:=congrArg (fun l:List Value=>l[j]?) h7;rw[←Array.getElem?_toList];simp only[List.getElem?_take]at this;rw[if_pos (show j<([(aL,nA x12)]:List (List UInt8×ByteArray)).length*2 by show j<1*2;omega)]at this;exact this
   exact⟨g,cap,rfl,by rw[lF h3];exact hq 0 aA,by rw[lF h3];exact hq 1 aA⟩
 obtain⟨t71,ht71⟩:∃t,nA x12=t:=⟨_,rfl⟩
 have hsz:(t71.size:Int)=71:=by rw[←ht71];decide
 rw[ht71]at hc1;unfold lV at hc0
 obtain⟨aT,haT⟩:∃t:ByteArray,(⟨aL.toArray⟩:ByteArray)=t:=⟨_,rfl⟩
 have haq:(aT.toList==[97,58,108,97,116,101,115,116])=true:=by rw[←haT,Lib.toList_data];rfl
 have haq2:aT=⟨#[97,58,108,97,116,101,115,116]⟩:=by rw[←haT];rfl
 rw[haT]at hc0;have hdd:(!(x12==x12))=false:=aA
 clear hown hb9 HR8 HX8 HY8 ht71 haT;subst haq2;go_wp2_with (first|refine vQ rfl _ _ rfl w7.heap.size 0 rfl (x12.map lG) _ HX9.out hU rfl hI ?_|(refine vQ rfl _ _ rfl w4.heap.size 0 rfl (x12.map lG) _ HY9.out hU rfl hI ?_;simp only[Act.put,List.setIfInBounds_toArray,List.set_cons_succ,List.set_cons_zero];refine Ed rfl _ _ _ rfl (d:=x12) (e:=x12) rfl rfl rfl rfl ?_;simp only[Act.put,List.setIfInBounds_toArray,List.set_cons_succ,List.set_cons_zero];rw[hdd]));refine(EI HR9.out aA ⟨#[97]⟩ aA).mono ?_;intro e w10 hp;obtain⟨rfl,hs10,hk10⟩:=hp.eq (m:=wM2) rfl wf4;have HR10:=hZ (HR9.out.step hs10 hk10)
 clear hp hs10 hk10 HR9 hc0 hc1 HX9 HY9;go_wp2_with fail;refine(Ai HR10.out ⟨#[97]⟩ aA).mono ?_;rintro e w11 ⟨⟨t3,rfl⟩,hb11⟩;rw[show wY wM2 (⟨#[97]⟩:ByteArray).data.toList=(zeroD,10)from wf5];rw[show nT t3 (zeroD,(10:Int)).2=.iface 132 (.agg #[.string t3,.iface 71 (.int .i64 10)])from rfl];have HR11:=hZ (HR10.out.bel hb11)
 have HB11:=hZ HR11.out.st.toB;have hpl:∀W,Below w11.heap.size w11 W→Calls Tryz.prog 10 #[.iface 132 (.agg #[.string t3,.iface 71 (.int .i64 10)]),.int .i64 10] W fun e w'=>e=.returned (.bool true)∧Below W.heap.size W w':=fun W hb=>oQ t3 10 (.inr ⟨aA,aA⟩) 10 W ((HG.out.below HB11.out HG.out.2).below hb (Nat.lt_of_lt_of_le HG.out.2 HB11.out.size))
 unfold nH;clear hb11 HR10;go_wp2_with (first|(refine lO rfl _ _ _ rfl _ (zeroD.map lG).toArray _ rfl rfl rfl hIz2 hzz h1z ?_;(obtain⟨W12,hW12⟩:∃W,w11.alloc (.cells (zeroD.map lG).toArray 33)=W:=⟨_,rfl⟩;have hb12:Below w11.heap.size w11 W12:=(by rw[←hW12];exact(Below.refl _ _).alloc (Nat.le_refl _) _);have HB12:=hZ hb12;rw[hW12];clear hW12 hb12))|(go_at_call 10;refine(hpl _ HB12.out).mono ?_;rintro e w13 ⟨rfl,hb13⟩;have HB13:=hZ ((HB11.out.trans (HB12.out.mono HB11.out.size)).trans (hb13.mono (Nat.le_trans HB11.out.size HB12.out.size)));clear hb13));go_ret;exact⟨rfl,HB13.out⟩
open Go.Maps
theorem FU:∀a b:List UInt8,Op.bytesLess a b=bytesBefore a b
 |[],[]=>rfl
 |[],_::_=>rfl
 |_::_,[]=>rfl
 |x::r,y::s=>by simp[Op.bytesLess,bytesBefore,FU r s]
theorem zO:∀(m l:Tab),mF l→mF m→(∀p∈l,p∈m)→l.Sublist m
 |[],l,_,_,h=>by
  cases l with
  |nil=>exact List.Sublist.slnil
  |cons x s=>exact absurd (h x List.mem_cons_self) List.not_mem_nil
 |y::r,[],_,_,_=>List.nil_sublist _
 |y::r,x::s,hl,hm,h=>by
  have hl':=List.pairwise_cons.1 hl;have hm':=List.pairwise_cons.1 hm
  by_cases e:x=y
  ·subst e;refine List.Sublist.cons_cons x (zO r s hl'.2 hm'.2 (fun p hp=>?_));rcases List.mem_cons.1 (h p (List.mem_cons_of_mem _ hp))with h1|h1
   ·exact absurd (congrArg Prod.fst h1).symm (Df (hl'.1 p hp))
   ·exact h1
  ·have hx:x∈r:=(List.mem_cons.1 (h x List.mem_cons_self)).resolve_left e;refine List.Sublist.cons y (zO r (x::s) hl hm'.2 (fun p hp=>?_));rcases List.mem_cons.1 (h p hp)with h1|h1
   ·rcases List.mem_cons.1 hp with h2|h2
    ·exact absurd (h2.symm.trans h1) e
    ·have a1:=hl'.1 p h2;have a2:=hm'.1 x hx
     rw[h1]at a1;have a3:=WideShapes.bytes_trans _ _ _ a1 a2
     rw[WideAt.bytes_irrefl]at a3;cases a3
   ·exact h1
theorem Ju{l m:Tab}(hl:mF l)(hm:mF m)(h:∀p∈l,lS m p.1=some p.2)(hn:l.length=m.length):l=m:=
 (zO m l hl hm (fun p hp=>mW (h p hp))).eq_of_length hn
def K4(p:Bs×Nat):List UInt8×ByteArray:=(p.1,nA (rS p.2))
structure NamesT (m:DM) (l:Tab):Prop where
 rise:mF l
 list:sB m=(l.map K4,0)
 get:∀p∈l,wY m p.1=(rS p.2,0)
 code:∀p∈l,p.2=mR (rS p.2)
 key:∀p∈l,p.1.length≤96
section
variable {w:World} {ops:Array Oper} {rest:List Oper} {o:Oper} {a:Act} {Q:Exit→Act→World→Prop}
theorem xI(hw:Region.wanted o (yielded ops a.tmps)=true)(m:Operand)(hop:o.op=Op.call {callee:=Callee.builtin Builtin.len,args:=#[m],argTypes:=#[40]})
  (b:Nat) (l:Tab) (hm:a.eval m=.map (some b)) (hown:LedAt w b l) (hK:wpList Tryz.prog ops Q rest (a.put o.dst (.int .i64 (l.length:Int))) w):
  wpList Tryz.prog ops Q (o::rest) a w:=by
 refine wpList_step fun K' hK'=>?_
 rw[if_pos hw];have hlen:=World.ownsMap.len hown uX o.type
 have e:Maps.size (rE l)=l.length:=List.length_map ..;rw[e]at hlen;unfold Oper.wp;simp[execOp,hop,resolve,invoke,builtin,hm,hlen,Result.andThen];exact hK' _ _ hK
end
theorem OwnP.at{base:Nat}{l:List (List UInt8×ByteArray)}{w:World}{p:Option Addr}{n c:Nat}(h:OwnP base l (.slice p n c) w){i:Nat}{x:List UInt8×ByteArray}(hx:l[i]?=some x):
  ∃g,p=some ⟨g,0,none⟩∧g<w.heap.size∧w.cell? ⟨g,i*2,none⟩=some (lV x.1)∧w.cell? ⟨g,i*2+1,none⟩=some (.string x.2):=by
 rcases OwnG.reads (T:=83) (sz:=2) (cl:=clP) (fun _=>rfl) h with⟨h1,h2⟩|⟨g,cap,cur,h1,-,-,h4,h5⟩
 ·rw[h2]at hx;cases hx
 ·cases h1;have e0:=h5 i x hx 0 aA
  have e1:=h5 i x hx 1 aA;exact⟨g,rfl,lH h4,by rw[lF h4];exact e0,by rw[lF h4];exact e1⟩
theorem AO{w w1:World}{S P:Nat→Prop}{rb a n:Nat}{m:DM}(h:Rf w S P rb a w1 n m)(hn:n≤1000000000)(hsh:∀s∈m.lists ⟨refHead.toArray⟩,s.size≤200){LT W:Tab}(hN:NamesT m LT)(hNl:LT.length≤1000000000)(q:Nat)(hW:LedAt w1 q W)(hWl:W.length≤1000000000)(hWc:∀x∈W,x.2=mR (rS x.2)):
  Calls Tryz.prog 18 #[.pointer (some ⟨rb,0,none⟩),.map (some q)] w1 fun e w'=>e=.returned (.bool (decide (LT=W)))∧Below w1.heap.size w1 w':=by
 have HS1:=hZ h;have HN:=hZ hN
 have HW:=hZ hW;have HWR:=hZ hW.rising
 have hU:=nD;have HWC:Hid (∀(c2:Nat) (k:Bs),lS W k=some c2→mR (rS c2)=c2):=hZ (fun c2 k hk=>(hWc _ (mW hk)).symm)
 obtain⟨N,hNN⟩:∃N,LT.length=N:=⟨_,rfl⟩
 have HNN:=hZ hNN
 obtain⟨M,hMM⟩:∃M,W.length=M:=⟨_,rfl⟩
 have HMM:=hZ hMM;rw[hNN]at hNl;rw[hMM]at hWl;have hls:=AN h hn hsh
 obtain⟨RB,hRB⟩:∃b,decide (LT=W)=b:=⟨_,rfl⟩
 have HRB:=hZ hRB;rw[hRB];clear h hn hsh hN hW hNN hMM hRB hWc;go_enter Tryz.func18,Tryz.ntmps18;go_wp2_with fail;refine hls.mono ?_;rintro e w2 ⟨v,t,rfl,hown,hb2⟩;rw[HN.out.list]at hown;rw[show nT t (sB m).2=.nilIface from by rw[HN.out.list];rfl];obtain⟨p,cp,rfl⟩:=oV hown;rw[show(LT.map K4).length=N from by rw[List.length_map];exact HNN.out]at hown⊢;have HO2:=hZ hown
 have HS2:=hZ (HS1.out.bel hb2);have HB2:=hZ hb2
 have HW2:=hZ (HW.out.below hb2);clear hls hown hb2;by_cases hnm:N=M
 ·subst hnm;have hNi:(N:Int)≤1000000000:=aC
  go_wp2_with (at_len;refine xI rfl _ rfl q W rfl HW2.out ?_;rw[HMM.out]);go_loopw [7] (fun iv wr=>∃i:Nat,(i:Int)≤N∧iv=.int .i64 i∧Hid (∀x∈LT.take i,lS W x.1=some x.2)∧Hid (Below w2.heap.size w2 wr)) (fun iv _=>N-(intOf iv).toNat)
  case atStart=>exact⟨0,aC,rfl,hZ (fun x hx=>by rw[List.take_zero]at hx;cases hx),hZ (Below.refl _ _)⟩
  case round=>
   obtain⟨i,hi,rfl,HJ,HB⟩:=hrel;by_cases hlt:(i:Int)<N
   ·have hil:i<LT.length:=by rw[HNN.out];omega
    obtain⟨x,hx⟩:∃x,LT[i]?=some x:=⟨_,List.getElem?_eq_getElem hil⟩
    obtain⟨k,c⟩:=x;have hmem:=List.mem_of_getElem? hx
    obtain⟨g,rfl,hg,hk0,ht0⟩:=HO2.out.at (i:=i) (x:=K4 (k,c)) (by rw[List.getElem?_map,hx];rfl);have hgk:=HN.out.get _ hmem
    have hkl:=HN.out.key _ hmem;have hcc:=HN.out.code _ hmem
    simp only at hgk hkl hcc;have HX:=hZ hx
    have HG:=hZ hg;have htk:LT.take (i+1)=LT.take i++[(k,c)]:=iX
    have HTK:=hZ htk
    obtain⟨D,hD⟩:∃D,rS c=D:=⟨_,rfl⟩
    have hDl:D.length=32:=by rw[←hD];exact uG c
    have HDC:Hid (rS c=D):=hZ hD
    obtain⟨T,hT⟩:∃T,nA D=T:=⟨_,rfl⟩
    have hTX:=fun WW:World=>E5 D hDl WW
    rw[hT]at hTX
    obtain⟨kB,hkB⟩:∃b:ByteArray,(⟨k.toArray⟩:ByteArray)=b:=⟨_,rfl⟩
    have hkd:kB.data.toList=k:=by rw[←hkB]
    have hks:(kB.size:Int)≤96:=by rw[←hkB];show((k.length:Nat):Int)≤96;omega
    have hc0:wr.cell? ⟨g,i*2,none⟩=some (.string kB):=(HB.out.cell (p:=⟨g,i*2,none⟩) hg).trans (hk0.trans (by rw[←hkB];rfl));have hc1:w2.cell? ⟨g,i*2+1,none⟩=some (.string T):=ht0.trans (by rw[←hT,←hD];rfl)
    have hc00:w2.cell? ⟨g,i*2,none⟩=some (.string kB):=hk0.trans (by rw[←hkB];rfl);rw[hD]at hgk hcc;have HC1:=hZ hc1
    have HC0:=hZ hc00;have HDL:=hZ hDl
    have HCC:=hZ hcc;have HKD:=hZ hkd
    have HWr:=hZ (HW2.out.below HB.out);have HSr:=hZ (HS2.out.bel HB.out)
    have hget:=fun(WW:World) (hr:Rf w S P rb a WW n m)=>Ai hr kB aC
    rw[hkd,hgk]at hget;have HGET:=hZ hget
    unfold nH at hTX;have HTX:=hZ hTX
    obtain⟨O,hO⟩:∃O,lS W k=O:=⟨_,rfl⟩
    have HO:=hZ hO
    obtain⟨isb,his⟩:∃b,O.isSome=b:=⟨_,rfl⟩
    have HIS:=hZ his
    have hcs:(isb=false∧O=none)∨(isb=true∧∃c2,O=some c2):=by
     rw[←his]
     cases O with
     |none=>exact .inl ⟨rfl,rfl⟩
     |some c2=>exact .inr ⟨rfl,c2,rfl⟩
    have HCS:=hZ hcs;clear his hcs
    obtain⟨E,hE⟩:∃E,Ee O=E:=⟨_,rfl⟩
    have hEl:E.length=32:=by rw[←hE];exact vR O
    have HE:=hZ hE;have HEL:=hZ hEl
    have hI:=oM hDl;have hI2:=lX hDl
    have h1:=nW D;have hz:=nE hDl
    have hIE:=oM hEl;have hIE2:=lX hEl
    have h1E:=nW E;have hzE:=nE hEl
    have HPREV:Hid (∀j,i=j+1→∃pB:ByteArray,w2.cell? ⟨g,j*2,none⟩=some (.string pB)∧(!(Op.bytesLess pB.toList kB.toList))=false):=hZ (fun j hj=>by
     subst hj
     obtain⟨y,hy⟩:∃y,LT[j]?=some y:=⟨_,List.getElem?_eq_getElem aC⟩
     obtain⟨g',hg',-,hy0,-⟩:=HO2.out.at (i:=j) (x:=K4 y) (by rw[List.getElem?_map,hy];rfl);cases hg';refine⟨⟨y.1.toArray⟩,hy0,?_⟩;rw[←hkB,Lib.toList_data,Lib.toList_data,FU];have hr:=List.pairwise_iff_getElem.1 HN.out.rise j (j+1) aC hil aC
     rw[List.getElem?_eq_getElem aC]at hy;rw[List.getElem?_eq_getElem hil]at hx;rw[Option.some.inj hy,Option.some.inj hx]at hr;show(!(bytesBefore y.1 k))=false
     rw[hr]
     rfl)
    clear hx hil hmem hk0 ht0 hgk hkl hcc hg htk hD hDl hT hTX hkB hkd hc1 hc00 hget hO hE hEl;go_wp2_with (first|(at_lookup;refine pM rfl _ _ rfl q W rfl HWr.out kB cT rfl ?_;rw[HKD.out,HO.out,HE.out,HIS.out])|(refine lO rfl _ _ _ rfl _ (E.map lG).toArray _ rfl rfl rfl hIE2 hzE h1E ?_;(obtain⟨W5,hW5⟩:∃W,wr.alloc (.cells (E.map lG).toArray 33)=W:=⟨_,rfl⟩;have hx5:W5.heap[wr.heap.size]?=some (.cells (E.map lG).toArray 33 (0,0)):=cJ;have hb5:Below wr.heap.size wr W5:=aM;have HX5:=hZ hx5;have HB5:Hid (Below w2.heap.size w2 W5):=hZ (HB.out.trans (hb5.mono HB.out.size));have HS5:=hZ (HSr.out.bel hb5);have c5:W5.cell? ⟨g,i*2,none⟩=some (.string kB):=(HB5.out.cell (p:=⟨g,i*2,none⟩) HG.out).trans HC0.out;rw[hW5];clear hW5 hx5 hb5)));refine(HGET.out _ HS5.out).mono ?_;rintro e w6 ⟨⟨t6,rfl⟩,hb6⟩;rw[show nT t6 (D,(0:Int)).2=.nilIface from rfl];have HB6:Hid (Below w2.heap.size w2 w6):=hZ (HB5.out.trans (hb6.mono HB5.out.size))
    have HX6:Hid (w6.heap[wr.heap.size]?=some (.cells (E.map lG).toArray 33 (0,0))):=hZ ((hb6.block _ (lH HX5.out)).trans HX5.out);unfold nH;clear hb6 c5;go_wp2_with (refine lO rfl _ _ _ rfl _ (D.map lG).toArray _ rfl rfl rfl hI2 hz h1 ?_;(obtain⟨W7,hW7⟩:∃W,w6.alloc (.cells (D.map lG).toArray 33)=W:=⟨_,rfl⟩;have hx7:W7.heap[w6.heap.size]?=some (.cells (D.map lG).toArray 33 (0,0)):=(by rw[←hW7];exact lP _ _);have hb7:Below w6.heap.size w6 W7:=(by rw[←hW7];exact(Below.refl _ _).alloc (Nat.le_refl _) _);have HX7:=hZ hx7;have HY7:Hid (W7.heap[wr.heap.size]?=some (.cells (E.map lG).toArray 33 (0,0))):=hZ ((hb7.block _ (lH HX6.out)).trans HX6.out);have HB7:Hid (Below w2.heap.size w2 W7):=hZ (HB6.out.trans (hb7.mono HB6.out.size));rw[hW7];clear hW7 hx7 hb7));have hI0:Below W7.heap.size W7 W7.drew:=⟨rfl,rfl,rfl,Nat.le_refl _,fun _ _=>rfl⟩
    have HCT:Hid (∀WW,Below W7.heap.size W7 WW→WW.cell? ⟨g,i*2,none⟩=some (.string kB)∧WW.cell? ⟨g,i*2+1,none⟩=some (.string T)):=hZ (fun WW hb=>by
     have hb9:=HB7.out.trans (hb.mono HB7.out.size);exact⟨(hb9.cell (p:=⟨g,i*2,none⟩) HG.out).trans HC0.out,(hb9.cell (p:=⟨g,i*2+1,none⟩) HG.out).trans HC1.out⟩)
    obtain⟨gb,hgb⟩:∃b,w6.heap.size=b:=⟨_,rfl⟩
    obtain⟨wb,hwb⟩:∃b,wr.heap.size=b:=⟨_,rfl⟩
    rw[hgb]at HX7;rw[hwb]at HY7;rw[hgb,hwb];clear hgb hwb;rcases HCS.out with⟨rfl,hOn⟩|⟨rfl,c2,hOs⟩
    ·have HON:=hZ hOn;clear hOn
     refine lQ (fun _:Unit=>[.bool false,.bool true,.bool true,undef,undef,.bool true,.bool true,undef,undef,undef,.bool true,.bool true,undef,undef,undef,undef,undef,undef,undef,undef,.bool true,.bool true,undef,undef,undef,undef,undef,undef,undef,undef,undef,undef,undef,undef,undef,undef,undef,undef,.bool true]) (fun _ _ W=>Below W7.heap.size W7 W)
      [[],[0],[1],[2],[3,2],[2,4],[5,2],[6],[6],[7,8,6],[6,9],[10,6],[11],[11],[12,13,11],[14,11],[15,11],[11],[17,11,11],[16,18,11],[11,19],[20,18],[21],[22,21],[23,21,21],[24],[24],[26,24],[25,27,24],[28,24],[29,24],[24],[24],[31,32,24],[33,24],[34,24],[30,35,24],[24,36,21],[21,37]] 91 () mC rfl aE (fun _=>rfl) hI0 ?_ ?_
     ·refine⟨?_,?_,?_,?_,?_,?_,?_,?_,?_,?_,?_,?_,?_,?_,?_,?_,?_,?_,?_,?_,?_,?_,?_,?_,?_,?_,?_,?_,?_,?_,?_,?_,?_,?_,?_,?_,?_,?_,?_,rfl⟩
      all_goals intro L γ W ev hL hd hW hc hf hg he h0
      ·have e9:ev (.tmp 9)=.bool false:=h0 9 rfl;clear he h0 hc hf hg;exact cM
      ·have e52:ev (.tmp 52)=.bool false:=he 0 aA _ 52 rfl rfl;clear he h0 hc hf hg;exact cM
      ·have e53:ev (.tmp 53)=.bool true:=he 1 aA _ 53 rfl rfl;clear he h0 hc hf hg;exact cM
      ·exact aI
      ·exact aI
      ·have e54:ev (.tmp 54)=.bool true:=he 2 aA _ 54 rfl rfl;have e56:ev (.tmp 56)=undef:=he 4 aA _ 56 rfl rfl
       have hcc:=hc;clear he h0 hc hf hg;exact cM
      ·have e57:ev (.tmp 57)=.bool true:=he 5 aA _ 57 rfl rfl;clear he h0 hc hf hg;exact cM
      ·exact aI
      ·exact aI
      ·exact aI
      ·have e58:ev (.tmp 58)=.bool true:=he 6 aA _ 58 rfl rfl;have e61:ev (.tmp 61)=undef:=he 9 aA _ 61 rfl rfl
       have hcc:=hc;clear he h0 hc hf hg;exact cM
      ·have e62:ev (.tmp 62)=.bool true:=he 10 aA _ 62 rfl rfl;clear he h0 hc hf hg;exact cM
      ·exact aI
      ·exact aI
      ·exact aI
      ·exact aI
      ·exact aI
      ·exact aI
      ·exact aI
      ·exact aI
      ·have e63:ev (.tmp 63)=.bool true:=he 11 aA _ 63 rfl rfl;have e71:ev (.tmp 71)=undef:=he 19 aA _ 71 rfl rfl
       have hcc:=hc;clear he h0 hc hf hg;exact cM
      ·have e72:ev (.tmp 72)=.bool true:=he 20 aA _ 72 rfl rfl;clear he h0 hc hf hg;exact cM
      ·exact aI
      ·exact aI
      ·exact aI
      ·exact aI
      ·exact aI
      ·exact aI
      ·exact aI
      ·exact aI
      ·exact aI
      ·exact aI
      ·exact aI
      ·exact aI
      ·exact aI
      ·exact aI
      ·exact aI
      ·exact aI
      ·have e73:ev (.tmp 73)=.bool true:=he 21 aA _ 73 rfl rfl;have e89:ev (.tmp 89)=undef:=he 37 aA _ 89 rfl rfl
       have hcc:=hc;clear he h0 hc hf hg;exact cM
     intro γ L w8 hL hW;have HB8:Hid (Below w2.heap.size w2 w8):=hZ (HB7.out.trans (hW.mono HB7.out.size))
     clear hL hW hI0;simp only[nX,Act.put,List.setIfInBounds_toArray,List.set_cons_succ,List.set_cons_zero]
     have hRf:RB=false:=by
      rw[←HRB.out];refine decide_eq_false fun hh=>?_
      have h2:=mO HN.out.rise (List.mem_of_getElem? HX.out);rw[hh,HO.out,HON.out]at h2;cases h2
     subst hRf;go_wp2_with fail;go_ret;exact⟨rfl,HB2.out.trans (HB8.out.mono HB2.out.size)⟩
    ·have HOS:=hZ hOs;have hEd:E=rS c2:=by rw[←HE.out,hOs];rfl
     have HED:=hZ hEd;clear hOs hEd;by_cases hde:D=E
     ·have hee:(D==E)=true:=beq_iff_eq.2 hde;have hEQ:=hZ hde
      have hTT:(T.toList==T.toList)=true:=beq_self_eq_true _
      have HNX:Hid (∀x∈LT.take (i+1),lS W x.1=some x.2):=hZ (fun x hx=>by
       rw[HTK.out]at hx;rcases List.mem_append.1 hx with hx|hx
       ·exact HJ.out x hx
       ·rw[List.mem_singleton.1 hx];show lS W k=some c
        rw[HO.out,HOS.out,HCC.out,hEQ.out,HED.out];exact congrArg some (HWC.out c2 k (HO.out.trans HOS.out)).symm)
      clear hde;rcases Nat.eq_zero_or_pos i with hi0|hi0
      ·subst hi0;have HTE:Hid (∀WW:World,Calls Tryz.prog 49 #[.agg (E.map lG).toArray] WW fun e w'=>e=.returned (.string T)∧Below WW.heap.size WW w'):=hZ (fun WW=>by rw[←hEQ.out];exact HTX.out WW)
       refine lQ (fun _:Unit=>[.bool true,.bool false,.bool false,.nilIface,.bool false,.bool false,.bool false,.agg (D.map lG).toArray,.agg (E.map lG).toArray,.bool false,.bool false,.bool false,.slice (some ⟨g,0,none⟩) N cp,.int .i64 0,.pointer (some ⟨g,0,none⟩),.pointer (some ⟨g,1,none⟩),.string T,.agg (E.map lG).toArray,.string T,.bool false,.bool false,.bool false,.int .i64 0,.bool false,.bool false,undef,undef,undef,undef,undef,undef,undef,undef,undef,undef,undef,undef,.bool false,.bool false]) (fun _ _ W=>Below W7.heap.size W7 W)
        [[],[0],[1],[2],[3,2],[2,4],[5,2],[6],[6],[7,8,6],[6,9],[10,6],[11],[11],[12,13,11],[14,11],[15,11],[11],[17,11,11],[16,18,11],[11,19],[20,18],[21],[22,21],[23,21,21],[24],[24],[26,24],[25,27,24],[28,24],[29,24],[24],[24],[31,32,24],[33,24],[34,24],[30,35,24],[24,36,21],[21,37]] 91 () mC rfl aE (fun _=>rfl) hI0 ?_ ?_
       ·refine⟨?_,?_,?_,?_,?_,?_,?_,?_,?_,?_,?_,?_,?_,?_,?_,?_,?_,?_,?_,?_,?_,?_,?_,?_,?_,?_,?_,?_,?_,?_,?_,?_,?_,?_,?_,?_,?_,?_,?_,rfl⟩
        all_goals intro L γ W ev hL hd hW hc hf hg he h0
        ·have e9:ev (.tmp 9)=.bool true:=h0 9 rfl;clear he h0 hc hf hg;exact cM
        ·have e52:ev (.tmp 52)=.bool true:=he 0 aA _ 52 rfl rfl;clear he h0 hc hf hg;exact cM
        ·have e53:ev (.tmp 53)=.bool false:=he 1 aA _ 53 rfl rfl;clear he h0 hc hf hg;exact cM
        ·have e11:ev (.tmp 11)=.nilIface:=h0 11 rfl;clear he h0 hc hf hg;exact cM
        ·have e55:ev (.tmp 55)=.nilIface:=he 3 aA _ 55 rfl rfl;have hcc:=hc
         clear he h0 hc hf hg;exact cM
        ·have e54:ev (.tmp 54)=.bool false:=he 2 aA _ 54 rfl rfl;have e56:ev (.tmp 56)=.bool false:=he 4 aA _ 56 rfl rfl
         have hcc:=hc;clear he h0 hc hf hg;exact cM
        ·have e57:ev (.tmp 57)=.bool false:=he 5 aA _ 57 rfl rfl;clear he h0 hc hf hg;exact cM
        ·have e10:ev (.tmp 10)=.pointer (some ⟨gb,0,none⟩):=h0 10 rfl;clear he h0 hc hg;have hlv:=run_loadVar_row (P:=Tryz.prog) W gb 33 33 (D.map lG).toArray (0,0) _ ((hW.block _ (lH HX7.out)).trans HX7.out) nD rfl (lX HDL.out)
         refine .inl ⟨rfl,.inl ⟨_,W,?_,.still (hW) rfl⟩⟩;unfold execOp;simp only[e10,Instr.loadAt,Instr.sureAddr,Sem.run_bind,Sem.run_pure,Result.andThen_ok,hlv]
         try rfl
        ·have e8:ev (.tmp 8)=.pointer (some ⟨wb,0,none⟩):=h0 8 rfl;clear he h0 hc hg;have hlv:=run_loadVar_row (P:=Tryz.prog) W wb 33 33 (E.map lG).toArray (0,0) _ ((hW.block _ (lH HY7.out)).trans HY7.out) nD rfl (lX HEL.out)
         refine .inl ⟨rfl,.inl ⟨_,W,?_,.still (hW) rfl⟩⟩;unfold execOp;simp only[e8,Instr.loadAt,Instr.sureAddr,Sem.run_bind,Sem.run_pure,Result.andThen_ok,hlv]
         try rfl
        ·have e59:ev (.tmp 59)=.agg (D.map lG).toArray:=he 7 aA _ 59 rfl rfl;have e60:ev (.tmp 60)=.agg (E.map lG).toArray:=he 8 aA _ 60 rfl rfl
         clear he h0 hc hg;have hq:=GQ W HDL.out HEL.out
         rw[hee]at hq;refine .inl ⟨rfl,.inl ⟨_,W,aD,.still (hW) rfl⟩⟩
        ·have e58:ev (.tmp 58)=.bool false:=he 6 aA _ 58 rfl rfl;have e61:ev (.tmp 61)=.bool false:=he 9 aA _ 61 rfl rfl
         have hcc:=hc;clear he h0 hc hf hg;exact cM
        ·have e62:ev (.tmp 62)=.bool false:=he 10 aA _ 62 rfl rfl;clear he h0 hc hf hg;exact cM
        ·have e5:ev (.tmp 5)=.slice (some ⟨g,0,none⟩) N cp:=h0 5 rfl;clear he h0 hc hf hg;exact cM
        ·have e7:ev (.tmp 7)=.int .i64 0:=h0 7 rfl;clear he h0 hc hf hg;exact cM
        ·have e64:ev (.tmp 64)=.slice (some ⟨g,0,none⟩) N cp:=he 12 aA _ 64 rfl rfl;have e65:ev (.tmp 65)=.int .i64 0:=he 13 aA _ 65 rfl rfl
         have hb0:¬N=0:=fV;clear he h0 hc hf hg;exact cM
        ·have e66:ev (.tmp 66)=.pointer (some ⟨g,0,none⟩):=he 14 aA _ 66 rfl rfl;clear he h0 hc hf hg;exact cM
        ·have e67:ev (.tmp 67)=.pointer (some ⟨g,1,none⟩):=he 15 aA _ 67 rfl rfl;have cc:W.cell? ⟨g,1,none⟩=some (.string T):=(HCT.out W hW).2
         clear he h0 hc hf hg;exact cM
        ·have e8:ev (.tmp 8)=.pointer (some ⟨wb,0,none⟩):=h0 8 rfl;clear he h0 hc hg;have hlv:=run_loadVar_row (P:=Tryz.prog) W wb 33 33 (E.map lG).toArray (0,0) _ ((hW.block _ (lH HY7.out)).trans HY7.out) nD rfl (lX HEL.out)
         refine .inl ⟨rfl,.inl ⟨_,W,?_,.still (hW) rfl⟩⟩;unfold execOp;simp only[e8,Instr.loadAt,Instr.sureAddr,Sem.run_bind,Sem.run_pure,Result.andThen_ok,hlv]
         try rfl
        ·have e69:ev (.tmp 69)=.agg (E.map lG).toArray:=he 17 aA _ 69 rfl rfl;clear he h0 hc hg;refine .inl ⟨rfl,.inr (.inr ⟨49,#[.agg (E.map lG).toArray],W,cZ,?_⟩)⟩;refine(HTE.out W).mono ?_;rintro e w' ⟨rfl,hb⟩;exact⟨_,rfl,.still (hW.trans (hb.mono hW.size)) rfl⟩
        ·have e68:ev (.tmp 68)=.string T:=he 16 aA _ 68 rfl rfl;have e70:ev (.tmp 70)=.string T:=he 18 aA _ 70 rfl rfl
         clear he h0 hc hf hg;exact cM
        ·have e63:ev (.tmp 63)=.bool false:=he 11 aA _ 63 rfl rfl;have e71:ev (.tmp 71)=.bool false:=he 19 aA _ 71 rfl rfl
         have hcc:=hc;clear he h0 hc hf hg;exact cM
        ·have e72:ev (.tmp 72)=.bool false:=he 20 aA _ 72 rfl rfl;clear he h0 hc hf hg;exact cM
        ·have e7:ev (.tmp 7)=.int .i64 0:=h0 7 rfl;clear he h0 hc hf hg;exact cM
        ·have e74:ev (.tmp 74)=.int .i64 0:=he 22 aA _ 74 rfl rfl;have hcc:=hc
         clear he h0 hc hf hg;exact cM
        ·have e75:ev (.tmp 75)=.bool false:=he 23 aA _ 75 rfl rfl;clear he h0 hc hf hg;exact cM
        ·exact aI
        ·exact aI
        ·exact aI
        ·exact aI
        ·exact aI
        ·exact aI
        ·exact aI
        ·exact aI
        ·exact aI
        ·exact aI
        ·exact aI
        ·exact aI
        ·have e76:ev (.tmp 76)=.bool false:=he 24 aA _ 76 rfl rfl;have e88:ev (.tmp 88)=undef:=he 36 aA _ 88 rfl rfl
         have hcc:=hc;clear he h0 hc hf hg;exact cM
        ·have e73:ev (.tmp 73)=.bool false:=he 21 aA _ 73 rfl rfl;have e89:ev (.tmp 89)=.bool false:=he 37 aA _ 89 rfl rfl
         have hcc:=hc;clear he h0 hc hf hg;exact cM
       intro γ L w8 hL hW;have HB8:Hid (Below w2.heap.size w2 w8):=hZ (HB7.out.trans (hW.mono HB7.out.size))
       clear hL hW hI0;simp only[nX,Act.put,List.setIfInBounds_toArray,List.set_cons_succ,List.set_cons_zero];go_wp2_with fail;refine⟨⟨1,aC,jH,HNX,HB8⟩,cN⟩
      ·obtain⟨j,rfl⟩:∃j,i=j+1:=⟨i-1,aC⟩
       obtain⟨pB,hpB,hps⟩:=HPREV.out j rfl;have HPB:=hZ hpB
       clear hpB;have HTE:Hid (∀WW:World,Calls Tryz.prog 49 #[.agg (E.map lG).toArray] WW fun e w'=>e=.returned (.string T)∧Below WW.heap.size WW w'):=hZ (fun WW=>by rw[←hEQ.out];exact HTX.out WW)
       refine lQ (fun _:Unit=>[.bool true,.bool false,.bool false,.nilIface,.bool false,.bool false,.bool false,.agg (D.map lG).toArray,.agg (E.map lG).toArray,.bool false,.bool false,.bool false,.slice (some ⟨g,0,none⟩) N cp,.int .i64 ((j:Int)+1),.pointer (some ⟨g,(j+1)*2,none⟩),.pointer (some ⟨g,(j+1)*2+1,none⟩),.string T,.agg (E.map lG).toArray,.string T,.bool false,.bool false,.bool false,.int .i64 ((j:Int)+1),.bool true,.bool true,.slice (some ⟨g,0,none⟩) N cp,.int .i64 ((j:Int)+1),.int .i64 j,.pointer (some ⟨g,j*2,none⟩),.pointer (some ⟨g,j*2,none⟩),.string pB,.slice (some ⟨g,0,none⟩) N cp,.int .i64 ((j:Int)+1),.pointer (some ⟨g,(j+1)*2,none⟩),.pointer (some ⟨g,(j+1)*2,none⟩),.string kB,.bool false,.bool false,.bool false]) (fun _ _ W=>Below W7.heap.size W7 W)
        [[],[0],[1],[2],[3,2],[2,4],[5,2],[6],[6],[7,8,6],[6,9],[10,6],[11],[11],[12,13,11],[14,11],[15,11],[11],[17,11,11],[16,18,11],[11,19],[20,18],[21],[22,21],[23,21,21],[24],[24],[26,24],[25,27,24],[28,24],[29,24],[24],[24],[31,32,24],[33,24],[34,24],[30,35,24],[24,36,21],[21,37]] 91 () mC rfl aE (fun _=>rfl) hI0 ?_ ?_
       ·refine⟨?_,?_,?_,?_,?_,?_,?_,?_,?_,?_,?_,?_,?_,?_,?_,?_,?_,?_,?_,?_,?_,?_,?_,?_,?_,?_,?_,?_,?_,?_,?_,?_,?_,?_,?_,?_,?_,?_,?_,rfl⟩
        all_goals intro L γ W ev hL hd hW hc hf hg he h0
        ·have e9:ev (.tmp 9)=.bool true:=h0 9 rfl;clear he h0 hc hf hg;exact cM
        ·have e52:ev (.tmp 52)=.bool true:=he 0 aA _ 52 rfl rfl;clear he h0 hc hf hg;exact cM
        ·have e53:ev (.tmp 53)=.bool false:=he 1 aA _ 53 rfl rfl;clear he h0 hc hf hg;exact cM
        ·have e11:ev (.tmp 11)=.nilIface:=h0 11 rfl;clear he h0 hc hf hg;exact cM
        ·have e55:ev (.tmp 55)=.nilIface:=he 3 aA _ 55 rfl rfl;have hcc:=hc
         clear he h0 hc hf hg;exact cM
        ·have e54:ev (.tmp 54)=.bool false:=he 2 aA _ 54 rfl rfl;have e56:ev (.tmp 56)=.bool false:=he 4 aA _ 56 rfl rfl
         have hcc:=hc;clear he h0 hc hf hg;exact cM
        ·have e57:ev (.tmp 57)=.bool false:=he 5 aA _ 57 rfl rfl;clear he h0 hc hf hg;exact cM
        ·have e10:ev (.tmp 10)=.pointer (some ⟨gb,0,none⟩):=h0 10 rfl;clear he h0 hc hg;have hlv:=run_loadVar_row (P:=Tryz.prog) W gb 33 33 (D.map lG).toArray (0,0) _ ((hW.block _ (lH HX7.out)).trans HX7.out) nD rfl (lX HDL.out)
         refine .inl ⟨rfl,.inl ⟨_,W,?_,.still (hW) rfl⟩⟩;unfold execOp;simp only[e10,Instr.loadAt,Instr.sureAddr,Sem.run_bind,Sem.run_pure,Result.andThen_ok,hlv]
         try rfl
        ·have e8:ev (.tmp 8)=.pointer (some ⟨wb,0,none⟩):=h0 8 rfl;clear he h0 hc hg;have hlv:=run_loadVar_row (P:=Tryz.prog) W wb 33 33 (E.map lG).toArray (0,0) _ ((hW.block _ (lH HY7.out)).trans HY7.out) nD rfl (lX HEL.out)
         refine .inl ⟨rfl,.inl ⟨_,W,?_,.still (hW) rfl⟩⟩;unfold execOp;simp only[e8,Instr.loadAt,Instr.sureAddr,Sem.run_bind,Sem.run_pure,Result.andThen_ok,hlv]
         try rfl
        ·have e59:ev (.tmp 59)=.agg (D.map lG).toArray:=he 7 aA _ 59 rfl rfl;have e60:ev (.tmp 60)=.agg (E.map lG).toArray:=he 8 aA _ 60 rfl rfl
         clear he h0 hc hg;have hq:=GQ W HDL.out HEL.out
         rw[hee]at hq;refine .inl ⟨rfl,.inl ⟨_,W,aD,.still (hW) rfl⟩⟩
        ·have e58:ev (.tmp 58)=.bool false:=he 6 aA _ 58 rfl rfl;have e61:ev (.tmp 61)=.bool false:=he 9 aA _ 61 rfl rfl
         have hcc:=hc;clear he h0 hc hf hg;exact cM
        ·have e62:ev (.tmp 62)=.bool false:=he 10 aA _ 62 rfl rfl;clear he h0 hc hf hg;exact cM
        ·have e5:ev (.tmp 5)=.slice (some ⟨g,0,none⟩) N cp:=h0 5 rfl;clear he h0 hc hf hg;exact cM
        ·have e7:ev (.tmp 7)=.int .i64 ((j:Int)+1):=h0 7 rfl;clear he h0 hc hf hg;exact cM
        ·have e64:ev (.tmp 64)=.slice (some ⟨g,0,none⟩) N cp:=he 12 aA _ 64 rfl rfl;have e65:ev (.tmp 65)=.int .i64 ((j:Int)+1):=he 13 aA _ 65 rfl rfl
         have hb1:(j:Int)+1<(N:Int):=fV;have hb2:(j:Int)<(N:Int):=fV
         have hb3:¬(j:Int)+1<0:=aC;have hb4:¬(j:Int)<0:=aC
         clear he h0 hc hf hg;exact cM
        ·have e66:ev (.tmp 66)=.pointer (some ⟨g,(j+1)*2,none⟩):=he 14 aA _ 66 rfl rfl;clear he h0 hc hf hg;exact cM
        ·have e67:ev (.tmp 67)=.pointer (some ⟨g,(j+1)*2+1,none⟩):=he 15 aA _ 67 rfl rfl;have cc:W.cell? ⟨g,(j+1)*2+1,none⟩=some (.string T):=(HCT.out W hW).2
         clear he h0 hc hf hg;exact cM
        ·have e8:ev (.tmp 8)=.pointer (some ⟨wb,0,none⟩):=h0 8 rfl;clear he h0 hc hg;have hlv:=run_loadVar_row (P:=Tryz.prog) W wb 33 33 (E.map lG).toArray (0,0) _ ((hW.block _ (lH HY7.out)).trans HY7.out) nD rfl (lX HEL.out)
         refine .inl ⟨rfl,.inl ⟨_,W,?_,.still (hW) rfl⟩⟩;unfold execOp;simp only[e8,Instr.loadAt,Instr.sureAddr,Sem.run_bind,Sem.run_pure,Result.andThen_ok,hlv]
         try rfl
        ·have e69:ev (.tmp 69)=.agg (E.map lG).toArray:=he 17 aA _ 69 rfl rfl;clear he h0 hc hg;refine .inl ⟨rfl,.inr (.inr ⟨49,#[.agg (E.map lG).toArray],W,cZ,?_⟩)⟩;refine(HTE.out W).mono ?_;rintro e w' ⟨rfl,hb⟩;exact⟨_,rfl,.still (hW.trans (hb.mono hW.size)) rfl⟩
        ·have e68:ev (.tmp 68)=.string T:=he 16 aA _ 68 rfl rfl;have e70:ev (.tmp 70)=.string T:=he 18 aA _ 70 rfl rfl
         clear he h0 hc hf hg;exact cM
        ·have e63:ev (.tmp 63)=.bool false:=he 11 aA _ 63 rfl rfl;have e71:ev (.tmp 71)=.bool false:=he 19 aA _ 71 rfl rfl
         have hcc:=hc;clear he h0 hc hf hg;exact cM
        ·have e72:ev (.tmp 72)=.bool false:=he 20 aA _ 72 rfl rfl;clear he h0 hc hf hg;exact cM
        ·have e7:ev (.tmp 7)=.int .i64 ((j:Int)+1):=h0 7 rfl;clear he h0 hc hf hg;exact cM
        ·have e74:ev (.tmp 74)=.int .i64 ((j:Int)+1):=he 22 aA _ 74 rfl rfl;have hcc:=hc
         clear he h0 hc hf hg;exact cM
        ·have e75:ev (.tmp 75)=.bool true:=he 23 aA _ 75 rfl rfl;clear he h0 hc hf hg;exact cM
        ·have e5:ev (.tmp 5)=.slice (some ⟨g,0,none⟩) N cp:=h0 5 rfl;clear he h0 hc hf hg;exact cM
        ·have e7:ev (.tmp 7)=.int .i64 ((j:Int)+1):=h0 7 rfl;clear he h0 hc hf hg;exact cM
        ·have e78:ev (.tmp 78)=.int .i64 ((j:Int)+1):=he 26 aA _ 78 rfl rfl;have hcc:=hc
         have hwj:IntKind.i64.wrap (j:Int)=(j:Int):=dL;clear he h0 hc hf hg;exact cM
        ·have e77:ev (.tmp 77)=.slice (some ⟨g,0,none⟩) N cp:=he 25 aA _ 77 rfl rfl;have e79:ev (.tmp 79)=.int .i64 j:=he 27 aA _ 79 rfl rfl
         have hb1:(j:Int)+1<(N:Int):=fV;have hb2:(j:Int)<(N:Int):=fV
         have hb3:¬(j:Int)+1<0:=aC;have hb4:¬(j:Int)<0:=aC
         clear he h0 hc hf hg;exact cM
        ·have e80:ev (.tmp 80)=.pointer (some ⟨g,j*2,none⟩):=he 28 aA _ 80 rfl rfl;clear he h0 hc hf hg;exact cM
        ·have e81:ev (.tmp 81)=.pointer (some ⟨g,j*2,none⟩):=he 29 aA _ 81 rfl rfl;have cc:W.cell? ⟨g,j*2,none⟩=some (.string pB):=((HB7.out.trans (hW.mono HB7.out.size)).cell (p:=⟨g,j*2,none⟩) HG.out).trans HPB.out
         clear he h0 hc hf hg;exact cM
        ·have e5:ev (.tmp 5)=.slice (some ⟨g,0,none⟩) N cp:=h0 5 rfl;clear he h0 hc hf hg;exact cM
        ·have e7:ev (.tmp 7)=.int .i64 ((j:Int)+1):=h0 7 rfl;clear he h0 hc hf hg;exact cM
        ·have e83:ev (.tmp 83)=.slice (some ⟨g,0,none⟩) N cp:=he 31 aA _ 83 rfl rfl;have e84:ev (.tmp 84)=.int .i64 ((j:Int)+1):=he 32 aA _ 84 rfl rfl
         have hb1:(j:Int)+1<(N:Int):=fV;have hb2:(j:Int)<(N:Int):=fV
         have hb3:¬(j:Int)+1<0:=aC;have hb4:¬(j:Int)<0:=aC
         clear he h0 hc hf hg;exact cM
        ·have e85:ev (.tmp 85)=.pointer (some ⟨g,(j+1)*2,none⟩):=he 33 aA _ 85 rfl rfl;clear he h0 hc hf hg;exact cM
        ·have e86:ev (.tmp 86)=.pointer (some ⟨g,(j+1)*2,none⟩):=he 34 aA _ 86 rfl rfl;have cc:W.cell? ⟨g,(j+1)*2,none⟩=some (.string kB):=(HCT.out W hW).1
         clear he h0 hc hf hg;exact cM
        ·have e82:ev (.tmp 82)=.string pB:=he 30 aA _ 82 rfl rfl;have e87:ev (.tmp 87)=.string kB:=he 35 aA _ 87 rfl rfl
         clear he h0 hc hf hg;exact cM
        ·have e76:ev (.tmp 76)=.bool true:=he 24 aA _ 76 rfl rfl;have e88:ev (.tmp 88)=.bool false:=he 36 aA _ 88 rfl rfl
         have hcc:=hc;clear he h0 hc hf hg;exact cM
        ·have e73:ev (.tmp 73)=.bool false:=he 21 aA _ 73 rfl rfl;have e89:ev (.tmp 89)=.bool false:=he 37 aA _ 89 rfl rfl
         have hcc:=hc;clear he h0 hc hf hg;exact cM
       intro γ L w8 hL hW;have HB8:Hid (Below w2.heap.size w2 w8):=hZ (HB7.out.trans (hW.mono HB7.out.size))
       clear hL hW hI0;simp only[nX,Act.put,List.setIfInBounds_toArray,List.set_cons_succ,List.set_cons_zero];go_wp2_with fail;refine⟨⟨j+1+1,aC,jH,HNX,HB8⟩,cN⟩
     ·have hee:(D==E)=false:=beq_eq_false_iff_ne.2 hde;have HDE:=hZ hde
      clear hde
      refine lQ (fun _:Unit=>[.bool true,.bool false,.bool false,.nilIface,.bool false,.bool false,.bool false,.agg (D.map lG).toArray,.agg (E.map lG).toArray,.bool true,.bool true,.bool true,undef,undef,undef,undef,undef,undef,undef,undef,.bool true,.bool true,undef,undef,undef,undef,undef,undef,undef,undef,undef,undef,undef,undef,undef,undef,undef,undef,.bool true]) (fun _ _ W=>Below W7.heap.size W7 W)
       [[],[0],[1],[2],[3,2],[2,4],[5,2],[6],[6],[7,8,6],[6,9],[10,6],[11],[11],[12,13,11],[14,11],[15,11],[11],[17,11,11],[16,18,11],[11,19],[20,18],[21],[22,21],[23,21,21],[24],[24],[26,24],[25,27,24],[28,24],[29,24],[24],[24],[31,32,24],[33,24],[34,24],[30,35,24],[24,36,21],[21,37]] 91 () mC rfl aE (fun _=>rfl) hI0 ?_ ?_
      ·refine⟨?_,?_,?_,?_,?_,?_,?_,?_,?_,?_,?_,?_,?_,?_,?_,?_,?_,?_,?_,?_,?_,?_,?_,?_,?_,?_,?_,?_,?_,?_,?_,?_,?_,?_,?_,?_,?_,?_,?_,rfl⟩
       all_goals intro L γ W ev hL hd hW hc hf hg he h0
       ·have e9:ev (.tmp 9)=.bool true:=h0 9 rfl;clear he h0 hc hf hg;exact cM
       ·have e52:ev (.tmp 52)=.bool true:=he 0 aA _ 52 rfl rfl;clear he h0 hc hf hg;exact cM
       ·have e53:ev (.tmp 53)=.bool false:=he 1 aA _ 53 rfl rfl;clear he h0 hc hf hg;exact cM
       ·have e11:ev (.tmp 11)=.nilIface:=h0 11 rfl;clear he h0 hc hf hg;exact cM
       ·have e55:ev (.tmp 55)=.nilIface:=he 3 aA _ 55 rfl rfl;have hcc:=hc
        clear he h0 hc hf hg;exact cM
       ·have e54:ev (.tmp 54)=.bool false:=he 2 aA _ 54 rfl rfl;have e56:ev (.tmp 56)=.bool false:=he 4 aA _ 56 rfl rfl
        have hcc:=hc;clear he h0 hc hf hg;exact cM
       ·have e57:ev (.tmp 57)=.bool false:=he 5 aA _ 57 rfl rfl;clear he h0 hc hf hg;exact cM
       ·have e10:ev (.tmp 10)=.pointer (some ⟨gb,0,none⟩):=h0 10 rfl;clear he h0 hc hg;have hlv:=run_loadVar_row (P:=Tryz.prog) W gb 33 33 (D.map lG).toArray (0,0) _ ((hW.block _ (lH HX7.out)).trans HX7.out) nD rfl (lX HDL.out)
        refine .inl ⟨rfl,.inl ⟨_,W,?_,.still (hW) rfl⟩⟩;unfold execOp;simp only[e10,Instr.loadAt,Instr.sureAddr,Sem.run_bind,Sem.run_pure,Result.andThen_ok,hlv]
        try rfl
       ·have e8:ev (.tmp 8)=.pointer (some ⟨wb,0,none⟩):=h0 8 rfl;clear he h0 hc hg;have hlv:=run_loadVar_row (P:=Tryz.prog) W wb 33 33 (E.map lG).toArray (0,0) _ ((hW.block _ (lH HY7.out)).trans HY7.out) nD rfl (lX HEL.out)
        refine .inl ⟨rfl,.inl ⟨_,W,?_,.still (hW) rfl⟩⟩;unfold execOp;simp only[e8,Instr.loadAt,Instr.sureAddr,Sem.run_bind,Sem.run_pure,Result.andThen_ok,hlv]
        try rfl
       ·have e59:ev (.tmp 59)=.agg (D.map lG).toArray:=he 7 aA _ 59 rfl rfl;have e60:ev (.tmp 60)=.agg (E.map lG).toArray:=he 8 aA _ 60 rfl rfl
        clear he h0 hc hg;have hq:=GQ W HDL.out HEL.out
        rw[hee]at hq;refine .inl ⟨rfl,.inl ⟨_,W,aD,.still (hW) rfl⟩⟩
       ·have e58:ev (.tmp 58)=.bool false:=he 6 aA _ 58 rfl rfl;have e61:ev (.tmp 61)=.bool true:=he 9 aA _ 61 rfl rfl
        have hcc:=hc;clear he h0 hc hf hg;exact cM
       ·have e62:ev (.tmp 62)=.bool true:=he 10 aA _ 62 rfl rfl;clear he h0 hc hf hg;exact cM
       ·exact aI
       ·exact aI
       ·exact aI
       ·exact aI
       ·exact aI
       ·exact aI
       ·exact aI
       ·exact aI
       ·have e63:ev (.tmp 63)=.bool true:=he 11 aA _ 63 rfl rfl;have e71:ev (.tmp 71)=undef:=he 19 aA _ 71 rfl rfl
        have hcc:=hc;clear he h0 hc hf hg;exact cM
       ·have e72:ev (.tmp 72)=.bool true:=he 20 aA _ 72 rfl rfl;clear he h0 hc hf hg;exact cM
       ·exact aI
       ·exact aI
       ·exact aI
       ·exact aI
       ·exact aI
       ·exact aI
       ·exact aI
       ·exact aI
       ·exact aI
       ·exact aI
       ·exact aI
       ·exact aI
       ·exact aI
       ·exact aI
       ·exact aI
       ·exact aI
       ·have e73:ev (.tmp 73)=.bool true:=he 21 aA _ 73 rfl rfl;have e89:ev (.tmp 89)=undef:=he 37 aA _ 89 rfl rfl
        have hcc:=hc;clear he h0 hc hf hg;exact cM
      intro γ L w8 hL hW;have HB8:Hid (Below w2.heap.size w2 w8):=hZ (HB7.out.trans (hW.mono HB7.out.size))
      clear hL hW hI0;simp only[nX,Act.put,List.setIfInBounds_toArray,List.set_cons_succ,List.set_cons_zero]
      have hRf:RB=false:=by
       rw[←HRB.out];refine decide_eq_false fun hh=>?_
       have h2:=mO HN.out.rise (List.mem_of_getElem? HX.out);rw[hh,HO.out,HOS.out]at h2;refine HDE.out ?_;rw[HED.out,Option.some.inj h2,HDC.out]
      subst hRf;go_wp2_with fail;go_ret;exact⟨rfl,HB2.out.trans (HB8.out.mono HB2.out.size)⟩
   ·obtain rfl:i=N:=by omega
    have he:LT=W:=Ju HN.out.rise HWR.out (fun x hx=>HJ.out x (by rw[List.take_of_length_le (by rw[HNN.out];exact Nat.le_refl _)];exact hx)) (HNN.out.trans HMM.out.symm);have hRt:RB=true:=by rw[←HRB.out];exact decide_eq_true he
    subst hRt;clear he;go_wp2_with fail;go_ret;exact⟨rfl,HB2.out.trans (HB.out.mono HB2.out.size)⟩
 ·have hne:(N:Int)≠M:=by omega
  have hRf:RB=false:=by
   rw[←HRB.out];refine decide_eq_false fun e=>hnm ?_
   rw[←HNN.out,←HMM.out,e]
  subst hRf;go_wp2_with (at_len;refine xI rfl _ rfl q W rfl HW2.out ?_;rw[HMM.out]);go_ret;exact gT
theorem K5{a b:ByteArray}(h:a≠b):a.data.toList≠b.data.toList:=fun e=>h (by
 cases a;cases b;exact congrArg ByteArray.mk (Array.toList_inj.1 e))
theorem An{fs:List Fil}(f g:Fil):(fs++[f]).set fs.length g=fs++[g]:=by
 rw[List.set_append_right _ _ (Nat.le_refl _),Nat.sub_self]
 rfl
theorem rW{fs:List Fil}(f:Fil):(fs++[f])[fs.length]! =f:=by
 rw[getElem!_pos (fs++[f]) fs.length cY,List.getElem_append_right (Nat.le_refl _)];simp
theorem vF{fs:List Fil}(f:Fil){i:Nat}(h:i<fs.length):(fs++[f])[i]! =fs[i]!:=by
 rw[getElem!_pos (fs++[f]) i (by rw[List.length_append];omega),getElem!_pos fs i h,List.getElem_append_left h]
theorem Bl:oA handR=true:=aA
theorem Dw{l:Tab}{k:Bs}(h:lS l k=none):nF l k=l:=by
 unfold nF;rw[List.filter_eq_self];intro p hp;have:=qL.1 h p hp
 simp[this]
theorem Dx{l:Tab}{k:Bs}{b:Nat}(hr:mF l)(h:lS l k=none):nF (oJ l k b) k=l:=by
 refine BC (nY (nP hr)) hr fun j=>?_
 rw[pI (nP hr),oC hr];by_cases e:j=k
 ·rw[if_pos e,e,h]
 ·rw[if_neg e,if_neg e]
theorem AP(fs:List Fil)(x:Bs×Nat):∀l:Tab,lU fs (tQ x l)=fs[x.2]!.data.size+lU fs l
 |[]=>rfl
 |y::r=>by
  unfold tQ;split
  ·rfl
  ·rw[lU,AP fs x r,lU];omega
theorem AQ{fs:List Fil}(f:Fil):∀{l:Tab},(∀p∈l,p.2<fs.length)→lU (fs++[f]) l=lU fs l
 |[],_=>rfl
 |p::r,h=>by
  rw[lU,lU,AQ f (fun q hq=>h q (List.mem_cons_of_mem _ hq)),vF f (h p List.mem_cons_self)]
theorem K6{m:DM}(hc:m.Calm)(hr:mF m.now)(hi:∀p∈m.now,p.2<m.files.length)(hh:lS m.now handR.data.toList=none)(name t:ByteArray)(hn:oA name=true)(hne:name≠handR):
  ∃m',m'.Calm∧m'.room=m.room∧((m.room<m.used+t.size∧qR m name t=(m',28)∧m'.now=m.now∧m'.files=m.files++[⟨⟨#[]⟩,0⟩])∨
   (m.used+t.size≤m.room∧qR m name t=(m',0)∧m'.now=oJ m.now name.data.toList m.files.length∧∃k,m'.files=m.files++[⟨t,k⟩])):=by
 obtain⟨off,room,files,now,safe,pend,armed,keep⟩:=m;obtain⟨h1,h2⟩:=hc;simp only at h1 h2 hr hi hh;subst h1 h2;have hnone:(⟨false,room,files,now,safe,pend,0,keep⟩:DM).get handR=none:=hh
 have e0:qQ ⟨false,room,files,now,safe,pend,0,keep⟩=(⟨false,room,files,now,safe,pend,0,keep⟩,0):=by
  have hrd:(⟨false,room,files,now,safe,pend,0,keep⟩:DM).reads handR=(⟨#[]⟩,10):=by
   unfold DM.reads;rw[if_neg (fun h=>aK),hnone]
  unfold qQ;rw[hrd]
  rfl
 obtain⟨m1,hm1⟩:∃x:DM,x=⟨false,room,files++[⟨⟨#[]⟩,0⟩],oJ now handR.data.toList files.length,safe,pend++[.create handR files.length],0,keep⟩:=⟨_,rfl⟩
 have e1:(⟨false,room,files,now,safe,pend,0,keep⟩:DM).op (.create handR)=(m1,0):=by
  rw[DM.Calm.op_eq ⟨rfl,rfl⟩]
  have hf:(⟨false,room,files,now,safe,pend,0,keep⟩:DM).refused (.create handR)=0:=by
   rw[yA,if_pos Bl,hnone]
   rfl
  rw[hf,if_neg aA,hm1]
  rfl
 have hr1:mF (oJ now handR.data.toList files.length):=nP hr;have hg1:lS (oJ now handR.data.toList files.length) handR.data.toList=some files.length:=by rw[oC hr,if_pos rfl]
 have c1:m1.Calm:=by rw[hm1];exact⟨rfl,rfl⟩
 have g1:m1.get handR=some files.length:=by rw[hm1];exact hg1
 have u1:m1.used=lU files now:=by
  rw[hm1];show lU (files++[⟨⟨#[]⟩,0⟩]) (tQ (handR.data.toList,files.length) (nF now handR.data.toList))=_
  rw[AP,Dw hh,AQ _ hi,rW];show 0+_=_
  omega
 have ur:m1.room=room:=by rw[hm1]
 have hdt:=Dx (b:=files.length) hr hh;unfold qR;rw[lN _ e0,lN _ e1];by_cases hfull:m1.used+t.size>m1.room
 ·have e2:m1.op (.write handR t)=(m1,28):=by
   rw[c1.op_eq]
   have hf:m1.refused (.write handR t)=28:=by
    rw[sQ,g1];exact(if_pos rfl).trans (if_pos hfull)
   rw[hf]
   rfl
  obtain⟨m2,hm2⟩:∃x:DM,x=⟨false,room,files++[⟨⟨#[]⟩,0⟩],now,safe,pend++[.create handR files.length]++[.remove handR],0,keep⟩:=⟨_,rfl⟩
  have e3:m1.op (.remove handR)=(m2,0):=by
   rw[c1.op_eq]
   have hf:m1.refused (.remove handR)=0:=by
    rw[pK,g1]
    rfl
   rw[hf,if_neg aA,hm1,hm2];show((⟨false,room,files++[⟨⟨#[]⟩,0⟩],nF (oJ now handR.data.toList files.length) handR.data.toList,safe,pend++[.create handR files.length]++[.remove handR],0,keep⟩:DM),(0:Int))=_
   rw[hdt]
  have c2:m2.Calm:=by rw[hm2];exact⟨rfl,rfl⟩
  have e4:m2.op .flush=(m2.act .flush,0):=by rw[c2.op_eq];rfl
  refine⟨m2.act .flush,c2.act .flush,by rw[hm2];rfl,.inl ⟨?_,?_,by rw[hm2];rfl,by rw[hm2];rfl⟩⟩
  ·rw[u1,ur]at hfull;exact hfull
  ·rw[uO e2];unfold qF;rw[lN _ e3,e4]
 ·obtain⟨m2,hm2⟩:∃x:DM,x=⟨false,room,files++[⟨⟨#[]⟩++t,0⟩],oJ now handR.data.toList files.length,safe,pend++[.create handR files.length],0,keep⟩:=⟨_,rfl⟩
  have e2:m1.op (.write handR t)=(m2,0):=by
   rw[c1.op_eq]
   have hf:m1.refused (.write handR t)=0:=by
    rw[sQ,g1];exact(if_pos rfl).trans (if_neg hfull)
   rw[hf,if_neg aA];rw[zK,g1];show((_:DM),(0:Int))=_
   rw[hm1,hm2];refine congrArg (fun fs=>((⟨false,room,fs,oJ now handR.data.toList files.length,safe,pend++[.create handR files.length],0,keep⟩:DM),(0:Int))) ?_;rw[An,rW]
  have g2:m2.get handR=some files.length:=by rw[hm2];exact hg1
  have c2:m2.Calm:=by rw[hm2];exact⟨rfl,rfl⟩
  obtain⟨m3,hm3⟩:∃x:DM,x=⟨false,room,files++[⟨⟨#[]⟩++t,(⟨#[]⟩++t:ByteArray).size⟩],oJ now handR.data.toList files.length,safe,pend++[.create handR files.length],0,keep⟩:=⟨_,rfl⟩
  have e3:m2.op (.sync handR)=(m3,0):=by
   rw[c2.op_eq]
   have hf:m2.refused (.sync handR)=0:=by
    rw[Ah,g2]
    rfl
   rw[hf,if_neg aA];rw[AH,g2];show((_:DM),(0:Int))=_
   rw[hm2,hm3];refine congrArg (fun fs=>((⟨false,room,fs,oJ now handR.data.toList files.length,safe,pend++[.create handR files.length],0,keep⟩:DM),(0:Int))) ?_;rw[An,rW]
  have g3:m3.get handR=some files.length:=by rw[hm3];exact hg1
  have c3:m3.Calm:=by rw[hm3];exact⟨rfl,rfl⟩
  obtain⟨m4,hm4⟩:∃x:DM,x=⟨false,room,files++[⟨⟨#[]⟩++t,(⟨#[]⟩++t:ByteArray).size⟩],oJ now name.data.toList files.length,safe,pend++[.create handR files.length]++[.rename handR name],0,keep⟩:=⟨_,rfl⟩
  have e4:m3.op (.rename handR name)=(m4,0):=by
   rw[c3.op_eq]
   have hf:m3.refused (.rename handR name)=0:=by
    rw[yB,g3];exact(if_pos rfl).trans (if_pos hn)
   rw[hf,if_neg aA,hm3,hm4];rw[Bg];unfold DM.names DOp.act;show((_:DM),(0:Int))=_
   simp only[hg1,hdt]
  have c4:m4.Calm:=by rw[hm4];exact⟨rfl,rfl⟩
  have e5:m4.op .flush=(m4.act .flush,0):=by rw[c4.op_eq];rfl
  refine⟨m4.act .flush,c4.act .flush,by rw[hm4];rfl,.inr ⟨?_,?_,by rw[hm4];rfl,(⟨#[]⟩++t:ByteArray).size,?_⟩⟩
  ·rw[u1,ur]at hfull;show lU files now+_≤room
   omega
  ·rw[pO e2,lN _ e3,lN _ e4,e5]
  ·rw[hm4];show files++[⟨⟨#[]⟩++t,_⟩]=_
   rw[show(⟨#[]⟩++t:ByteArray)=t from ByteArray.empty_append]
theorem K7(h a b:Bs):bytesBefore (h++a) (h++b)=bytesBefore a b:=by
 induction h with
 |nil=>rfl
 |cons x r ih=>
  rw[List.cons_append,List.cons_append,bytesBefore,ih];simp
theorem FV(h u:Bs)(i c:Nat):∀(t l:Tab),t.map (·.1)=l.map (fun p=>h++p.1)→(tQ (h++u,i) t).map (·.1)=(tQ (u,c) l).map (fun p=>h++p.1)
 |[],[],_=>rfl
 |[],_::_,e=>aO
 |_::_,[],e=>aO
 |x::r,y::s,e=>by
  have e1:x.1=h++y.1:=(List.cons.inj e).1;have e2:=(List.cons.inj e).2
  unfold tQ
  have hb:bytesBefore (h++u,i).1 x.1=bytesBefore (u,c).1 y.1:=by
   rw[e1];exact K7 h u y.1
  rw[hb];split
  ·rw[List.map_cons,List.map_cons,List.map_cons,List.map_cons,e1];exact congrArg _ (congrArg _ e2)
  ·rw[List.map_cons,List.map_cons,FV h u i c r s e2,e1]
theorem FX(h u:Bs):∀(t l:Tab),t.map (·.1)=l.map (fun p=>h++p.1)→(nF t (h++u)).map (·.1)=(nF l u).map (fun p=>h++p.1)
 |[],[],_=>rfl
 |[],_::_,e=>aO
 |_::_,[],e=>aO
 |x::r,y::s,e=>by
  have e1:x.1=h++y.1:=(List.cons.inj e).1;have e2:=FX h u r s (List.cons.inj e).2
  unfold nF at e2⊢
  have hb:(x.1==h++u)=(y.1==u):=by
   rw[e1,Bool.eq_iff_iff,beq_iff_eq,beq_iff_eq];exact⟨fun e=>List.append_cancel_left e,fun e=>by rw[e]⟩
  rw[List.filter_cons,List.filter_cons,hb];split
  ·rw[List.map_cons,List.map_cons,e1];exact congrArg _ e2
  ·exact e2
theorem K8(h u:Bs)(i c:Nat){t l:Tab}(e:t.map (·.1)=l.map (fun p=>h++p.1)):(oJ t (h++u) i).map (·.1)=(oJ l u c).map (fun p=>h++p.1):=FV h u i c _ _ (FX h u t l e)
structure Only (m:DM) (l:Tab):Prop where
 calm:m.Calm
 now:mF m.now
 ids:∀p∈m.now,p.2<m.files.length
 rise:mF l
 keys:m.now.map (·.1)=l.map (fun p=>refHead++p.1)
 data:∀p∈l,∀i,lS m.now (refHead++p.1)=some i→m.files[i]!.data=nA (rS p.2)
 full:∀p∈l,nO p.1=some p.1
 code:∀p∈l,p.2=mR (rS p.2)
section
variable {m:DM} {l:Tab}
theorem Only.len(h:Only m l):m.now.length=l.length:=by
 have:=congrArg List.length h.keys;rw[List.length_map,List.length_map]at this;exact this
theorem Only.head(h:Only m l){p:Bs×Nat}(hp:p∈m.now):∃x∈l,p.1=refHead++x.1:=by
 have h1:p.1∈l.map (fun p=>refHead++p.1):=by rw[←h.keys];exact List.mem_map_of_mem hp
 obtain⟨x,hx,e⟩:=List.mem_map.1 h1;exact⟨x,hx,e.symm⟩
theorem Only.look(h:Only m l){x:Bs×Nat}(hx:x∈l):∃i,lS m.now (refHead++x.1)=some i∧m.files[i]!.data=nA (rS x.2):=by
 have h1:refHead++x.1∈m.now.map (·.1):=by rw[h.keys];exact List.mem_map.2 ⟨x,hx,rfl⟩
 obtain⟨p,hp,e⟩:=List.mem_map.1 h1;have h2:lS m.now (refHead++x.1)=some p.2:=mO h.now (by rw[←e];exact hp)
 exact⟨p.2,h2,h.data x hx _ h2⟩
theorem Only.reads(h:Only m l){x:Bs×Nat}(hx:x∈l):m.reads (nR x.1)=(nA (rS x.2),0):=by
 obtain⟨i,h1,h2⟩:=h.look hx;have hg:m.get (nR x.1)=some i:=h1
 unfold DM.reads;rw[if_neg iJ,hg];show(m.files[i]!.data,(0:Int))=_
 rw[h2]
theorem Only.lists(h:Only m l):m.lists ⟨refHead.toArray⟩=l.map (fun p=>nR p.1):=by
 unfold DM.lists;rw[if_neg iJ]
 have hf:m.now.filter (mY ⟨refHead.toArray⟩)=m.now:=by
  rw[List.filter_eq_self];intro p hp;obtain⟨x,-,e⟩:=h.head hp;unfold mY;rw[e];show List.isPrefixOf refHead (refHead++x.1)=true
  rw[List.isPrefixOf_iff_prefix];exact List.prefix_append _ _
 rw[hf];have h1:m.now.map mP=(m.now.map (·.1)).map (fun k=>(⟨k.toArray⟩:ByteArray)):=by rw[List.map_map];rfl
 rw[h1,h.keys,List.map_map]
 rfl
theorem AR(u:Bs):nS (nR u)=u:=by
 unfold nS;have h1:(nR u).data.toList=refHead++u:=rfl
 rw[h1,if_pos (by rw[List.take_append_of_le_length aA];rfl),List.drop_append_of_le_length aA]
 rfl
theorem Only.names(h:Only m l):∀r:Tab,(∀p∈r,p∈l)→nL m (r.map (fun p=>nR p.1))=some (r.map K4)
 |[],_=>rfl
 |p::r,hr=>by
  have hp:=hr p List.mem_cons_self;rw[List.map_cons,nL]
  have h1:qP (nR p.1)=true:=by
   unfold qP;rw[AR,h.full p hp];exact beq_self_eq_true _
  rw[if_pos h1,h.reads hp,tI _ (uG _),Only.names h r (fun q hq=>hr q (List.mem_cons_of_mem _ hq)),AR]
  rfl
theorem Only.named(h:Only m l):NamesT m l:=by
 refine⟨h.rise,?_,fun p hp=>?_,h.code,fun p hp=>(pD (h.full p hp)).2.1⟩
 ·unfold sB;rw[if_neg iJ,h.lists,h.names l (fun _ hp=>hp)]
 ·unfold wY;rw[h.full p hp];show DW m p.1=_
  unfold DW;rw[h.reads hp,if_neg (fun e=>e rfl),tI _ (uG _)]
theorem FY(fs:List Fil):∀t:Tab,(∀p∈t,fs[p.2]!.data.size=71)→lU fs t=71*t.length
 |[],_=>rfl
 |p::r,h=>by
  rw[lU,h p List.mem_cons_self,FY fs r (fun q hq=>h q (List.mem_cons_of_mem _ hq)),List.length_cons];omega
theorem Only.used(h:Only m l):m.used=71*l.length:=by
 unfold DM.used;rw[if_neg iJ,FY _ _ (fun p hp=>?_),h.len];obtain⟨x,hx,e⟩:=h.head hp;rw[h.data x hx p.2 (by rw[←e];exact mO h.now hp)];exact wB (uG _)
theorem Only.hand(h:Only m l):lS m.now handR.data.toList=none:=by
 rw[qL];intro p hp e;obtain⟨x,-,e2⟩:=h.head hp;rw[e]at e2;have:=congrArg List.head? e2
 cases this
theorem Only.tmp(h:Only m l):m.lists ⟨#[116,109,112,47]⟩=[]:=by
 unfold DM.lists;split
 ·rfl
 ·have hf:m.now.filter (mY ⟨#[116,109,112,47]⟩)=[]:=by
   rw[List.filter_eq_nil_iff];intro p hp;obtain⟨x,-,e⟩:=h.head hp;unfold mY;rw[e];show¬List.isPrefixOf [116,109,112,47] (refHead++x.1)=true
   simp[refHead,List.isPrefixOf]
  rw[hf]
  rfl
theorem Cj{u:Bs}(h:u.length≤96):oA (nR u)=true:=by
 unfold oA;rw[pY];simp only[Bool.and_eq_true,decide_eq_true_eq];omega
theorem Dy(u:Bs):nR u≠handR:=by
 intro h
 have h1:(refHead++u).head?=some 116:=by
  have:=congrArg (fun b:ByteArray=>b.data.toList.head?) h;exact this
 cases h1
theorem Only.set(h:Only m l){u:Bs}(hu:nO u=some u){D:List UInt8}(hD:D.length=32):
  (m.room<71*l.length+71∧∃m',qR m (nR u) (nA D)=(m',28)∧m'.room=m.room∧Only m' l)∨
   (71*l.length+71≤m.room∧∃m',qR m (nR u) (nA D)=(m',0)∧m'.room=m.room∧Only m' (oJ l u (mR D))):=by
 have hul:=(pD hu).2.1;obtain⟨m',c',hroom,hs⟩:=K6 h.calm h.now h.ids h.hand (nR u) (nA D) (Cj hul) (Dy u);rw[h.used,wB hD]at hs;rcases hs with⟨h1,h2,h3,h4⟩|⟨h1,h2,h3,k,h4⟩
 ·refine .inl ⟨h1,m',h2,hroom,⟨c',by rw[h3];exact h.now,fun p hp=>?_,h.rise,by rw[h3];exact h.keys,fun p hp i hi=>?_,h.full,h.code⟩⟩
  ·rw[h3]at hp;rw[h4,List.length_append];have:=h.ids p hp
   omega
  ·rw[h3]at hi;rw[h4,vF _ (h.ids _ (mW hi))];exact h.data p hp i hi
 ·have hkd:(nR u).data.toList=refHead++u:=rfl;rw[hkd]at h3;refine .inr ⟨h1,m',h2,hroom,⟨c',by rw[h3];exact nP h.now,fun p hp=>?_,nP h.rise,by rw[h3];exact K8 _ _ _ _ h.keys,fun p hp i hi=>?_,fun p hp=>?_,fun p hp=>?_⟩⟩
  ·rw[h3]at hp;rw[h4,List.length_append,List.length_singleton];rcases nZ.1 hp with rfl|⟨hp,-⟩
   ·show m.files.length<_;omega
   ·have:=h.ids p hp;omega
  ·rw[h3,oC h.now]at hi;rcases nZ.1 hp with rfl|⟨hp,hne⟩
   ·rw[if_pos rfl]at hi;cases hi;rw[h4,rW,sX hD]
   ·rw[if_neg (fun e=>hne (List.append_cancel_left e))]at hi;rw[h4,vF _ (h.ids _ (mW hi))];exact h.data p hp i hi
  ·rcases nZ.1 hp with rfl|⟨hp,-⟩
   ·exact hu
   ·exact h.full p hp
  ·rcases nZ.1 hp with rfl|⟨hp,-⟩
   ·show mR D=mR (rS (mR D));rw[sX hD]
   ·exact h.code p hp
end
theorem K9(r:Int):Only (DM.new r) []:=⟨⟨rfl,rfl⟩,List.Pairwise.nil,fun _ h=>aK,List.Pairwise.nil,rfl,fun _ h=>aK,fun _ h=>aK,fun _ h=>aK⟩
theorem Rf.swap{w w1 w2:World}{S P:Nat→Prop}{rb a n:Nat}{m:DM}(h:Rf w S P rb a w1 n m)(hb:Below w1.heap.size w1 w2)(Q:Nat→Prop)(hrb:Q rb)(hQ:∀b,Q b→P b∨(w1.heap.size≤b∧b<w2.heap.size)):Rf w S Q rb a w2 n m:=
 ⟨h.st.bel hb Q hQ,(h.st.same hb rb h.pb).trans h.box,hrb⟩
theorem ID{w w1:World}{S P:Nat→Prop}{a n:Nat}{m:DM}(h:St w S P a w1 n m)(hn:n≤4000000000):Calls Tryz.prog 14 #[.pointer (some ⟨a,0,none⟩)] w1 fun e w'=>e=.returned (.int .i64 m.used)∧Below w1.heap.size w1 w':=by
 obtain⟨⟨S1,hd,-⟩,-⟩:=h;exact Gr hd (Ae hd.ok hn)
structure AlnW (w:World) (P:Nat→Prop) (a n':Nat) (m':DM) (W1:World) (L:Nat→Bool) (_:ByteArray) (W:World):Prop where
 lo:L 6=false→Below W1.heap.size W1 W
 hi:L 6=true→St w (fun _=>False) P a W n' m'∧SameP P W1 W
 dep:L 6=true→L 0=true∧L 4=true∧L 5=true
 d4:L 4=true→L 3=true
 d3:L 3=true→L 1=true∧L 2=true
 d7:L 7=true→L 6=true
section
variable {w:World} {P:Nat→Prop} {a n':Nat} {m':DM} {W1 W W':World} {L:Nat→Bool} {γ γ':ByteArray}
theorem pW{i k:Nat}(h:L k=true):mQ L i k=true:=oR h
theorem AlnW.early{i:Nat}(h:AlnW w P a n' m' W1 L γ W)(hi:i<3∨i=5):AlnW w P a n' m' W1 (mQ L i) γ W:=by
 have e:∀k,k≠i→mQ L i k=L k:=fun k hk=>mB hk
 have e6:=e 6 aC;have e4:=e 4 aC
 have e3:=e 3 aC;have e7:=e 7 aC
 refine⟨fun x=>h.lo (e6▸x),fun x=>h.hi (e6▸x),fun x=>?_,fun x=>?_,fun x=>?_,fun x=>?_⟩
 ·obtain⟨h1,h2,h3⟩:=h.dep (e6▸x);exact⟨pW h1,pW h2,pW h3⟩
 ·exact pW (h.d4 (e4▸x))
 ·obtain⟨h1,h2⟩:=h.d3 (e3▸x);exact⟨pW h1,pW h2⟩
 ·exact pW (h.d7 (e7▸x))
theorem AlnW.three(h:AlnW w P a n' m' W1 L γ W)(h1:L 1=true)(h2:L 2=true):AlnW w P a n' m' W1 (mQ L 3) γ W:=by
 have e6:mQ L 3 6=L 6:=mB aA;have e7:mQ L 3 7=L 7:=mB aA
 refine⟨fun x=>h.lo (e6▸x),fun x=>h.hi (e6▸x),fun x=>?_,fun x=>nV,fun x=>⟨pW h1,pW h2⟩,fun x=>pW (h.d7 (e7▸x))⟩;obtain⟨a1,a2,a3⟩:=h.dep (e6▸x);exact lE
theorem AlnW.four(h:AlnW w P a n' m' W1 L γ W)(h3:L 3=true):AlnW w P a n' m' W1 (mQ L 4) γ W:=by
 have e6:mQ L 4 6=L 6:=mB aA;have e7:mQ L 4 7=L 7:=mB aA
 have e3:mQ L 4 3=L 3:=mB aA;refine⟨fun x=>h.lo (e6▸x),fun x=>h.hi (e6▸x),fun x=>?_,fun x=>pW h3,fun x=>?_,fun x=>pW (h.d7 (e7▸x))⟩
 ·obtain⟨a1,a2,a3⟩:=h.dep (e6▸x);exact lE
 ·obtain⟨a1,a2⟩:=h.d3 (e3▸x);exact⟨pW a1,pW a2⟩
theorem AlnW.did(h:AlnW w P a n' m' W1 L γ W)(h0:L 0=true)(h4:L 4=true)(h5:L 5=true)(hs:St w (fun _=>False) P a W' n' m')(hk:SameP P W1 W'):AlnW w P a n' m' W1 (mQ L 6) γ' W':=by
 have e4:mQ L 6 4=L 4:=mB aA;have e3:mQ L 6 3=L 3:=mB aA
 refine⟨fun e=>(by rw[nV]at e;cases e),fun _=>⟨hs,hk⟩,fun _=>⟨pW h0,pW h4,pW h5⟩,fun x=>pW (h.d4 (e4▸x)),fun x=>?_,fun _=>nV⟩;obtain⟨a1,a2⟩:=h.d3 (e3▸x);exact⟨pW a1,pW a2⟩
theorem AlnW.end'(h:AlnW w P a n' m' W1 L γ W)(h6:L 6=true):AlnW w P a n' m' W1 (mQ L 7) γ W:=by
 have e:∀k,k≠7→mQ L 7 k=L k:=fun k hk=>mB hk
 refine⟨fun x=>h.lo ((e 6 aA)▸x),fun x=>h.hi ((e 6 aA)▸x),fun x=>?_,fun x=>pW (h.d4 ((e 4 aA)▸x)),fun x=>?_,fun _=>pW h6⟩
 ·obtain⟨a1,a2,a3⟩:=h.dep ((e 6 aA)▸x);exact lE
 ·obtain⟨a1,a2⟩:=h.d3 ((e 3 aA)▸x);exact⟨pW a1,pW a2⟩
theorem AlnW.no{k:Nat}(h:AlnW w P a n' m' W1 L γ W)(hk:L k=false)(h3:k=0∨k=3∨k=4∨k=5∨k=6):L 6=false:=by
 cases e:L 6 with
 |false=>rfl
 |true=>
  obtain⟨a1,a2,a3⟩:=h.dep e;rcases h3 with rfl|rfl|rfl|rfl|rfl
  ·rw[hk]at a1;cases a1
  ·have:=h.d4 a2;rw[hk]at this;cases this
  ·rw[hk]at a2;cases a2
  ·rw[hk]at a3;cases a3
  ·rw[hk]at e;cases e
end
theorem Jv(w:World)(hG:ErrT w)(p:Option Addr)(cap:Nat)(L:List ByteArray)(hT:TextsRd w (.slice p L.length cap) L)(hL:L.length≤8800000000000)(hLs:∀s∈L,s.size≤140737488351232)(D:List UInt8)(hD:D.length=32):
  Calls Tryz.prog 4 #[.slice p L.length cap,nH D] w fun e w'=>e=.returned (.bool true)∧Below w.heap.size w w':=by
 have HG:=hZ hG;have HTT:=hZ hT
 have HLS:=hZ hLs;have HDL:=hZ hD
 have hI:=oM hD;have hU:=nD
 obtain⟨N,hN⟩:∃N,L.length=N:=⟨_,rfl⟩
 have HN:=hZ hN;rw[hN]at hL HTT⊢;have hmm:=@run_makeMap Tryz.prog
 obtain⟨W0,hW0⟩:∃W,w.alloc (.cells (D.map lG).toArray 33)=W:=⟨_,rfl⟩
 have hb0:Below w.heap.size w W0:=aN;have hx0:W0.heap[w.heap.size]?=some (.cells (D.map lG).toArray 33 (0,0)):=by rw[←hW0];exact lP _ _
 have HB0:=hZ hb0;have HX0:=hZ hx0
 have HZ0:Hid (W0.heap.size=w.heap.size+1):=hZ (by rw[←hW0,World.size_alloc]);unfold nH;clear hG hT hLs hD hN hb0 hx0;go_enter Tryz.func4,Tryz.ntmps4;go_wp2_with fail;go_loopw [5,6] (fun nv iv wr=>∃(i c:Nat),(i:Int)≤N∧iv=.int .i64 i∧nv=.int .i64 c∧(c:Int)≤140737488551232∧wr.heap=W0.heap∧Hid (Below w.heap.size w wr)) (fun _ iv _=>N-(intOf iv).toNat)
 case atStart=>exact⟨0,0,aC,rfl,rfl,aC,rfl,HB0⟩
 case round=>
  obtain⟨i,c,hi,rfl,rfl,hc,hh,HB⟩:=hrel;have HH:=hZ hh
  clear hh;by_cases hgo:(i:Int)<N∧(c:Int)≤65536
  ·obtain⟨hlt,hc6⟩:=hgo;have hil:i<L.length:=gR
   obtain⟨s,hs⟩:∃s,L[i]?=some s:=⟨_,List.getElem?_eq_getElem hil⟩
   have hss:=HLS.out s (List.mem_of_getElem? hs);obtain⟨p',cap',he,hv⟩:=HTT.out;obtain⟨vb,vo,hvp,hvl,hvc⟩:=hv i s hs;have hpe:p=some ⟨vb,vo,none⟩:=dN
   subst hpe;have hc0:wr.cell? ⟨vb,vo+i,none⟩=some (.string s):=(HB.out.cell (p:=⟨vb,vo+i,none⟩) hvl).trans hvc
   have hsi:(s.size:Int)≤140737488351232:=aC;clear hil hs he hv hvp hvl hvc;go_wp2_with fail;exact⟨⟨i+1,c+s.size,aC,aG,by rw[Int.natCast_add],aC,HH.out,hZ ⟨HB.out.os,HB.out.tape,HB.out.output,HB.out.size,HB.out.block⟩⟩,cN⟩
  ·by_cases hbad:(N:Int)>60∨(c:Int)>65536
   ·rcases (show(N:Int)≤i∨((i:Int)<N∧65536<(c:Int)) by omega)with h1|⟨h1,h2⟩<;>rcases (show 60<(N:Int)∨((N:Int)≤60∧65536<(c:Int)) by omega)with h3|⟨h3,h4⟩
    all_goals
     go_wp2_with fail;go_ret;exact⟨rfl,HB.out⟩
   ·have h1:(N:Int)≤60:=by omega
    have h2:(c:Int)≤65536:=aC;have h3:(N:Int)≤i:=aC
    obtain⟨WB,hWB⟩:∃W,W=wr:=⟨_,rfl⟩
    have HWZ:Hid (WB.heap.size=w.heap.size+1):=hZ (by rw[hWB,HH.out];exact HZ0.out);have HXB:Hid (WB.heap[w.heap.size]?=some (.cells (D.map lG).toArray 33 (0,0))):=hZ (by rw[hWB,HH.out];exact HX0.out)
    rw[←hWB]at HB⊢;clear hgo hbad hWB;go_wp2_with fail;refine(Hn w WB HB.out 213 aA aA).mono ?_;rintro e w1 ⟨a,rfl,hst,hb1⟩;have HST:=hZ hst
    have HX1:Hid (w1.heap[w.heap.size]?=some (.cells (D.map lG).toArray 33 (0,0))):=hZ ((hb1.block _ iY).trans HXB.out);clear hst hb1;go_wp2_with fail;refine(wF HST.out aA (fun s hs=>by cases hs)).mono ?_;rintro e w2 ⟨v,rfl,h,hk⟩;rw[show mX (DM.new 213)=(DM.new 213,0)from rfl]at h;rcases h with⟨-,rb,rfl,hsb,hrf⟩|⟨hne,-⟩
    case inr=>exact absurd rfl hne
    have HR2:=hZ hrf;have HX2:Hid (w2.heap[w.heap.size]?=some (.cells (D.map lG).toArray 33 (0,0))):=hZ ((hk _ iY).trans HX1.out)
    clear hk hsb hrf HST HX1;go_wp2_with fail
    obtain⟨q0,hq0⟩:∃q,w2.heap.size=q:=⟨_,rfl⟩
    obtain⟨W3,hW3⟩:∃W,w2.alloc (.map #[] 0)=W:=⟨_,rfl⟩
    have hb3:Below w2.heap.size w2 W3:=cK;have HR3:Hid (Rf w (fun _=>False) (fun b=>(b<WB.heap.size∨b=rb)∨b=q0) rb a W3 (0+0+1) (DM.new 213)):=hZ (HR2.out.swap hb3 _ (.inl (.inr rfl)) (fun b hb=>hb.elim .inl (fun e=>.inr ⟨aC,by rw[←hW3,World.size_alloc];omega⟩)))
    have HX3:Hid (W3.heap[w.heap.size]?=some (.cells (D.map lG).toArray 33 (0,0))):=hZ ((hb3.block _ (lH HX2.out)).trans HX2.out);have HL3:Hid (LedAt W3 q0 []):=hZ (by rw[←hq0,←hW3];exact World.ownsMap_made w2 _ _ _)
    rw[hq0,hW3];clear hb3 hq0 hW3 HR2 HX2;go_loopw [10,11] (fun mv iv wr=>∃(i q n:Nat) (m:DM) (l:Tab),(i:Int)≤N∧iv=.int .i64 i∧mv=.map (some q)∧n≤1+7*i∧Hid (Rf w (fun _=>False) (fun b=>(b<WB.heap.size∨b=rb)∨b=q) rb a wr n m)∧Hid (wr.heap[w.heap.size]?=some (.cells (D.map lG).toArray 33 (0,0)))∧Hid (LedAt wr q l)∧Hid (Only m l∧m.room=213)∧l.length≤3) (fun _ iv _=>N-(intOf iv).toNat)
    case atStart=>exact⟨0,q0,1,DM.new 213,[],aC,rfl,rfl,aC,HR3,HX3,HL3,hZ ⟨K9 213,rfl⟩,by show 0≤3;omega⟩
    case round=>
     obtain⟨i,q,n,m,l,hi2,rfl,rfl,hn,HR,HX,HL,HO,hl3⟩:=hrel;by_cases hlt:(i:Int)<N
     ·have hil:i<L.length:=by rw[HN.out];omega
      obtain⟨s,hs⟩:∃s,L[i]?=some s:=⟨_,List.getElem?_eq_getElem hil⟩
      have hss:=HLS.out s (List.mem_of_getElem? hs);obtain⟨p',cap',he,hv⟩:=HTT.out;obtain⟨vb,vo,hvp,hvl,hvc⟩:=hv i s hs;have hpe:p=some ⟨vb,vo,none⟩:=dN
      subst hpe;have HVC:Hid (∀W,Below w.heap.size w W→W.cell? ⟨vb,vo+i,none⟩=some (.string s)):=hZ (fun W hb=>(hb.cell (p:=⟨vb,vo+i,none⟩) hvl).trans hvc)
      have hc0:=HVC.out wr HR.out.st.toB;have hsi:(s.size:Int)≤140737488351232:=aC
      have hfu:=fun W:World=>rZ s aC W
      unfold vG lV at hfu;have hff:=fun u h=>pD (s:=s.data.toList) (u:=u) h
      clear hil hs he hv hvp hvl hvc
      cases hf:nO s.data.toList with
      |none=>
       rw[hf]at hfu;have hfu2:∀W:World,Calls Tryz.prog 9 #[.string s] W fun e w'=>e=.returned (.tuple #[.string ⟨#[]⟩,.iface 132 (.agg #[.string rY,.iface 71 (.int .i64 31)])])∧Below W.heap.size W w':=hfu
       clear hfu hf hff;go_wp2_with (go_at_call 9;refine(hfu2 _).mono ?_;rintro e w4 ⟨rfl,hb4⟩;have HR4:=hZ (HR.out.bel hb4);have HX4:Hid (w4.heap[w.heap.size]?=some (.cells (D.map lG).toArray 33 (0,0))):=hZ ((hb4.block _ (lH HX.out)).trans HX.out);have HL4:=hZ (HL.out.below hb4);clear hb4);exact⟨⟨i+1,q,n,m,l,aC,aG,rfl,aC,HR4,HX4,HL4,HO,hl3⟩,cN⟩
      |some u=>
       rw[hf]at hfu;obtain⟨huu,hul,-⟩:=hff u hf;have hset:tX m s.data.toList D=qR m (nR u) (nA D):=by unfold tX;rw[hf]
       have HSET:=hZ hset;have hfu2:∀W:World,Calls Tryz.prog 9 #[.string s] W fun e w'=>e=.returned (.tuple #[.string ⟨u.toArray⟩,.nilIface])∧Below W.heap.size W w':=hfu
       have HKD:Hid ((⟨u.toArray⟩:ByteArray).data.toList=u∧(⟨u.toArray⟩:ByteArray).size≤maxLen):=hZ ⟨rfl,by show u.length≤maxLen;unfold maxLen;omega⟩
       obtain⟨U,hU⟩:∃x:ByteArray,(⟨u.toArray⟩:ByteArray)=x:=⟨_,rfl⟩
       rw[hU]at hfu2 HKD;have hsr:=HO.out.1.set huu HDL.out
       rw[HO.out.2]at hsr;have HSR:=hZ hsr
       have HUS:=hZ HO.out.1.used;clear hfu hf hff huu hul hset hU hsr
       obtain⟨us,hus⟩:∃u:Nat,m.used=u:=⟨_,rfl⟩
       have HUU:=hZ hus;have husd:=fun(W:World) (h:Rf w (fun _=>False) (fun b=>(b<WB.heap.size∨b=rb)∨b=q) rb a W n m)=>ID h.st aC
       rw[hus]at husd;have HUSD:=hZ husd
       clear hus husd;have husb:(us:Int)≤1000:=by have h1:=HUU.out;have h2:=HUS.out;omega
       go_wp2_with (go_at_call 9;refine(hfu2 _).mono ?_;rintro e w4 ⟨rfl,hb4⟩;have HR4:=hZ (HR.out.bel hb4);have HX4:Hid (w4.heap[w.heap.size]?=some (.cells (D.map lG).toArray 33 (0,0))):=hZ ((hb4.block _ (lH HX.out)).trans HX.out);have HL4:=hZ (HL.out.below hb4);clear hb4 hc0);refine(HUSD.out _ HR4.out).mono ?_;rintro e w5 ⟨rfl,hb5⟩;have HR5:=hZ (HR4.out.bel hb5)
       have HX5:Hid (w5.heap[w.heap.size]?=some (.cells (D.map lG).toArray 33 (0,0))):=hZ ((hb5.block _ (lH HX4.out)).trans HX4.out);have HL5:=hZ (HL4.out.below hb5)
       clear hb5 HR4 HX4 HL4 HR HX HL;go_wp2_with fail;rcases HSR.out with⟨hlf,m',hsm,hroom,hon⟩|⟨hlf,m',hsm,hroom,hon⟩
       ·have HSM:=hZ hsm;have HON:=hZ hon
        have HRM:=hZ hroom;have HI0:AlnW w (fun b=>(b<WB.heap.size∨b=rb)∨b=q) a (n+7) m' w5 (fun _=>false) (⟨#[]⟩:ByteArray) w5.drew:=⟨fun _=>⟨rfl,rfl,rfl,Nat.le_refl _,fun _ _=>rfl⟩,fun h=>aK,fun h=>aK,fun h=>aK,fun h=>aK,fun h=>aK⟩
        clear hsm hon hroom
        refine lQ (fun γ:ByteArray=>[.pointer (some ⟨rb,0,none⟩),.slice (some ⟨vb,vo,none⟩) N cap,.int .i64 i,.pointer (some ⟨vb,vo+i,none⟩),.string s,.agg (D.map lG).toArray,.iface 132 (.agg #[.string γ,.iface 71 (.int .i64 28)]),.iface 132 (.agg #[.string γ,.iface 71 (.int .i64 28)])]) (AlnW w (fun b=>(b<WB.heap.size∨b=rb)∨b=q) a (n+7) m' w5)
         [[],[],[],[1,2],[3],[],[0,4,5],[6,6,0,1,2,3,4,5,6]] 126 (⟨#[]⟩:ByteArray) mC rfl aE (fun _=>rfl) HI0 ?_ ?_
        ·refine⟨?_,?_,?_,?_,?_,?_,?_,?_,rfl⟩
         all_goals intro L' γ W ev hL hd hW hc hf hg he h0
         ·have e8:ev (.tmp 8)=.pointer (some ⟨rb,0,none⟩):=h0 8 rfl;clear he h0 hc hf hg;exact dW
         ·have e0:ev (.tmp 0)=.slice (some ⟨vb,vo,none⟩) N cap:=h0 0 rfl;clear he h0 hc hf hg;exact dW
         ·have e11:ev (.tmp 11)=.int .i64 i:=h0 11 rfl;clear he h0 hc hf hg;exact dW
         ·have e74:ev (.tmp 74)=.slice (some ⟨vb,vo,none⟩) N cap:=he 1 aA _ 74 rfl rfl;have e75:ev (.tmp 75)=.int .i64 i:=he 2 aA _ 75 rfl rfl
          have hb1:(i:Int)<(N:Int):=hlt;clear he h0 hc hf hg;exact flS rfl aD (hW.three (hd 1 aA) (hd 2 aA)) rfl
         ·have e76:ev (.tmp 76)=.pointer (some ⟨vb,vo+i,none⟩):=he 3 aA _ 76 rfl rfl;have cc:W.cell? ⟨vb,vo+i,none⟩=some (.string s):=HVC.out W (HR5.out.bel (hW.lo (hW.no hL aA))).st.toB
          clear he h0 hc hf hg;exact flS rfl aD (hW.four (hd 3 aA)) rfl
         ·have e3:ev (.tmp 3)=.pointer (some ⟨w.heap.size,0,none⟩):=h0 3 rfl;clear he h0 hc hg;have hB:=hW.lo (hW.no hL aA)
          have hlv:=run_loadVar_row (P:=Tryz.prog) W w.heap.size 33 33 (D.map lG).toArray (0,0) _ ((hB.block _ (lH HX5.out)).trans HX5.out) nD rfl (lX HDL.out);refine .inl ⟨rfl,.inl ⟨_,W,?_,.still (hW.early (.inr rfl)) rfl⟩⟩;unfold execOp;simp only[e3,Instr.loadAt,Instr.sureAddr,Sem.run_bind,Sem.run_pure,Result.andThen_ok,hlv]
          try rfl
         ·have e73:ev (.tmp 73)=.pointer (some ⟨rb,0,none⟩):=he 0 aA _ 73 rfl rfl;have e77:ev (.tmp 77)=.string s:=he 4 aA _ 77 rfl rfl
          have e78:ev (.tmp 78)=.agg (D.map lG).toArray:=he 5 aA _ 78 rfl rfl;clear he h0 hc hg;have hB:=hW.lo hL
          have hr:=HR5.out.bel hB;refine .inl ⟨rfl,.inr (.inr ⟨15,#[.pointer (some ⟨rb,0,none⟩),.string s,.agg (D.map lG).toArray],W,iD,?_⟩)⟩;refine(Ag hr aC s aC D HDL.out).mono ?_;rintro e w' ⟨⟨t,rfl⟩,h2,h3⟩;rw[HSET.out,HSM.out]at h2;rw[HSET.out,HSM.out]
          have h7:L' 7=false:=by
           cases e7:L' 7 with
           |false=>rfl
           |true=>have:=hW.d7 e7;rw[hL]at this;cases this
          exact⟨_,rfl,t,hW.did (hd 0 aA) (hd 4 aA) (hd 5 aA) h2 (fun b hb=>(h3 b hb).trans (HR5.out.st.same hB b hb)),rfl,fun j hj=>by
           match j,hj with
           |0,_=>rfl
           |1,_=>rfl
           |2,_=>rfl
           |3,_=>rfl
           |4,_=>rfl
           |5,_=>rfl
           |6,hj=>exact absurd hj (by rw[hL];decide)
           |7,hj=>exact absurd hj (by rw[h7];decide)
           |j+8,_=>rfl⟩
         ·have e79:ev (.tmp 79)=.iface 132 (.agg #[.string γ,.iface 71 (.int .i64 28)]):=he 6 aA _ 79 rfl rfl;clear he h0 hc hf hg;exact flS rfl aD (hW.end' (hd 6 aA)) rfl
        intro γ L' w6 hLL hW;obtain⟨hst6,hsm6⟩:=hW.hi (hLL 6 aA);have HR6:=hZ (HR5.out.step hst6 hsm6)
        have HX6:Hid (w6.heap[w.heap.size]?=some (.cells (D.map lG).toArray 33 (0,0))):=hZ ((hsm6 _ (.inl (.inl iY))).trans HX5.out);have HL6:Hid (LedAt w6 q l):=hZ (HL5.out.keep (hsm6 _ (.inr rfl)))
        clear hLL hW hst6 hsm6 HI0 HR5 HX5 HL5;simp only[nX,Act.put,List.setIfInBounds_toArray,List.set_cons_succ,List.set_cons_zero];have hl:l.length=3:=aC
        have hli:((l.length:Nat):Int)=3:=aC;have HB6:=hZ HR6.out.st.toB
        have HPL:Hid (∀W,Below w6.heap.size w6 W→Calls Tryz.prog 10 #[.iface 132 (.agg #[.string γ,.iface 71 (.int .i64 28)]),.int .i64 28] W fun e w'=>e=.returned (.bool true)∧Below W.heap.size W w'):=hZ (fun W hb=>oQ γ 28 (.inr ⟨aA,aA⟩) 28 W ((HG.out.below HB6.out HG.out.2).below hb (Nat.lt_of_lt_of_le HG.out.2 HB6.out.size)));have hus':m'.used=us:=by rw[HON.out.used,←HUU.out,HUS.out]
        have HUSE:Hid (∀W,Rf w (fun _=>False) (fun b=>(b<WB.heap.size∨b=rb)∨b=q) rb a W (n+7) m'→Calls Tryz.prog 14 #[.pointer (some ⟨a,0,none⟩)] W fun e w'=>e=.returned (.int .i64 (us:Int))∧Below W.heap.size W w'):=hZ (fun W h=>by rw[←hus'];exact ID h.st aC);have HTMP:=hZ HON.out.tmp
        have HLI:Hid (∀x∈m'.lists ⟨refHead.toArray⟩,x.size≤200):=hZ (fun x hx=>by
         rw[HON.out.lists]at hx;obtain⟨y,hy,rfl⟩:=List.mem_map.1 hx;rw[pY];have:=HON.out.named.key y hy
         omega)
        have hlen:=hl3;clear hus' hl;go_wp2_with (first|(at_len;refine xU rfl _ rfl q l rfl HL6.out ?_;rw[hli])|(go_at_call 10;refine(HPL.out _ (Below.refl _ _)).mono ?_;rintro e w7 ⟨rfl,hb7⟩;have HR7:=hZ (HR6.out.bel hb7);have HX7:Hid (w7.heap[w.heap.size]?=some (.cells (D.map lG).toArray 33 (0,0))):=hZ ((hb7.block _ (lH HX6.out)).trans HX6.out);have HL7:=hZ (HL6.out.below hb7);clear hb7)|(go_at_call 14;refine(HUSE.out _ HR7.out).mono ?_;rintro e w8 ⟨rfl,hb8⟩;have HR8:=hZ (HR7.out.bel hb8);have HX8:Hid (w8.heap[w.heap.size]?=some (.cells (D.map lG).toArray 33 (0,0))):=hZ ((hb8.block _ (lH HX7.out)).trans HX7.out);have HL8:=hZ (HL7.out.below hb8);clear hb8));refine(Af HR8.out.st ⟨#[116,109,112,47]⟩ aC).mono ?_;rintro e w9 ⟨v,rfl,hv,hb9⟩;rw[HTMP.out]at hv;rw[show nG (if m'.off=true then(27:Int)else 0)=.nilIface from by rw[HON.out.calm.1];rfl];obtain⟨vp,vc,rfl⟩:=hv.rd.len;have HR9:=hZ (HR8.out.bel hb9)
        have HX9:Hid (w9.heap[w.heap.size]?=some (.cells (D.map lG).toArray 33 (0,0))):=hZ ((hb9.block _ (lH HX8.out)).trans HX8.out);have HL9:=hZ (HL8.out.below hb9)
        have hho:=AO HR9.out aC (fun x hx=>HLI.out x hx) HON.out.named aC q HL9.out aC HON.out.code;rw[decide_eq_true rfl]at hho;have HHO:=hZ hho
        rw[show([]:List ByteArray).length=0 from rfl];clear hv hb9 HR8 HX8 HL8 hho;go_wp2_with (go_at_call 18;refine HHO.out.mono ?_;rintro e w10 ⟨rfl,hb10⟩;have HR10:=hZ (HR9.out.bel hb10);have HX10:Hid (w10.heap[w.heap.size]?=some (.cells (D.map lG).toArray 33 (0,0))):=hZ ((hb10.block _ (lH HX9.out)).trans HX9.out);have HL10:=hZ (HL9.out.below hb10);clear hb10);exact⟨⟨i+1,q,n+7,m',l,aC,aG,rfl,aC,HR10,HX10,HL10,hZ ⟨HON.out,HRM.out⟩,hlen⟩,cN⟩
       ·have HSM:=hZ hsm;have HON:=hZ hon
        have HRM:=hZ hroom;have HI0:AlnW w (fun b=>(b<WB.heap.size∨b=rb)∨b=q) a (n+7) m' w5 (fun _=>false) (⟨#[]⟩:ByteArray) w5.drew:=⟨fun _=>⟨rfl,rfl,rfl,Nat.le_refl _,fun _ _=>rfl⟩,fun h=>aK,fun h=>aK,fun h=>aK,fun h=>aK,fun h=>aK⟩
        clear hsm hon hroom
        refine lQ (fun γ:ByteArray=>[.pointer (some ⟨rb,0,none⟩),.slice (some ⟨vb,vo,none⟩) N cap,.int .i64 i,.pointer (some ⟨vb,vo+i,none⟩),.string s,.agg (D.map lG).toArray,.nilIface,.nilIface]) (AlnW w (fun b=>(b<WB.heap.size∨b=rb)∨b=q) a (n+7) m' w5)
         [[],[],[],[1,2],[3],[],[0,4,5],[6,6,0,1,2,3,4,5,6]] 126 (⟨#[]⟩:ByteArray) mC rfl aE (fun _=>rfl) HI0 ?_ ?_
        ·refine⟨?_,?_,?_,?_,?_,?_,?_,?_,rfl⟩
         all_goals intro L' γ W ev hL hd hW hc hf hg he h0
         ·have e8:ev (.tmp 8)=.pointer (some ⟨rb,0,none⟩):=h0 8 rfl;clear he h0 hc hf hg;exact dW
         ·have e0:ev (.tmp 0)=.slice (some ⟨vb,vo,none⟩) N cap:=h0 0 rfl;clear he h0 hc hf hg;exact dW
         ·have e11:ev (.tmp 11)=.int .i64 i:=h0 11 rfl;clear he h0 hc hf hg;exact dW
         ·have e74:ev (.tmp 74)=.slice (some ⟨vb,vo,none⟩) N cap:=he 1 aA _ 74 rfl rfl;have e75:ev (.tmp 75)=.int .i64 i:=he 2 aA _ 75 rfl rfl
          have hb1:(i:Int)<(N:Int):=hlt;clear he h0 hc hf hg;exact flS rfl aD (hW.three (hd 1 aA) (hd 2 aA)) rfl
         ·have e76:ev (.tmp 76)=.pointer (some ⟨vb,vo+i,none⟩):=he 3 aA _ 76 rfl rfl;have cc:W.cell? ⟨vb,vo+i,none⟩=some (.string s):=HVC.out W (HR5.out.bel (hW.lo (hW.no hL aA))).st.toB
          clear he h0 hc hf hg;exact flS rfl aD (hW.four (hd 3 aA)) rfl
         ·have e3:ev (.tmp 3)=.pointer (some ⟨w.heap.size,0,none⟩):=h0 3 rfl;clear he h0 hc hg;have hB:=hW.lo (hW.no hL aA)
          have hlv:=run_loadVar_row (P:=Tryz.prog) W w.heap.size 33 33 (D.map lG).toArray (0,0) _ ((hB.block _ (lH HX5.out)).trans HX5.out) nD rfl (lX HDL.out);refine .inl ⟨rfl,.inl ⟨_,W,?_,.still (hW.early (.inr rfl)) rfl⟩⟩;unfold execOp;simp only[e3,Instr.loadAt,Instr.sureAddr,Sem.run_bind,Sem.run_pure,Result.andThen_ok,hlv]
          try rfl
         ·have e73:ev (.tmp 73)=.pointer (some ⟨rb,0,none⟩):=he 0 aA _ 73 rfl rfl;have e77:ev (.tmp 77)=.string s:=he 4 aA _ 77 rfl rfl
          have e78:ev (.tmp 78)=.agg (D.map lG).toArray:=he 5 aA _ 78 rfl rfl;clear he h0 hc hg;have hB:=hW.lo hL
          have hr:=HR5.out.bel hB;refine .inl ⟨rfl,.inr (.inr ⟨15,#[.pointer (some ⟨rb,0,none⟩),.string s,.agg (D.map lG).toArray],W,iD,?_⟩)⟩;refine(Ag hr aC s aC D HDL.out).mono ?_;rintro e w' ⟨⟨t,rfl⟩,h2,h3⟩;rw[HSET.out,HSM.out]at h2;rw[HSET.out,HSM.out]
          have h7:L' 7=false:=by
           cases e7:L' 7 with
           |false=>rfl
           |true=>have:=hW.d7 e7;rw[hL]at this;cases this
          exact⟨_,rfl,t,hW.did (hd 0 aA) (hd 4 aA) (hd 5 aA) h2 (fun b hb=>(h3 b hb).trans (HR5.out.st.same hB b hb)),rfl,fun j hj=>by
           match j,hj with
           |0,_=>rfl
           |1,_=>rfl
           |2,_=>rfl
           |3,_=>rfl
           |4,_=>rfl
           |5,_=>rfl
           |6,hj=>exact absurd hj (by rw[hL];decide)
           |7,hj=>exact absurd hj (by rw[h7];decide)
           |j+8,_=>rfl⟩
         ·have e79:ev (.tmp 79)=.nilIface:=he 6 aA _ 79 rfl rfl;clear he h0 hc hf hg;exact flS rfl aD (hW.end' (hd 6 aA)) rfl
        intro γ L' w6 hLL hW;obtain⟨hst6,hsm6⟩:=hW.hi (hLL 6 aA);have HR6:=hZ (HR5.out.step hst6 hsm6)
        have HX6:Hid (w6.heap[w.heap.size]?=some (.cells (D.map lG).toArray 33 (0,0))):=hZ ((hsm6 _ (.inl (.inl iY))).trans HX5.out);have HL6:Hid (LedAt w6 q l):=hZ (HL5.out.keep (hsm6 _ (.inr rfl)))
        clear hLL hW hst6 hsm6 HI0 HR5 HX5 HL5;simp only[nX,Act.put,List.setIfInBounds_toArray,List.set_cons_succ,List.set_cons_zero];have hl:l.length≤2:=aC
        have hli:¬((l.length:Nat):Int)=3:=aC;have HTMP:=hZ HON.out.tmp
        have HLI:Hid (∀x∈m'.lists ⟨refHead.toArray⟩,x.size≤200):=hZ (fun x hx=>by
         rw[HON.out.lists]at hx;obtain⟨y,hy,rfl⟩:=List.mem_map.1 hx;rw[pY];have:=HON.out.named.key y hy
         omega)
        have hlen:(oJ l u (mR D)).length≤3:=Nat.le_trans (uJ l u (mR D)) aC;have HRX:=hZ (oF HX6.out)
        have hwi:=vU w6 q l HL6.out aC U HKD.out.2 D HDL.out false;rw[HKD.out.1]at hwi;unfold nH at hwi;have HWI:=hZ hwi
        clear hl hwi;go_wp2_with (first|(at_len;refine xU rfl _ rfl q l rfl HL6.out ?_)|refine wpList_load_mid rfl _ _ rfl w.heap.size 0 rfl (D.map lG) _ HRX.out hU rfl hI ?_);refine HWI.out.mono ?_;rintro e w8 ⟨q2,rfl,hq2,hled,hb8⟩;have HR8:Hid (Rf w (fun _=>False) (fun b=>(b<WB.heap.size∨b=rb)∨b=q2) rb a w8 (n+7) m'):=hZ (HR6.out.swap hb8 _ (.inl (.inr rfl)) (fun b hb=>hb.elim (fun h=>.inl (.inl h)) (fun e=>.inr ⟨aC,by rw[e];exact hled.lt⟩)))
        have HX8:Hid (w8.heap[w.heap.size]?=some (.cells (D.map lG).toArray 33 (0,0))):=hZ ((hb8.block _ (lH HX6.out)).trans HX6.out);have HL8:Hid (LedAt w8 q2 (oJ l u (mR D))):=hZ hled
        clear hq2 hled hb8 HR6 HX6 HL6 HRX HWI;go_wp2_with fail;refine(Af HR8.out.st ⟨#[116,109,112,47]⟩ aC).mono ?_;rintro e w9 ⟨v,rfl,hv,hb9⟩;rw[HTMP.out]at hv;rw[show nG (if m'.off=true then(27:Int)else 0)=.nilIface from by rw[HON.out.calm.1];rfl];obtain⟨vp,vc,rfl⟩:=hv.rd.len;have HR9:=hZ (HR8.out.bel hb9)
        have HX9:Hid (w9.heap[w.heap.size]?=some (.cells (D.map lG).toArray 33 (0,0))):=hZ ((hb9.block _ (lH HX8.out)).trans HX8.out);have HL9:=hZ (HL8.out.below hb9)
        have hho:=AO HR9.out aC (fun x hx=>HLI.out x hx) HON.out.named aC q2 HL9.out aC HON.out.code;rw[decide_eq_true rfl]at hho;have HHO:=hZ hho
        rw[show([]:List ByteArray).length=0 from rfl];clear hv hb9 HR8 HX8 HL8 hho;go_wp2_with (go_at_call 18;refine HHO.out.mono ?_;rintro e w10 ⟨rfl,hb10⟩;have HR10:=hZ (HR9.out.bel hb10);have HX10:Hid (w10.heap[w.heap.size]?=some (.cells (D.map lG).toArray 33 (0,0))):=hZ ((hb10.block _ (lH HX9.out)).trans HX9.out);have HL10:=hZ (HL9.out.below hb10);clear hb10);exact⟨⟨i+1,q2,n+7,m',oJ l u (mR D),aC,aG,rfl,aC,HR10,HX10,HL10,hZ ⟨HON.out,HRM.out⟩,hlen⟩,cN⟩
     ·obtain rfl:i=N:=by omega
      have HWK:=tD wr (HG.out.below HR.out.st.toB HG.out.2);have HBR:=hZ HR.out.st.toB
      go_wp2_with fail;refine HWK.mono ?_;rintro e w9 ⟨rfl,hb9⟩;have HB9:=hZ (HBR.out.trans (hb9.mono HBR.out.size))
      clear hb9 HWK;go_wp2_with fail;go_ret;exact⟨rfl,HB9.out⟩
def nN:Bs:=handR.data.toList
def oO(u:Bs):Bs:=refHead++u
theorem pG(u:Bs):oO u≠nN:=K5 (Dy u)
theorem Ao{u v:Bs}(h:oO u=oO v):u=v:=List.append_cancel_left h
structure NormT (t:Tab) (fs:List Fil) (l:Tab):Prop where
 now:mF t
 rise:mF l
 full:∀x∈l,nO x.1=some x.1
 code:∀x∈l,x.2=mR (rS x.2)
 rows:∀p∈t,p.1=nN∨(p.2<fs.length∧∃x∈l,p.1=oO x.1∧fs[p.2]! =⟨nA (rS x.2),71⟩)
 all:∀x∈l,(lS t (oO x.1)).isSome=true
structure Rst (m:DM) (l:Tab):Prop where
 on:m.off=false
 pend:m.pend=[]
 eq:m.safe=m.now
 norm:NormT m.now m.files l
 hand:lS m.now nN=none
structure Dwn (m:DM) (l:Tab):Prop where
 off:m.off=true
 armed:m.armed=0
 pend:m.pend=[]
 eq:m.safe=m.now
 norm:NormT m.now m.files l
structure Near (s0:Tab) (nm:Bs) (X:Option Nat) (i0:Nat) (t:Tab):Prop where
 rise:mF t
 other:∀k,k≠nN→k≠nm→lS t k=lS s0 k
 name:lS t nm=lS s0 nm∨lS t nm=X
 hand:lS t nN=none∨lS t nN=some i0
section
variable {s0 t:Tab} {fs:List Fil} {l:Tab} {u:Bs} {X:Option Nat} {i0:Nat}
theorem Near.create(h:Near s0 (oO u) X i0 t):Near s0 (oO u) X i0 ((DOp.create handR i0).act t):=by
 refine⟨rH _ h.rise,fun k h1 h2=>?_,?_,?_⟩
 ·show lS (oJ t nN i0) k=_;rw[oC h.rise,if_neg h1];exact h.other k h1 h2
 ·have e:lS ((DOp.create handR i0).act t) (oO u)=lS t (oO u):=by
   show lS (oJ t nN i0) _=_;rw[oC h.rise,if_neg (pG u)]
  rw[e];exact h.name
 ·refine .inr ?_;show lS (oJ t nN i0) _=_
  rw[oC h.rise,if_pos rfl]
theorem Near.rename(h:Near s0 (oO u) (some i0) i0 t):Near s0 (oO u) (some i0) i0 ((DOp.rename handR (nR u)).act t):=by
 have hk:handR.data.toList=nN:=rfl;rcases h.hand with hh|hh
 ·have e:(DOp.rename handR (nR u)).act t=t:=by
   simp only[DOp.act];rw[hk,hh]
  rw[e];exact h
 ·have e:(DOp.rename handR (nR u)).act t=oJ (nF t nN) (oO u) i0:=by
   simp only[DOp.act];rw[hk,hh]
   rfl
  rw[e];have hr:=nY (k:=nN) h.rise
  refine⟨nP hr,fun k h1 h2=>?_,.inr ?_,.inl ?_⟩
  ·rw[oC hr,if_neg h2,pI h.rise,if_neg h1];exact h.other k h1 h2
  ·rw[oC hr,if_pos rfl]
  ·rw[oC hr,if_neg (fun e=>pG u e.symm),pI h.rise,if_pos rfl]
theorem Near.remove(h:Near s0 (oO u) none i0 t):Near s0 (oO u) none i0 ((DOp.remove (nR u)).act t):=by
 refine⟨rH _ h.rise,fun k h1 h2=>?_,.inr ?_,?_⟩
 ·show lS (nF t (oO u)) k=_;rw[pI h.rise,if_neg h2];exact h.other k h1 h2
 ·show lS (nF t (oO u)) _=_;rw[pI h.rise,if_pos rfl]
 ·show lS (nF t (oO u)) _=none∨lS (nF t (oO u)) _=_;rw[pI h.rise,if_neg (fun e=>pG u e.symm)];exact h.hand
theorem Dz{Q:Tab→Prop}:∀(ps:List DOp) (ks:List Int) (t:Tab),(∀o∈ps,∀t,Q t→Q (o.act t))→Q t→Q (lJ ps ks t)
 |[],_,_,_,h=>h
 |o::r,ks,t,hp,h=>by
  unfold lJ;refine Dz r ks.tail _ (fun o' ho=>hp o' (List.mem_cons_of_mem _ ho)) ?_;split
  ·exact hp o List.mem_cons_self _ h
  ·exact h
theorem NormT.start(h:NormT s0 fs l)(hh:lS s0 nN=none)(nm:Bs)(X:Option Nat)(i0:Nat):Near s0 nm X i0 s0:=⟨h.now,fun _ _ _=>rfl,.inl rfl,.inl hh⟩
theorem Near.same(h:Near s0 (oO u) X i0 t)(h0:NormT s0 fs l)(hn:lS t (oO u)=lS s0 (oO u)):NormT t fs l:=by
 refine⟨h.rise,h0.rise,h0.full,h0.code,fun p hp=>?_,fun x hx=>?_⟩
 ·by_cases h1:p.1=nN
  ·exact .inl h1
  ·have hg:=mO h.rise (show(p.1,p.2)∈t from hp)
   have hg0:lS s0 p.1=some p.2:=by
    by_cases h2:p.1=oO u
    ·rw[h2]at hg⊢;rw[←hn];exact hg
    ·rw[←h.other _ h1 h2];exact hg
   exact h0.rows (p.1,p.2) (mW hg0)
 ·by_cases h2:oO x.1=oO u
  ·rw[h2,hn,←h2];exact h0.all x hx
  ·rw[h.other _ (pG _) h2];exact h0.all x hx
theorem Near.put(h:Near s0 (oO u) X i0 t)(h0:NormT s0 fs l)(hn:lS t (oO u)=some i0)(hu:nO u=some u){D:List UInt8}(hD:D.length=32)(hi:i0<fs.length)(hf:fs[i0]! =⟨nA D,71⟩):NormT t fs (oJ l u (mR D)):=by
 refine⟨h.rise,nP h0.rise,fun x hx=>?_,fun x hx=>?_,fun p hp=>?_,fun x hx=>?_⟩
 ·rcases nZ.1 hx with rfl|⟨hx,-⟩
  ·exact hu
  ·exact h0.full x hx
 ·rcases nZ.1 hx with rfl|⟨hx,-⟩
  ·show mR D=mR (rS (mR D));rw[sX hD]
  ·exact h0.code x hx
 ·by_cases h1:p.1=nN
  ·exact .inl h1
  ·have hg:=mO h.rise (show(p.1,p.2)∈t from hp);by_cases h2:p.1=oO u
   ·rw[h2,hn]at hg;have he:=Option.some.inj hg
    refine .inr ⟨by rw[←he];exact hi,(u,mR D),nZ.2 (.inl rfl),h2,?_⟩;rw[←he,hf,sX hD]
   ·have hg0:lS s0 p.1=some p.2:=by rw[←h.other _ h1 h2];exact hg
    rcases h0.rows (p.1,p.2) (mW hg0)with h3|⟨h3,x,hx,h4,h5⟩
    ·exact absurd h3 h1
    ·exact .inr ⟨h3,x,nZ.2 (.inr ⟨hx,fun e=>h2 (by rw[←e];exact h4)⟩),h4,h5⟩
 ·rcases nZ.1 hx with rfl|⟨hx,hne⟩
  ·show(lS t (oO u)).isSome=true;rw[hn]
   rfl
  ·rw[h.other _ (pG _) (fun e=>hne (Ao e))];exact h0.all x hx
theorem Near.del(h:Near s0 (oO u) X i0 t)(h0:NormT s0 fs l)(hn:lS t (oO u)=none):NormT t fs (nF l u):=by
 refine⟨h.rise,nY h0.rise,fun x hx=>h0.full x (oN.1 hx).1,fun x hx=>h0.code x (oN.1 hx).1,fun p hp=>?_,fun x hx=>?_⟩
 ·by_cases h1:p.1=nN
  ·exact .inl h1
  ·have hg:=mO h.rise (show(p.1,p.2)∈t from hp);by_cases h2:p.1=oO u
   ·rw[h2,hn]at hg;cases hg
   ·have hg0:lS s0 p.1=some p.2:=by rw[←h.other _ h1 h2];exact hg
    rcases h0.rows (p.1,p.2) (mW hg0)with h3|⟨h3,x,hx,h4,h5⟩
    ·exact absurd h3 h1
    ·exact .inr ⟨h3,x,oN.2 ⟨hx,fun e=>h2 (by rw[←e];exact h4)⟩,h4,h5⟩
 ·obtain⟨hx,hne⟩:=oN.1 hx;rw[h.other _ (pG _) (fun e=>hne (Ao e))];exact h0.all x hx
theorem NormT.fail(h:NormT t fs l)(t':Tab)(ks:List Int):NormT t (mG t' ks fs) l:=by
 refine⟨h.now,h.rise,h.full,h.code,fun p hp=>?_,h.all⟩;rcases h.rows p hp with h1|⟨h1,x,h2,h3,h4⟩
 ·exact .inl h1
 ·refine .inr ⟨by rw[nC];exact h1,x,h2,h3,?_⟩;exact vI (Q:=fun f=>f=⟨nA (rS x.2),71⟩) (fun f k hf=>by rw[hf];exact Fil.whole.cut (f:=⟨nA (rS x.2),71⟩) (wB (uG _)).symm k) t' ks fs h1 h4
theorem NormT.files{fs':List Fil}(h:NormT t fs l)(hl:fs.length≤fs'.length)(hf:∀i,i<fs.length→(∃p∈t,p.1≠nN∧p.2=i)→fs'[i]! =fs[i]!):NormT t fs' l:=by
 refine⟨h.now,h.rise,h.full,h.code,fun p hp=>?_,h.all⟩;rcases h.rows p hp with h1|⟨h1,x,h2,h3,h4⟩
 ·exact .inl h1
 ·refine .inr ⟨aC,x,h2,h3,?_⟩;rw[hf p.2 h1 ⟨p,hp,by rw[h3];exact pG _,rfl⟩];exact h4
end
theorem AS{m:DM}{nm:Bs}{X:Option Nat}{i0:Nat}{l:Tab}(hn:NormT m.safe m.files l)(hh:lS m.safe nN=none)(hp:∀o∈m.pend,∀t,Near m.safe nm X i0 t→Near m.safe nm X i0 (o.act t))(ks:List Int):Near m.safe nm X i0 (m.fail ks).now:=
 Dz m.pend ks m.safe hp (hn.start hh nm X i0)
theorem wG{m:DM}{l:Tab}{ks:List Int}(h:NormT (m.fail ks).now m.files l):Dwn (m.fail ks) l:=⟨rfl,rfl,rfl,rfl,h.fail _ _⟩
theorem rO{m:DM}(h:m.off=false)(c:DCall):(m.refused c≠0∧m.op c=(m,m.refused c))∨(m.refused c=0∧m.armed=1∧m.op c=((if c.late then m.tick else m.tick.act c).fail m.keep,27))∨(m.refused c=0∧m.op c=(m.tick.act c,0)):=by
 unfold DM.op;rw[if_neg (by rw[h];decide)];by_cases h1:m.refused c=0
 ·rw[if_neg (fun e=>e h1)];by_cases h2:m.armed=1
  ·rw[if_pos h2];exact .inr (.inl ⟨h1,h2,rfl⟩)
  ·rw[if_neg h2];exact .inr (.inr ⟨h1,rfl⟩)
 ·rw[if_pos h1];exact .inl ⟨h1,rfl⟩
theorem Mg{t:Tab}{fs:List Fil}{l:Tab}(h:NormT t fs l)(hh:lS t nN=none):t.map (·.1)=l.map (fun x=>oO x.1):=by
 have e:t.map (fun p=>(p.1,0))=l.map (fun x=>(oO x.1,0)):=by
  refine BC ?_ ?_ fun k=>?_
  ·exact List.pairwise_map.2 h.now
  ·refine List.pairwise_map.2 (h.rise.imp fun{a b} hab=>?_);show bytesBefore (refHead++a.1) (refHead++b.1)=true
   rw[K7];exact hab
  ·have e1:∀(T:Tab) (k:Bs),(lS T k).isSome=true↔∃p∈T,p.1=k:=fun T k=>by
    constructor
    ·intro hs;obtain⟨b,hb⟩:=Option.isSome_iff_exists.1 hs;exact⟨_,mW hb,rfl⟩
    ·rintro⟨p,hp,rfl⟩
     cases hg:lS T p.1 with
     |some b=>rfl
     |none=>exact absurd rfl (qL.1 hg p hp)
   have e2:(lS (t.map (fun p=>(p.1,0))) k).isSome=true↔(lS (l.map (fun x=>(oO x.1,0))) k).isSome=true:=by
    rw[e1,e1];constructor
    ·rintro⟨p,hp,rfl⟩;obtain⟨q,hq,rfl⟩:=List.mem_map.1 hp;rcases h.rows q hq with h1|⟨-,x,hx,h3,-⟩
     ·exact absurd h1 (qL.1 hh q hq)
     ·exact⟨_,List.mem_map.2 ⟨x,hx,rfl⟩,h3.symm⟩
    ·rintro⟨p,hp,rfl⟩;obtain⟨x,hx,rfl⟩:=List.mem_map.1 hp;obtain⟨i,hi⟩:=Option.isSome_iff_exists.1 (h.all x hx);exact⟨_,List.mem_map.2 ⟨_,mW hi,rfl⟩,rfl⟩
   have e3:∀(T:Tab) (k:Bs) (b:Nat),(∀p∈T,p.2=0)→lS T k=some b→b=0:=fun T k b hT hb=>hT _ (mW hb)
   have z1:∀p∈t.map (fun p=>(p.1,0)),p.2=0:=fun p hp=>by obtain⟨q,-,rfl⟩:=List.mem_map.1 hp;rfl
   have z2:∀p∈l.map (fun x=>(oO x.1,0)),p.2=0:=fun p hp=>by obtain⟨q,-,rfl⟩:=List.mem_map.1 hp;rfl
   cases ha:lS (t.map (fun p=>(p.1,0))) k with
   |none=>
    cases hb:lS (l.map (fun x=>(oO x.1,0))) k with
    |none=>rfl
    |some b=>rw[ha,hb]at e2;exact absurd (e2.2 rfl) aA
   |some a=>
    cases hb:lS (l.map (fun x=>(oO x.1,0))) k with
    |none=>rw[ha,hb]at e2;exact absurd (e2.1 rfl) aA
    |some b=>rw[e3 _ _ _ z1 ha,e3 _ _ _ z2 hb]
 have e2:=congrArg (List.map Prod.fst) e;rw[List.map_map,List.map_map]at e2;exact e2
section
variable {m:DM} {l:Tab}
theorem Rst.only(h:Rst m l)(ha:m.armed=0):Only m l:=by
 refine⟨⟨h.on,ha⟩,h.norm.now,fun p hp=>?_,h.norm.rise,Mg h.norm h.hand,fun x hx i hi=>?_,h.norm.full,h.norm.code⟩
 ·rcases h.norm.rows p hp with h1|⟨h1,-⟩
  ·exact absurd h1 (qL.1 h.hand p hp)
  ·exact h1
 ·rcases h.norm.rows _ (mW hi)with h1|⟨-,y,hy,h3,h4⟩
  ·exact absurd h1 (pG _)
  ·have e:x.1=y.1:=Ao h3
   have e2:x.2=y.2:=by
    have g1:=mO h.norm.rise (show(x.1,x.2)∈l from hx);have g2:=mO h.norm.rise (show(y.1,y.2)∈l from hy)
    rw[e,g2]at g1;exact(Option.some.inj g1).symm
   rw[h4,e2]
theorem Rst.arm(h:Rst m l)(n:Int)(ks:List Int):Rst (m.arm n ks) l:=⟨h.on,h.pend,h.eq,h.norm,h.hand⟩
theorem Rst.crash(h:Rst m l)(ks:List Int):Dwn (m.crash ks) l:=by
 unfold DM.crash;rw[if_neg (by rw[h.on];decide)];have hn:NormT m.safe m.files l:=by rw[h.eq];exact h.norm
 have e:(m.fail ks).now=m.now:=by
  show lJ m.pend ks m.safe=_;rw[h.pend,h.eq]
  rfl
 exact wG (by rw[e];exact h.norm)
theorem Mh(h:Rst m l)(u:Bs):
  (lS l u=none∧xQ m (nR u)=(m,10))∨((lS l u).isSome=true∧(((xQ m (nR u)).2=27∧1≤m.armed∧(Dwn (xQ m (nR u)).1 l∨Dwn (xQ m (nR u)).1 (nF l u)))∨((xQ m (nR u)).2=0∧Rst (xQ m (nR u)).1 (nF l u)))):=by
 unfold xQ
 have hlk:(m.get (nR u)).isSome=(lS l u).isSome:=by
  show(lS m.now (oO u)).isSome=_
  cases hg:lS m.now (oO u)with
  |some i=>
   rcases h.norm.rows _ (mW hg)with h1|⟨-,x,hx,h3,-⟩
   ·exact absurd h1 (pG _)
   ·have e:u=x.1:=Ao h3;rw[e,mO h.norm.rise (show(x.1,x.2)∈l from hx)]
    rfl
  |none=>
   cases hl:lS l u with
   |none=>rfl
   |some c=>
    have:=h.norm.all _ (mW hl);rw[show lS m.now (oO (u,c).1)=none from hg]at this;cases this
 have hnear:∀t,Near m.now (oO u) none 0 t→Near m.now (oO u) none 0 ((DOp.remove (nR u)).act t):=fun t ht=>ht.remove
 obtain⟨m2,hm2⟩:∃y,m.tick.act (.remove (nR u))=y:=⟨_,rfl⟩
 have hs2:m2.safe=m.now:=by rw[←hm2];exact h.eq
 have hf2:m2.files=m.files:=by rw[←hm2];rfl
 have hp2:m2.pend=[.remove (nR u)]:=by
  rw[←hm2];show m.pend++[.remove (nR u)]=_
  rw[h.pend]
  rfl
 have hn2:m2.now=nF m.now (oO u):=by rw[←hm2];rfl
 have hon2:m2.off=false:=by rw[←hm2];exact h.on
 have ha2:m2.armed=if 1≤m.armed then m.armed-1 else 0:=by rw[←hm2];rfl
 have hfail:∀mm:DM,mm.safe=m.now→mm.files=m.files→mm.pend=[.remove (nR u)]→∀ks,Dwn (mm.fail ks) l∨Dwn (mm.fail ks) (nF l u):=fun mm e1 e2 e3 ks=>by
  have hN:NormT mm.safe mm.files l:=by rw[e1,e2];exact h.norm
  have hne:=AS (X:=none) (i0:=0) (nm:=oO u) hN (by rw[e1];exact h.hand) (fun o ho t ht=>by
   rw[e3]at ho;rw[List.mem_singleton.1 ho];exact ht.remove) ks
  rcases hne.name with h1|h1
  ·exact .inl (wG (hne.same hN h1))
  ·exact .inr (wG (hne.del hN h1))
 cases hl:lS l u with
 |none=>
  rw[hl]at hlk;rcases rO h.on (.remove (nR u))with⟨h1,h2⟩|⟨h1,-⟩|⟨h1,-⟩
  ·rw[pK,if_neg (by rw[hlk];decide)]at h2;rw[nU _ h2 aA];exact .inl ⟨rfl,rfl⟩
  ·rw[pK,if_neg (by rw[hlk];decide)]at h1;cases h1
  ·rw[pK,if_neg (by rw[hlk];decide)]at h1;cases h1
 |some c=>
  rw[hl]at hlk;refine .inr ⟨rfl,?_⟩;rcases rO h.on (.remove (nR u))with⟨h1,-⟩|⟨-,ha,h2⟩|⟨-,h2⟩
  ·rw[pK,if_pos (by rw[hlk];rfl)]at h1;exact absurd rfl h1
  ·rw[show(if DCall.late (.remove (nR u))then m.tick else m.tick.act (.remove (nR u)))=m2 from hm2]at h2;rw[nU _ h2 aA];exact .inl ⟨rfl,dQ,hfail m2 hs2 hf2 hp2 _⟩
  ·rw[hm2]at h2;rw[lN _ h2];rcases rO hon2 .flush with⟨h1,-⟩|⟨-,ha,h3⟩|⟨-,h3⟩
   ·exact absurd rfl h1
   ·rw[h3];refine .inl ⟨rfl,?_,hfail m2.tick hs2 hf2 hp2 _⟩;rw[ha2]at ha;split at ha
    ·assumption
    ·cases ha
   ·rw[h3]
    have hN:NormT m2.now m2.files (nF l u):=by
     rw[hn2,hf2];have hne:Near m.now (oO u) none 0 (nF m.now (oO u)):=(h.norm.start h.hand (oO u) none 0).remove
     exact hne.del h.norm (by rw[pI h.norm.now,if_pos rfl])
    refine .inr ⟨rfl,hon2,rfl,rfl,hN,?_⟩;show lS m2.now nN=none
    rw[hn2,pI h.norm.now,if_neg (fun e=>pG u e.symm)];exact h.hand
theorem Mi(h:Rst m l){u:Bs}(hu:nO u=some u){D:List UInt8}(hD:D.length=32)(hroom:71*l.length+71≤m.room):
  ((qR m (nR u) (nA D)).2=27∧1≤m.armed∧(Dwn (qR m (nR u) (nA D)).1 l∨Dwn (qR m (nR u) (nA D)).1 (oJ l u (mR D))))∨((qR m (nR u) (nA D)).2=0∧Rst (qR m (nR u) (nA D)).1 (oJ l u (mR D))):=by
 have hul:=(pD hu).2.1;have hsz:(nA D).size=71:=wB hD
 obtain⟨t,ht⟩:∃t,nA D=t:=⟨_,rfl⟩
 have hids:∀p∈m.now,p.2<m.files.length:=fun p hp=>by
  rcases h.norm.rows p hp with h1|⟨h1,-⟩
  ·exact absurd h1 (qL.1 h.hand p hp)
  ·exact h1
 have hused:lU m.files m.now=71*l.length:=by
  have h0:Only (m.arm 0 []) l:=(h.arm 0 []).only rfl;have h1:=h0.used
  unfold DM.used at h1;rw[if_neg (by rw[h0.calm.1];decide)]at h1;exact h1
 rw[ht]at hsz⊢
 obtain⟨i0,hi0⟩:∃i,m.files.length=i:=⟨_,rfl⟩
 have hr:=h.norm.now
 have e0:qQ m=(m,0):=by
  have hrd:m.reads handR=(⟨#[]⟩,10):=by
   unfold DM.reads DM.get;rw[if_neg (by rw[h.on];decide),show lS m.now handR.data.toList=none from h.hand]
  unfold qQ;rw[hrd]
  rfl
 unfold qR;rw[lN _ e0]
 -- early: what is in hand has no name
 have early:∀mm:DM,mm.safe=m.now→(m.files.length≤mm.files.length∧∀i,i<m.files.length→mm.files[i]! =m.files[i]!)→mm.pend=[.create handR i0]→∀ks,Dwn (mm.fail ks) l:=fun mm e1 e2 e3 ks=>by
  have hN:NormT mm.safe mm.files l:=jM
  have hne:=AS (X:=lS mm.safe (oO u)) (i0:=i0) (nm:=oO u) hN (by rw[e1];exact h.hand) (fun o ho t ht=>by
   rw[e3]at ho;rw[List.mem_singleton.1 ho];exact ht.create) ks
  exact wG (hne.same hN (hne.name.elim id id))
 -- create
 obtain⟨m1,hm1⟩:∃y,m.tick.act (.create handR)=y:=⟨_,rfl⟩
 have hf1:m1.files=m.files++[⟨⟨#[]⟩,0⟩]:=by rw[←hm1];rfl
 have hn1:m1.now=oJ m.now nN i0:=by rw[←hm1,←hi0];rfl
 have hs1:m1.safe=m.now:=by rw[←hm1];exact h.eq
 have hp1:m1.pend=[.create handR i0]:=by
  rw[←hm1];show m.pend++[.create handR m.files.length]=_
  rw[h.pend,hi0]
  rfl
 have hon1:m1.off=false:=by rw[←hm1];exact h.on
 have hrm1:m1.room=m.room:=by rw[←hm1];rfl
 have ha1:1≤m1.armed→1≤m.armed:=by
  rw[←hm1];show 1≤(if 1≤m.armed then m.armed-1 else 0)→_
  split<;>intro hx<;>omega
 have hold1:∀i,i<m.files.length→m1.files[i]! =m.files[i]!:=fun i hi=>by rw[hf1];exact vF _ hi
 have hlen1:m1.files.length=i0+1:=by rw[hf1,List.length_append,hi0];rfl
 have hg1:m1.get handR=some i0:=by show lS m1.now nN=_;rw[hn1,oC hr,if_pos rfl]
 have hlast1:m1.files[i0]! =⟨⟨#[]⟩,0⟩:=by rw[hf1,←hi0];exact rW _
 have hu1:m1.used=lU m.files m.now:=by
  unfold DM.used;rw[if_neg (by rw[hon1];decide),hn1];show lU m1.files (tQ (nN,i0) (nF m.now nN))=_
  rw[AP,Dw h.hand,hlast1,hf1,AQ _ hids];show 0+_=_
  omega
 rcases rO h.on (.create handR)with⟨h1,-⟩|⟨-,ha,h2⟩|⟨-,h2⟩
 ·refine absurd ?_ h1;rw[yA,if_pos Bl];unfold DM.get;rw[show lS m.now handR.data.toList=none from h.hand]
  rfl
 ·rw[show(if DCall.late (.create handR)then m.tick else m.tick.act (.create handR))=m1 from hm1]at h2;rw[nU _ h2 aA];exact .inl ⟨rfl,dQ,.inl (early m1 hs1 ⟨aC,hold1⟩ hp1 _)⟩
 rw[hm1]at h2;rw[lN _ h2]
 -- write
 have hac:m1.tick.act (.write handR t)={m1.tick with files:=m1.files.set i0 ⟨m1.files[i0]!.data++t,m1.files[i0]!.safe⟩}:=by
  rw[zK,show m1.tick.get handR=some i0 from hg1]
  rfl
 obtain⟨m2,hm2⟩:∃y,m1.tick.act (.write handR t)=y:=⟨_,rfl⟩
 have hf2:m2.files=m1.files.set i0 ⟨⟨#[]⟩++t,0⟩:=by
  rw[←hm2,hac,hlast1]
 have hn2:m2.now=m1.now:=by rw[←hm2,hac];rfl
 have hp2:m2.pend=m1.pend:=by rw[←hm2,hac];rfl
 have hs2:m2.safe=m.now:=by rw[←hm2,hac];exact hs1
 have hon2:m2.off=false:=by rw[←hm2,hac];exact hon1
 have ha2:1≤m2.armed→1≤m.armed:=by
  rw[←hm2,hac];show 1≤(if 1≤m1.armed then m1.armed-1 else 0)→_
  split
  ·intro hx;exact ha1 aC
  ·intro hx;omega
 have hold2:∀i,i<m.files.length→m2.files[i]! =m.files[i]!:=fun i hi=>by
  rw[hf2,qC aC,if_neg aC];exact hold1 i hi
 have hlen2:m2.files.length=i0+1:=by rw[hf2,List.length_set,hlen1]
 have hg2:m2.get handR=some i0:=by show lS m2.now nN=_;rw[hn2];exact hg1
 rcases rO hon1 (.write handR t)with⟨h3,h4⟩|⟨-,ha,h4⟩|⟨h3,h4⟩
 ·exfalso;rw[sQ,hg1,if_pos (show(some i0).isSome=true from rfl),hu1,hused,hsz,hrm1,if_neg aC]at h3;exact h3 rfl
 ·rw[show(if DCall.late (.write handR t)then m1.tick else m1.tick.act (.write handR t))=m2 from hm2]at h4;rw[xZ h4 aA aA];exact .inl ⟨rfl,ha1 dQ,.inl (early m2 hs2 ⟨aC,hold2⟩ (hp2.trans hp1) _)⟩
 rw[hm2]at h4;rw[pO h4]
 -- sync
 have h2i:m2.files[i0]!.data=t:=by
  rw[hf2,qC aC,if_pos rfl];exact ByteArray.empty_append
 have hac3:m2.tick.act (.sync handR)={m2.tick with files:=m2.files.set i0 ⟨m2.files[i0]!.data,m2.files[i0]!.data.size⟩}:=by
  rw[AH,show m2.tick.get handR=some i0 from hg2]
  rfl
 obtain⟨m3,hm3⟩:∃y,m2.tick.act (.sync handR)=y:=⟨_,rfl⟩
 have hf3:m3.files=m2.files.set i0 ⟨t,t.size⟩:=by rw[←hm3,hac3,h2i]
 have hn3:m3.now=m1.now:=by rw[←hm3,hac3];exact hn2
 have hp3:m3.pend=[.create handR i0]:=by rw[←hm3,hac3];exact hp2.trans hp1
 have hs3:m3.safe=m.now:=by rw[←hm3,hac3];exact hs2
 have hon3:m3.off=false:=by rw[←hm3,hac3];exact hon2
 have ha3:1≤m3.armed→1≤m.armed:=by
  rw[←hm3,hac3];show 1≤(if 1≤m2.armed then m2.armed-1 else 0)→_
  split
  ·intro hx;exact ha2 aC
  ·intro hx;omega
 have hold3:∀i,i<m.files.length→m3.files[i]! =m.files[i]!:=fun i hi=>by
  rw[hf3,qC aC,if_neg aC];exact hold2 i hi
 have hlen3:m3.files.length=i0+1:=by rw[hf3,List.length_set,hlen2]
 have hlast3:m3.files[i0]! =⟨nA D,71⟩:=by rw[hf3,qC aC,if_pos rfl,hsz,ht]
 have hg3:m3.get handR=some i0:=by show lS m3.now nN=_;rw[hn3];exact hg1
 rcases rO hon2 (.sync handR)with⟨h5,-⟩|⟨-,ha,h6⟩|⟨-,h6⟩
 ·refine absurd ?_ h5;rw[Ah,hg2]
  rfl
 ·rw[nU _ h6 aA];refine .inl ⟨rfl,ha2 dQ,.inl ?_⟩;exact early m2.tick hs2 ⟨by show _≤m2.files.length;omega,hold2⟩ (hp2.trans hp1) _
 rw[hm3]at h6;rw[lN _ h6]
 -- rename
 have late:∀mm:DM,mm.safe=m.now→(m.files.length≤mm.files.length∧∀i,i<m.files.length→mm.files[i]! =m.files[i]!)→i0<mm.files.length→mm.files[i0]! =⟨nA D,71⟩→(∀o∈mm.pend,o=.create handR i0∨o=.rename handR (nR u))→∀ks,Dwn (mm.fail ks) l∨Dwn (mm.fail ks) (oJ l u (mR D)):=fun mm e1 e2 e4 e5 e3 ks=>by
  have hN:NormT mm.safe mm.files l:=jM
  have hne:=AS (X:=some i0) (i0:=i0) (nm:=oO u) hN (by rw[e1];exact h.hand) (fun o ho t ht=>by
   rcases e3 o ho with rfl|rfl
   ·exact ht.create
   ·exact ht.rename) ks
  rcases hne.name with h1|h1
  ·exact .inl (wG (hne.same hN h1))
  ·exact .inr (wG (hne.put hN h1 hu hD e4 e5))
 obtain⟨m4,hm4⟩:∃y,m3.tick.act (.rename handR (nR u))=y:=⟨_,rfl⟩
 have hac4:m4=m3.tick.names (.rename handR (nR u)):=by rw[←hm4,Bg]
 have hf4:m4.files=m3.files:=by rw[hac4];rfl
 have hn4:m4.now=oJ (nF m1.now nN) (oO u) i0:=by
  rw[hac4];show(DOp.rename handR (nR u)).act m3.now=_
  simp only[DOp.act];rw[show lS m3.now handR.data.toList=some i0 from hg3,hn3]
  rfl
 have hp4:m4.pend=[.create handR i0,.rename handR (nR u)]:=by
  rw[hac4];show m3.pend++[.rename handR (nR u)]=_
  rw[hp3]
  rfl
 have hs4:m4.safe=m.now:=by rw[hac4];exact hs3
 have hon4:m4.off=false:=by rw[hac4];exact hon3
 have ha4:1≤m4.armed→1≤m.armed:=by
  rw[hac4];show 1≤(if 1≤m3.armed then m3.armed-1 else 0)→_
  split
  ·intro hx;exact ha3 aC
  ·intro hx;omega
 have hpp:∀o∈m4.pend,o=.create handR i0∨o=.rename handR (nR u):=fun o ho=>by
  rw[hp4]at ho;rcases List.mem_cons.1 ho with rfl|ho
  ·exact .inl rfl
  ·exact .inr (List.mem_singleton.1 ho)
 rcases rO hon3 (.rename handR (nR u))with⟨h7,-⟩|⟨-,ha,h8⟩|⟨-,h8⟩
 ·refine absurd ?_ h7;rw[yB,hg3,if_pos (show(some i0).isSome=true from rfl),if_pos (Cj hul)]
 ·rw[show(if DCall.late (.rename handR (nR u))then m3.tick else m3.tick.act (.rename handR (nR u)))=m4 from hm4]at h8;rw[nU _ h8 aA];refine .inl ⟨rfl,ha3 dQ,late m4 hs4 ⟨by rw[hf4];omega,fun i hi=>by rw[hf4];exact hold3 i hi⟩ (by rw[hf4];omega) (by rw[hf4];exact hlast3) hpp _⟩
 rw[hm4]at h8;rw[lN _ h8]
 -- flush
 rcases rO hon4 .flush with⟨h9,-⟩|⟨-,ha,h10⟩|⟨-,h10⟩
 ·exact absurd rfl h9
 ·rw[h10];refine .inl ⟨rfl,ha4 dQ,late m4.tick hs4 ⟨by show _≤m4.files.length;rw[hf4];omega,fun i hi=>by show m4.files[i]! =_;rw[hf4];exact hold3 i hi⟩ (by show _<m4.files.length;rw[hf4];omega) (by show m4.files[i0]! =_;rw[hf4];exact hlast3) hpp _⟩
 ·rw[h10]
  have hnd:m4.now=oJ m.now (oO u) i0:=by
   rw[hn4,hn1,Dx hr h.hand]
  have hN:NormT m.now m4.files l:=h.norm.files (by rw[hf4];omega) (fun i hi _=>by rw[hf4];exact hold3 i hi)
  have hne:Near m.now (oO u) (some i0) i0 m4.now:=by
   rw[hnd];refine⟨nP hr,fun k h1 h2=>by rw[oC hr,if_neg h2],.inr (by rw[oC hr,if_pos rfl]),.inl ?_⟩;rw[oC hr,if_neg (fun e=>pG u e.symm)];exact h.hand
  have hN4:NormT m4.now m4.files (oJ l u (mR D)):=hne.put hN (by rw[hnd,oC hr,if_pos rfl]) hu hD (by rw[hf4];omega) (by rw[hf4];exact hlast3);refine .inr ⟨rfl,hon4,rfl,rfl,hN4,?_⟩;show lS m4.now nN=none
  rw[hnd,oC hr,if_neg (fun e=>pG u e.symm)];exact h.hand
theorem DA{p:Bs×Nat}{u:Bs}(h:p.1=oO u):mP p=nR u:=by
 unfold mP nR oO at*;rw[h]
theorem Dwn.bad(h:Dwn m l):qG m.revive=if(lS m.now nN).isSome then [handR]else []:=by
 have hrd:∀n:ByteArray,m.revive.reads n=match lS m.now n.data.toList with|some i=>(m.files[i]!.data,0)|none=>(⟨#[]⟩,10):=fun n=>by
  unfold DM.reads DM.get;rw[if_neg (show¬m.revive.off=true from fun e=>aO)]
  rfl
 have h1:(m.revive.lists ⟨refHead.toArray⟩).filter (fun n=>!mN m.revive n)=[]:=by
  refine List.filter_eq_nil_iff.2 fun s hs=>?_
  unfold DM.lists at hs;rw[if_neg (show¬m.revive.off=true from fun e=>aO)]at hs;obtain⟨p,hp,rfl⟩:=List.mem_map.1 hs;obtain⟨hp1,hp2⟩:=List.mem_filter.1 hp;have hp1:p∈m.now:=hp1
  rcases h.norm.rows p hp1 with hk|⟨-,x,hx,hk,hf⟩
  ·exfalso;unfold mY at hp2;rw[hk]at hp2
   revert hp2
   decide
  ·rw[DA hk]
   have hg:lS m.now (nR x.1).data.toList=some p.2:=by
    show lS m.now (oO x.1)=_;rw[←hk];exact mO h.norm.now hp1
   have hr1:mN m.revive (nR x.1)=true:=by
    unfold mN qP;rw[AR,h.norm.full x hx,hrd,hg];simp only[hf];rw[tI _ (uG _)];simp
   rw[hr1]
   decide
 unfold qG;rw[h1,List.append_nil,hrd];have he:lS m.now handR.data.toList=lS m.now nN:=rfl
 rw[he]
 cases lS m.now nN with
 |none=>exact if_neg (show¬(10:Int)=0 by decide)
 |some i=>exact if_pos rfl
theorem Ap(h:Dwn m l):(mX m.revive).2=0∧Rst (mX m.revive).1 l∧(mX m.revive).1.armed=0∧(mX m.revive).1.room=m.room∧(qG m.revive).length≤1∧∀s∈m.revive.lists ⟨refHead.toArray⟩,s.size≤200:=by
 have hb:=h.bad
 have hsz:∀s∈m.revive.lists ⟨refHead.toArray⟩,s.size≤200:=fun s hs=>by
  unfold DM.lists at hs;rw[if_neg (show¬m.revive.off=true from fun e=>aO)]at hs;obtain⟨p,hp,rfl⟩:=List.mem_map.1 hs;have hp1:p∈m.now:=(List.mem_filter.1 hp).1
  rcases h.norm.rows p hp1 with hk|⟨-,x,hx,hk,-⟩
  ·show p.1.toArray.size≤200;rw[hk]
   decide
  ·rw[DA hk,pY];have:=(pD (h.norm.full x hx)).2.1
   omega
 have hc:m.revive.Calm:=⟨rfl,h.armed⟩
 unfold mX;rw[if_neg (show¬m.revive.off=true from fun e=>aO)]
 cases hg:lS m.now nN with
 |none=>
  rw[hg]at hb;rw[hb,show(if(none:Option Nat).isSome=true then [handR]else [])=[]from rfl];exact⟨rfl,⟨rfl,h.pend,h.eq,h.norm,hg⟩,h.armed,rfl,aA,hsz⟩
 |some i=>
  rw[hg]at hb;rw[hb,show(if(some i:Option Nat).isSome=true then [handR]else [])=[handR]from rfl]
  have e1:m.revive.op (.remove handR)=(m.revive.act (.remove handR),0):=by
   rw[hc.op_eq]
   have hf:m.revive.refused (.remove handR)=0:=by
    rw[pK];unfold DM.get;rw[show lS m.revive.now handR.data.toList=some i from hg]
    rfl
   rw[hf]
   rfl
  have e2:(m.revive.act (.remove handR)).op .flush=((m.revive.act (.remove handR)).act .flush,0):=by
   rw[(hc.act _).op_eq]
   rfl
  have e3:oI [handR] m.revive=(m.revive.act (.remove handR),0):=by
   show pE (m.revive.op (.remove handR)) (oI [])=_;rw[lN _ e1]
   rfl
  rw[lN _ e3,if_neg aA,e2];have hn:((m.revive.act (.remove handR)).act .flush).now=nF m.now nN:=rfl
  have hN:NormT (nF m.now nN) m.files l:=by
   refine⟨nY h.norm.now,h.norm.rise,h.norm.full,h.norm.code,fun p hp=>h.norm.rows p (oN.1 hp).1,fun x hx=>?_⟩;rw[pI h.norm.now,if_neg (pG _)];exact h.norm.all x hx
  refine⟨rfl,⟨rfl,rfl,rfl,hN,?_⟩,h.armed,rfl,aA,hsz⟩;show lS (nF m.now nN) nN=none
  rw[pI h.norm.now,if_pos rfl]
theorem Mj(r:Int):Rst (DM.new r) []:=⟨rfl,rfl,rfl,⟨List.Pairwise.nil,List.Pairwise.nil,fun _ h=>aK,fun _ h=>aK,fun _ h=>aK,fun _ h=>aK⟩,rfl⟩
end
theorem Jw(s:ByteArray)(w:World)(hG:ErrT w):
  Calls Tryz.prog 3 #[.string s] w fun e w'=>e=.returned (.bool true)∧Below w.heap.size w w':=by
 by_cases hbig:(65536:Int)<(s.size:Int)
 ·go_enter Tryz.func3,Tryz.ntmps3;go_wp2_with fail;go_ret;exact⟨rfl,Below.refl _ _⟩
 ·have HG:=hZ hG;have hrf:=fun W:World=>vW s aC W
  have hfu:=fun W:World=>rZ s aC W
  unfold vG at hfu;have hff:=fun u h=>pD (s:=s.data.toList) (u:=u) h
  unfold lV at hrf hfu;clear hG;have HWK:=hZ (fun(W:World) (hb:Below w.heap.size w W)=>tD W (HG.out.below hb HG.out.2))
  cases hf:nO s.data.toList with
  |none=>
   rw[hf]at hrf hfu;have hrf2:∀W:World,Calls Tryz.prog 8 #[.string s] W fun e w'=>e=.returned (.tuple #[.string ⟨#[]⟩,.int .i64 31])∧Below W.heap.size W w':=hrf
   have hfu2:∀W:World,Calls Tryz.prog 9 #[.string s] W fun e w'=>e=.returned (.tuple #[.string ⟨#[]⟩,.iface 132 (.agg #[.string rY,.iface 71 (.int .i64 31)])])∧Below W.heap.size W w':=hfu
   have hem:=fun W:World=>rZ ⟨#[]⟩ aA W
   rw[show vG (⟨#[]⟩:ByteArray).data.toList=.tuple #[.string ⟨#[]⟩,.iface 132 (.agg #[.string rY,.iface 71 (.int .i64 31)])]from Cy dX]at hem;have HPL:Hid (∀W,Below w.heap.size w W→Calls Tryz.prog 10 #[.iface 132 (.agg #[.string rY,.iface 71 (.int .i64 31)]),.int .i64 31] W fun e w'=>e=.returned (.bool true)∧Below W.heap.size W w'):=hZ (fun W hb=>oQ rY 31 (.inr ⟨aA,aA⟩) 31 W (HG.out.below hb HG.out.2))
   clear hrf hfu hf hff;by_cases hs0:s.size=0
   ·have hse:s=⟨#[]⟩:=by
     refine ByteArray.ext (Array.eq_empty_of_size_eq_zero hs0)
    subst hse;clear hfu2;go_enter Tryz.func3,Tryz.ntmps3;go_wp2_with fail;refine(hrf2 _).mono ?_;rintro e w2 ⟨rfl,hb2⟩;have HB2:=hZ hb2
    clear hb2;go_wp2_with fail;refine(hem _).mono ?_;rintro e w3 ⟨rfl,hb3⟩;have HB3:=hZ (HB2.out.trans (hb3.mono HB2.out.size))
    clear hb3;go_wp2_with fail;refine(hem _).mono ?_;rintro e w4 ⟨rfl,hb4⟩;have HB4:=hZ (HB3.out.trans (hb4.mono HB3.out.size))
    clear hb4;go_wp2_with (first|(go_at_call 10;refine(HPL.out _ HB4.out).mono ?_;rintro e w5 ⟨rfl,hb5⟩;have HB5:=hZ (HB4.out.trans (hb5.mono HB4.out.size));clear hb5)|(go_at_call 11;refine(HWK.out _ HB5.out).mono ?_;rintro e w6 ⟨rfl,hb6⟩;have HB6:=hZ (HB5.out.trans (hb6.mono HB5.out.size));clear hb6));go_ret;exact⟨rfl,HB6.out⟩
   ·go_enter Tryz.func3,Tryz.ntmps3;go_wp2_with fail;refine(hrf2 _).mono ?_;rintro e w2 ⟨rfl,hb2⟩;have HB2:=hZ hb2
    clear hb2;go_wp2_with fail;refine(hfu2 _).mono ?_;rintro e w3 ⟨rfl,hb3⟩;have HB3:=hZ (HB2.out.trans (hb3.mono HB2.out.size))
    clear hb3;go_wp2_with fail;refine(hem _).mono ?_;rintro e w4 ⟨rfl,hb4⟩;have HB4:=hZ (HB3.out.trans (hb4.mono HB3.out.size))
    clear hb4;go_wp2_with (first|(go_at_call 10;refine(HPL.out _ HB4.out).mono ?_;rintro e w5 ⟨rfl,hb5⟩;have HB5:=hZ (HB4.out.trans (hb5.mono HB4.out.size));clear hb5)|(go_at_call 11;refine(HWK.out _ HB5.out).mono ?_;rintro e w6 ⟨rfl,hb6⟩;have HB6:=hZ (HB5.out.trans (hb6.mono HB5.out.size));clear hb6));go_ret;exact⟨rfl,HB6.out⟩
  |some u=>
   rw[hf]at hrf hfu;obtain⟨hfu3,hul,-⟩:=hff u hf;have hrf2:∀W:World,Calls Tryz.prog 8 #[.string s] W fun e w'=>e=.returned (.tuple #[.string ⟨u.toArray⟩,.int .i64 0])∧Below W.heap.size W w':=hrf
   have hfu2:∀W:World,Calls Tryz.prog 9 #[.string s] W fun e w'=>e=.returned (.tuple #[.string ⟨u.toArray⟩,.nilIface])∧Below W.heap.size W w':=hfu
   have hem:=fun W:World=>rZ ⟨u.toArray⟩ (show((u.length:Nat):Int)≤140737488355328 by omega) W
   unfold vG lV at hem;rw[show(⟨u.toArray⟩:ByteArray).data.toList=u from rfl,hfu3]at hem;have hem2:∀W:World,Calls Tryz.prog 9 #[.string ⟨u.toArray⟩] W fun e w'=>e=.returned (.tuple #[.string ⟨u.toArray⟩,.nilIface])∧Below W.heap.size W w':=hem
   obtain⟨U,hU⟩:∃x:ByteArray,(⟨u.toArray⟩:ByteArray)=x:=⟨_,rfl⟩
   rw[hU]at hrf2 hfu2 hem2;have hn0:=fun W:World=>oQ rY 0 (.inl rfl) 0 W
   have HPL:Hid (∀W,Below w.heap.size w W→Calls Tryz.prog 10 #[.nilIface,.int .i64 0] W fun e w'=>e=.returned (.bool true)∧Below W.heap.size W w'):=hZ (fun W hb=>hn0 W (HG.out.below hb HG.out.2));clear hrf hfu hf hff hem hU hfu3 hul hn0;go_enter Tryz.func3,Tryz.ntmps3;go_wp2_with fail;refine(hrf2 _).mono ?_;rintro e w2 ⟨rfl,hb2⟩;have HB2:=hZ hb2
   clear hb2;go_wp2_with fail;refine(hfu2 _).mono ?_;rintro e w3 ⟨rfl,hb3⟩;have HB3:=hZ (HB2.out.trans (hb3.mono HB2.out.size))
   clear hb3;go_wp2_with fail;refine(hem2 _).mono ?_;rintro e w4 ⟨rfl,hb4⟩;have HB4:=hZ (HB3.out.trans (hb4.mono HB3.out.size))
   clear hb4;go_wp2_with (first|(go_at_call 10;refine(HPL.out _ HB4.out).mono ?_;rintro e w5 ⟨rfl,hb5⟩;have HB5:=hZ (HB4.out.trans (hb5.mono HB4.out.size));clear hb5)|(go_at_call 11;refine(HWK.out _ HB5.out).mono ?_;rintro e w6 ⟨rfl,hb6⟩;have HB6:=hZ (HB5.out.trans (hb6.mono HB5.out.size));clear hb6));go_ret;exact⟨rfl,HB6.out⟩
def t16(s:ByteArray):List ByteArray:=[⟨#[]⟩,⟨#[97]⟩,⟨#[97,58]⟩,⟨#[97,58,98]⟩,⟨#[97,58,108,97,116,101,115,116]⟩,⟨#[65]⟩,⟨#[115,99,114,97,116,99,104]⟩,⟨#[115,99,114,97,116,99,104,58,120]⟩,⟨#[97,47,98]⟩,⟨#[97,47,98,58,67]⟩,⟨#[58]⟩,s,s++⟨#[97]⟩,s++⟨#[58,49,50,51,52,53,54]⟩,s++⟨#[97,58,49,50,51,52,53]⟩,s++⟨#[58,49,50,51,52,53,54,55]⟩]
theorem Ho(w:World)(hG:ErrT w):Calls Tryz.prog 31 #[] w fun e w'=>e=.returned (.bool true)∧Below w.heap.size w w':=by
 have HG:=hZ hG;clear hG;go_enter Tryz.func31,Tryz.ntmps31;go_wp2_with fail;go_loopw [1,2] (fun sv iv wr=>∃(i:Nat) (s:ByteArray),(i:Int)≤89∧iv=.int .i64 i∧sv=.string s∧(s.size:Int)≤i∧Hid (Below w.heap.size w wr)) (fun _ iv _=>89-(intOf iv).toNat)
 case atStart=>exact⟨0,⟨#[]⟩,aA,rfl,rfl,aA,hZ (Below.refl _ _)⟩
 case round=>
  obtain⟨i,s,hi,rfl,rfl,hs,HB⟩:=hrel;by_cases hlt:(i:Int)<89
  ·go_wp2_with fail;refine⟨⟨i+1,_,aC,aG,rfl,?_,HB⟩,cN⟩;rw[ByteArray.size_append];show((s.size+1:Nat):Int)≤_
   omega
  ·go_wp2_with fail;change Code.wp _ _ _ _ (wr.alloc (.cells ((t16 s).map Value.string).toArray 9))
   obtain⟨W2,hW2⟩:∃W,wr.alloc (.cells ((t16 s).map Value.string).toArray 9)=W:=⟨_,rfl⟩
   rw[hW2];have hb2:Below wr.heap.size wr W2:=bE
   have hx2:W2.heap[wr.heap.size]?=some (.cells ((t16 s).map Value.string).toArray 9 (0,0)):=gA;have HB2:=hZ (HB.out.trans (hb2.mono HB.out.size))
   obtain⟨g,hg⟩:∃g,wr.heap.size=g:=⟨_,rfl⟩
   rw[hg]at hx2⊢;have HX2:=hZ hx2
   clear hW2 hb2 hx2 hg;go_loopw [22] (fun jv wr2=>∃j:Nat,(j:Int)≤16∧jv=.int .i64 j∧Hid (Below W2.heap.size W2 wr2)) (fun jv _=>16-(intOf jv).toNat)
   case atStart=>exact⟨0,aA,rfl,hZ (Below.refl _ _)⟩
   case round=>
    obtain⟨j,hj,rfl,HBJ⟩:=hrel;by_cases hlt2:(j:Int)<16
    ·obtain⟨x,hx⟩:∃x,(t16 s)[j]?=some x:=⟨_,List.getElem?_eq_getElem (show j<16 by omega)⟩
     have c0:wr.cell? ⟨g,j,none⟩=some (.string x):=by
      rw[lF ((HBJ.out.block _ (lH HX2.out)).trans HX2.out),List.getElem?_toArray,List.getElem?_map,hx]
      rfl
     have hbw:=HB2.out.trans (HBJ.out.mono HB2.out.size);have hfu:=Jw x wr (HG.out.below hbw HG.out.2)
     clear hx hbw;go_wp2_with fail;refine hfu.mono ?_;rintro e w5 ⟨rfl,hb5⟩;have HB5:=hZ (HBJ.out.trans (hb5.mono HBJ.out.size))
     clear hb5 hfu c0;go_wp2_with fail;exact⟨⟨j+1,aC,aG,HB5⟩,cN⟩
    ·go_wp2_with fail;go_ret;exact⟨rfl,HB2.out.trans (HBJ.out.mono HB2.out.size)⟩
end Go.Proofs.YtdkedmngeahjiaaGreatDoor
