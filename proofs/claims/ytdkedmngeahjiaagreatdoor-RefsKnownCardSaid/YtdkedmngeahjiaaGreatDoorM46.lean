/- Texts of the seat, one behind the other: MarkP, ApartP. -/
import Derived.Test.YtdkedmngeahjiaaGreatDoorM15
import Derived.Test.YtdkedmngeahjiaaGreatDoorM32
import Derived.Laws.Tables
import Derived.Laws.StructEq
import Derived.Test.YtdkedmngeahjiaaGreatDoorM14
set_option maxRecDepth 100000
set_option maxHeartbeats 25600000
/- Two pairs of texts compared; the pair of a mark. -/
namespace Go.Proofs.YtdkedmngeahjiaaGreatDoor
theorem iQ{p:Prop}(h:p:=by have:=HNE.out;omega):p:=h
theorem jR{p:Prop}(h:p:=by unfold maxLen at hcp2;omega):p:=h
open Go Go.RowKit
structure PT where
 key:ByteArray
 val:ByteArray
def PT.cells(p:PT):Array Value:=#[.string p.key,.string p.val]
def zp:Array Value:=#[.string ⟨#[]⟩,.string ⟨#[]⟩]
theorem Mm:Tryz.prog.underlying 83=some (.struct (Tryz.prog.fieldsOf 83)):=by unfold Program.fieldsOf;rw[Tryz.underlying83]
theorem Nl:Tryz.prog.stoodInHeld 83=false:=aE
theorem MZ:Tryz.prog.eqGuardType Tryz.prog.depth 83=false:=aE
theorem Mn(a b:ByteArray)(d:Nat)(w:World):(Op.equalIn (d+2) 83 (.agg #[.string a,.string b]) (.agg #[.string a,.string b])).run Tryz.prog w=.ok true w:=by
 rw[run_equalIn_agg w (d+1) _ _ _ Mm Nl];unfold Program.fieldsOf;rw[Tryz.underlying83];simp[go_sem,part]
theorem F5(a b:ByteArray)(w:World):(binOp .neq 83 (.agg #[.string a,.string b]) (.agg #[.string a,.string b])).run Tryz.prog w=.ok (.bool false) w:=by
 rw[run_neq_struct,show(10000:Nat)=9998+2 from rfl,Mn]
 rfl
theorem Cn(x y:Operand)(xs ys:Array Value)(w:World):(eqGuard .neq 83 x y (.agg xs) (.agg ys)).run Tryz.prog w=.ok () w:=run_eqGuard_agg w .neq _ x y xs ys MZ
def rX(k:Nat)(i:Int):PT:=⟨Iq k i,⟨#[109,97,114,107]⟩⟩
theorem NA{w:World}{g:Nat}{t:TypeId}(h:w.heap[g]?=some (.cells zp t (0,0)))(v0 v1:Value):
  (w.setCell ⟨g,0,none⟩ v0).setCell ⟨g,1,none⟩ v1=setBlk w g (.cells #[v0,v1] t (0,0)):=by
 have hb:=lH h;simp only[lY h,mM hb]
 rfl
theorem AU(k:Nat)(i:Int)(w:World)(hk:k≤1000)(hi:i≤33554432)(hi2:-33554432≤i):
  Calls Tryz.prog 120 #[.int .i64 k,.int .i64 i] w fun e w'=>e=.returned (.agg (rX k i).cells)∧Below w.heap.size w w':=by
 go_enter Tryz.func120,Tryz.ntmps120;go_wp2_with fail;refine(Ea k i _ hk hi hi2).mono ?_;rintro e w1 ⟨rfl,hb⟩;have hz:w.heap.size<(w.alloc (.cells zp 83)).heap.size:=cO
 have hr:w1.heap[w.heap.size]?=some (.cells zp 83 (0,0)):=(hb.block w.heap.size hz).trans (lP w (.cells zp 83));have HB:=hZ (((Below.refl _ w).alloc (Nat.le_refl _) (.cells zp 83)).trans (hb.mono (Nat.le_of_lt hz)))
 have HR:=hZ hr;have c0:w1.cell? ⟨w.heap.size,0,none⟩=some (.string ⟨#[]⟩):=by rw[lF hr];rfl
 have c1:w1.cell? ⟨w.heap.size,1,none⟩=some (.string ⟨#[]⟩):=by rw[lF hr];rfl
 have f0:w1.frozen? ⟨w.heap.size,0,none⟩=false:=lI hr;have f1:w1.frozen? ⟨w.heap.size,1,none⟩=false:=lI hr
 clear hb hr hz;go_wp2_with fail;rw[NA HR.out];have hh:(setBlk w1 w.heap.size (.cells (rX k i).cells 83 (0,0))).heap[w.heap.size]?=some (.cells (rX k i).cells 83 (0,0)):=lM (lH HR.out)
 have hc0:(setBlk w1 w.heap.size (.cells (rX k i).cells 83 (0,0))).cell? ⟨w.heap.size,0,none⟩=some (.string (Iq k i)):=(lF hh).trans rfl;have hc1:(setBlk w1 w.heap.size (.cells (rX k i).cells 83 (0,0))).cell? ⟨w.heap.size,1,none⟩=some (.string ⟨#[109,97,114,107]⟩):=(lF hh).trans rfl
 have hB:Below w.heap.size w (setBlk w1 w.heap.size (.cells (rX k i).cells 83 (0,0))):=HB.out.setBlk (Nat.le_refl _);change bodyPost _ _ _ _ _ (setBlk w1 w.heap.size (.cells (rX k i).cells 83 (0,0)));generalize setBlk w1 w.heap.size (.cells (rX k i).cells 83 (0,0))=w2 at hc0 hc1 hB;exact bodyPost_ret (v:=.agg (rX k i).cells) (by simp[results,Tryz.f120,go_sem,hc0,hc1,rX,PT.cells]) rfl ⟨rfl,hB⟩
end Go.Proofs.YtdkedmngeahjiaaGreatDoor
/- Contract of ApartPairs. Printed by wip/g55.py. -/
namespace Go.Proofs.YtdkedmngeahjiaaGreatDoor
open Go Go.RowKit
attribute [local go_sem] F5 Cn PT.cells
def mkP(k n:Nat):List PT:=(List.range n).map fun i=>rX k (i:Nat)
theorem wW(k n:Nat):(mkP k n).length=n:=by unfold mkP;rw[List.length_map,List.length_range]
theorem F6(k n:Nat):mkP k (n+1)=mkP k n++[rX k (n:Nat)]:=by unfold mkP;rw[List.range_succ,List.map_append];rfl
theorem Hv{k n i:Nat}(h:i<n):(mkP k n)[i]?=some (rX k (i:Nat)):=by unfold mkP;rw[List.getElem?_map,List.getElem?_range h];rfl
theorem Mo(k n i:Nat):∃zs,mkP k (n+i)=mkP k n++zs:=by
 induction i with
 |zero=>exact⟨[],by rw[Nat.add_zero,List.append_nil]⟩
 |succ i ih=>
  obtain⟨zs,h⟩:=ih;exact⟨zs++[rX k ((n+i:Nat))],by rw[←Nat.add_assoc,F6,h,List.append_assoc]⟩
theorem pSz:∀m:PT,m.cells.size=2:=fun _=>rfl
theorem M0{w:World}{g o:Nat}{cur:Array Value}{t:TypeId}(h:w.heap[g]?=some (.cells cur t (0,0)))(v0 v1:Value):
  (w.setCell ⟨g,o,none⟩ v0).setCell ⟨g,o+1,none⟩ v1=setBlk w g (.cells (uL cur o [v0,v1]) t (0,0)):=by
 have hb:=lH h;simp only[lY h,mM hb]
 rfl
theorem M1:(Tryz.prog.info? 83).map (fun i=>(i.zero,i.size,i.bytes))=some (some (.agg zp),2,32):=aE
theorem M2:(Tryz.prog.info? 79).map (fun i=>(i.zero,i.size,i.bytes))=some (some (.slice none 0 0),1,24):=aE
abbrev JK:=ApA 83 79 2 PT.cells
abbrev NB:=ApC 83 79 2 PT.cells
abbrev NC:=ApO 83 79 2 PT.cells
abbrev Nm:=ApR 83 79 2 PT.cells
theorem DC{w:World}{g i j:Nat}{m:PT}{v:Value}(h:∀j,j<2→w.cell? ⟨g,i*2+j,none⟩=m.cells[j]?)(hj:j<2)(hv:m.cells[j]?=some v):w.cell? ⟨g,i*2+j,none⟩=some v:=(h j hj).trans hv
theorem F7{w:World}{B S n:Nat}{v:Value}{xs:List Value}{g cap k:Nat}{x:Value}(h:w.ownsRow B S 1 v n xs)(hv:v=.slice (some ⟨g,0,none⟩) n cap)(hx:xs[k]?=some x):w.cell? ⟨g,k,none⟩=some x:=by
 subst hv;have:=h.cells (g:=g) rfl k x hx
 rw[show((⟨g,0,none⟩:Addr).add k)=⟨g,k,none⟩ by simp[Addr.add];intro e;exact e.symm]at this;exact this
theorem ND(w:World)(m:PT)(t:TypeId):∀(j:Nat) (u:Value),m.cells.toList[j]?=some u→(w.alloc (.cells m.cells t)).cell? ((⟨w.heap.size,0,none⟩:Addr).add j)=some u:=fun j u h=>by
 rw[show((⟨w.heap.size,0,none⟩:Addr).add j)=⟨w.heap.size,j,none⟩ by simp[Addr.add];intro e;exact e.symm,lF (lP w _)];rw[←h,Array.getElem?_toList]
theorem NE(m:PT):∀u∈m.cells.toList,u.oneCell'=true:=fun u hu=>by
 rcases List.mem_cons.1 hu with rfl|hu
 ·rfl
 ·rw[List.mem_singleton.1 hu];rfl
theorem Hw(vs:Array Value)(LB cap base:Nat)(f:Nat→List PT)(w:World)(hA:JK base LB vs w f w)(hap:KI vs)(hLB:base≤LB)(hN0:0<vs.size)(hN:vs.size≤1000)(hc1:vs.size≤cap)(hc2:cap≤9223372036854775807)(hlen:∀k,(f k).length≤33000000):
  Calls Tryz.prog 62 #[.slice (some ⟨LB,0,none⟩) vs.size cap] w fun e w'=>e=.returned (.bool true)∧Below base w w':=by
 obtain⟨i0,hi,hz0,hz1,hz2⟩:=info_parts M1;obtain⟨j0,ki,kz0,kz1,kz2⟩:=info_parts M2
 obtain⟨N,hNe⟩:∃N,vs.size=N:=⟨_,rfl⟩
 rw[hNe]at hN0 hN hc1⊢;have HNE:=hZ hNe
 have HA:=hZ hA;have HAP:=hZ hap
 have HLEN:=hZ hlen;have HLB:=hZ hLB
 have hN1:(N:Int)≤1000:=aC;have HBS:=hZ hA.hb0
 clear hNe hA hap hlen hLB hN;go_enter Tryz.func62,Tryz.ntmps62;go_wp2_with fail;go_loopw [3] (fun kv wr=>∃(k:Nat) (f':Nat→List PT),(k:Int)≤(N:Int)∧kv=.int .i64 k∧Hid (JK base LB vs w f' wr)∧Hid (∀j,(f' j).length=(f j).length)∧Hid (∀j i,j<k→i<(f j).length→(f' j)[i]?=some (rX j (i:Nat)))) (fun kv _=>N-(intOf kv).toNat)
 case atStart=>exact⟨0,f,aC,rfl,HA.out,fun _=>rfl,fun j i hj=>absurd hj aC⟩
 case round=>
  obtain⟨k,f',hk,rfl,hst,hl,hmk⟩:=hrel
  obtain⟨wo,rfl⟩:∃wo:World,wo=wr:=⟨_,rfl⟩
  by_cases hlt:(k:Int)<(N:Int)
  ·obtain⟨v,hv⟩:∃v,vs[k]?=some v:=⟨_,Array.getElem?_eq_getElem (i:=k) iQ⟩
   obtain⟨p,cp,rfl,hcp,hcp2⟩:=((hst.out.own k v hv).reads pSz).slice;rw[hl.out k]at hv hcp;have hn:=HLEN.out k
   obtain⟨n,hne⟩:∃n,(f k).length=n:=⟨_,rfl⟩
   rw[hne]at hv hcp hn;have HN:=hZ hne
   have HV:=hZ hv;have hn2:(n:Int)≤33000000:=aC
   have hcp3:(n:Int)≤(cp:Int):=aC;have hcp4:(cp:Int)≤9223372036854775807:=jR
   clear hne hv hcp hcp2 hn;go_wp2_with fail;go_loopw [4] (fun iv wr2=>∃(i:Nat) (f2:Nat→List PT),(i:Int)≤(n:Int)∧iv=.int .i64 i∧Hid (JK base LB vs w f2 wr2)∧Hid (∀j,(f2 j).length=(f j).length)∧Hid (∀j t,(j<k∨(j=k∧t<i))→t<(f j).length→(f2 j)[t]?=some (rX j (t:Nat)))) (fun iv _=>n-(intOf iv).toNat)
   case atStart=>exact⟨0,f',aC,rfl,hst,hl,fun j t h1 h2=>hmk.out j t aC h2⟩
   case round=>
    obtain⟨i,f2,hi2,rfl,hst2,hl2,hmk2⟩:=hrel;have cls:wr.cell? ⟨LB,k,none⟩=some (.slice p n cp):=(lF hst2.out.ls).trans HV.out
    by_cases hlt2:(i:Int)<(n:Int)
    ·have hfl:(f2 k).length=n:=(hl2.out k).trans HN.out
     obtain⟨x,hx⟩:∃x,(f2 k)[i]?=some x:=⟨_,List.getElem?_eq_getElem (i:=i) aC⟩
     obtain⟨g,cp',he,-,-,-,hrow⟩:=((hst2.out.own k _ HV.out).reads pSz).at hx;obtain⟨rfl,-,rfl⟩:=Value.slice.inj he;clear he hrow;have HX:=hZ hx
     have HFL:=hZ hfl;have hmkc:=fun W=>AU k i W aC aC aC
     have HMKC:=hZ hmkc;have hgI:=hst2.out.keep ((Below.refl _ wr).drew)
     have hcls:∀W,JK base LB vs w f2 W→W.cell? ⟨LB,k,none⟩=some (.slice (some ⟨g,0,none⟩) n cp):=fun W hI=>(lF hI.ls).trans HV.out
     have HCLS:=hZ hcls;clear hx hfl hmkc hcls;go_wp2_with fail;refine sP (JK base LB vs w f2) 9 aE aE hgI ?_;clear hgI cls;simp only[List.take_succ_cons,List.take_zero,List.drop_succ_cons,List.drop_zero];refine⟨_,mJ rfl (fun W hI=>aV),?_⟩;refine⟨_,mJ rfl (fun W hI=>aV),?_⟩;refine⟨_,mJ rfl (fun W hI=>aV),?_⟩;refine⟨_,mJ rfl (fun W hI=>by have cls:=HCLS.out W hI;go_simp;rfl),?_⟩;refine⟨_,mJ rfl (fun W hI=>aV),?_⟩;refine⟨_,mJ rfl (fun W hI=>aV),?_⟩;refine⟨_,mJ rfl (fun W hI=>aV),?_⟩;refine⟨_,Bz rfl (fun W hI=>by go_simp) (fun W hI=>(HMKC.out W).mono fun e W' ⟨he,hb⟩=>⟨he,hI.keep hb⟩),?_⟩;refine⟨_,mJ rfl (fun W hI=>aV),?_⟩;rintro W7 hI7;change wpList _ _ _ _ _ W7
     have hrow:∀j,j<2→W7.cell? ⟨g,i*2+j,none⟩=x.cells[j]?:=by
      obtain⟨g',cp',he,-,-,-,hrow⟩:=((hI7.own k _ HV.out).reads pSz).at HX.out;obtain⟨h,-,-⟩:=Value.slice.inj he
      obtain rfl:g'=g:=by cases h;rfl
      exact hrow
     obtain⟨M,hM⟩:∃M,rX k (i:Nat)=M:=⟨_,rfl⟩
     obtain⟨cur,hcur,hsz,hst3⟩:=ApA.store (i:=i) (x:=M) pSz aA HAP.out hI7 HV.out (by rw[HFL.out];omega);rw[hM];have c0:=DC hrow (j:=0) aA rfl
     have c1:=DC hrow (j:=1) aA rfl;rw[Nat.add_zero]at c0;have fr:∀t:Nat,W7.frozen? ⟨g,t,none⟩=false:=fun t=>lI hcur
     have HCUR:=hZ hcur;have HST3:=hZ hst3
     have HMM:=hZ hM;clear hcur hsz hst3 hM hrow hI7;go_wp2_with fail
     case roundEnd=>
      rw[M0 HCUR.out];refine⟨⟨i+1,fun j=>if j=k then(f2 k).set i M else f2 j,aC,aG,HST3,fun j=>?_,fun j t h1 h2=>?_⟩,cN⟩
      ·show(if j=k then(f2 k).set i M else f2 j).length=_;by_cases e:j=k
       ·rw[if_pos e,List.length_set,hl2.out,e]
       ·rw[if_neg e,hl2.out]
      ·show(if j=k then(f2 k).set i M else f2 j)[t]?=_;by_cases e:j=k
       ·subst e;rw[if_pos rfl,List.getElem?_set];by_cases e2:i=t
        ·subst e2;rw[if_pos rfl,if_pos (by rw[HFL.out];omega),HMM.out]
        ·rw[if_neg e2];exact hmk2.out j t aC h2
       ·rw[if_neg e];exact hmk2.out j t aC h2
    ·go_wp2_with fail
     case roundEnd=>
      exact⟨⟨k+1,f2,aC,aG,hst2,hl2,fun j t h1 h2=>hmk2.out j t (by
       have hn:=HN.out;by_cases e:j=k
       ·rw[e]at h2;omega
       ·omega) h2⟩,cN⟩
  ·have hfe:∀j,j<N→f' j=mkP j (f j).length:=fun j hj=>by
    refine List.ext_getElem? fun t=>?_
    by_cases ht:t<(f j).length
    ·rw[hmk.out j t aC ht,Hv ht]
    ·rw[List.getElem?_eq_none (by rw[hl.out];omega),List.getElem?_eq_none (by rw[wW];omega)]
   obtain⟨a,ha⟩:∃a:Nat→List PT,a=fun j=>mkP j (f j).length:=⟨_,rfl⟩
   obtain⟨c,hcd⟩:∃c:Nat→List PT,c=fun j=>mkP j ((f j).length+64):=⟨_,rfl⟩
   have hA2:JK base LB vs w a wo:=⟨hst.out.ls,fun j v hv=>by
    have hj:=(Array.getElem?_eq_some_iff.1 hv).1;have:=hst.out.own j v hv
    rw[hfe j iQ]at this;rw[ha];exact this,hst.out.bel,hst.out.hb0⟩
   have HO:=hZ (ApO.start (base2:=wo.heap.size) (c:=c) hA2 pSz);have HA2:=hZ ha
   have HC2:=hZ hcd;have HB2:=hZ (show LB<wo.heap.size∧base≤wo.heap.size from⟨lH hst.out.ls,Nat.le_trans HBS.out hst.out.bel.size⟩)
   obtain⟨base2,hb2⟩:∃b,wo.heap.size=b:=⟨_,rfl⟩
   rw[hb2]at HO HB2;have HB0:=hZ (show base2≤wo.heap.size by omega)
   clear hfe hA2 hst hl hmk ha hcd hb2;go_wp2_with fail;go_loopw [5,6] (fun uv kv wr=>∃(k:Nat) (G:List Value),(k:Int)≤(N:Int)∧kv=.int .i64 k∧Hid (G.length=k)∧Hid (base2≤wr.heap.size)∧Hid (NC base base2 LB vs w a c k G uv wr)) (fun _ kv _=>N-(intOf kv).toNat)
   case atStart=>exact⟨0,[],aC,rfl,rfl,HB0,HO⟩
   case round=>
    obtain⟨k,G,hk,rfl,hG,hbz,hst⟩:=hrel
    obtain⟨wp,rfl⟩:∃wp:World,wp=wr:=⟨_,rfl⟩
    by_cases hlt:(k:Int)<(N:Int)
    ·obtain⟨v,hv⟩:∃v,vs[k]?=some v:=⟨_,Array.getElem?_eq_getElem (i:=k) iQ⟩
     obtain⟨p,cp,hve,hcp,hcp2⟩:=(hst.out.rd k v hv).slice;have hn:=HLEN.out k
     obtain⟨n,hne⟩:∃n,(f k).length=n:=⟨_,rfl⟩
     have hal:a k=mkP k n:=by rw[HA2.out,←hne]
     rw[hal,wW]at hve hcp;rw[hne]at hn;subst hve;have HV:=hZ hv
     have HAL:=hZ hal;have HNN:=hZ hne
     have hn2:(n:Int)≤33000000:=aC;have hcp3:(n:Int)≤(cp:Int):=aC
     have hcp4:(cp:Int)≤9223372036854775807:=jR;have cls:wp.cell? ⟨LB,k,none⟩=some (.slice p n cp):=(lF hst.out.ls).trans hv
     have hst0:=hst.out.enter HAP.out hv;rw[hal]at hst0;have HST0:=hZ hst0
     clear hv hcp hcp2 hn hne hal hst0;go_wp2_with fail;clear cls;go_loopw [7,8] (fun gv iv wr=>∃(i:Nat),(i:Int)≤64∧iv=.int .i64 i∧Hid (base2≤wr.heap.size)∧Hid (NB base base2 LB vs w a c k G u5 (mkP k (n+i)) gv wr)) (fun _ iv _=>64-(intOf iv).toNat)
     case atStart=>exact⟨0,aC,rfl,hbz,HST0⟩
     case round=>
      obtain⟨i,hi2,rfl,hbz2,hst2⟩:=hrel;by_cases hlt2:(i:Int)<64
      ·have cls:wr.cell? ⟨LB,k,none⟩=some (.slice p n cp):=(lF hst2.out.ls).trans HV.out;have hmkc:=fun W=>AU k ((n:Int)+(i:Int)) W aC aC aC
       obtain⟨M,hM⟩:∃M,rX k ((n:Int)+(i:Int))=M:=⟨_,rfl⟩
       rw[hM]at hmkc;have HM:=hZ hM
       have HMKC:=hZ hmkc;clear hmkc hM;go_wp2_with fail;refine(HMKC.out _).mono ?_;rintro e w1 ⟨rfl,hb1⟩;have HST3:=hZ (hst2.out.keep hb1)
       have HZ1:=hZ (Nat.le_trans hbz2.out hb1.size);have hcur:=HST3.out.cur
       unfold OwnG at hcur;rw[wW]at hcur;have HCUR:=hZ hcur
       have HBZ:=hZ (show base≤w1.heap.size from Nat.le_trans HBS.out (Nat.le_trans HST3.out.bel.size (Nat.le_refl _)));clear hb1 hcur cls HMKC
       go_wp2_with (first
        |(at_builtin;refine rF rfl _ _ 79 rfl base 83 i0 (.agg zp) 2 32 Tryz.underlying79 hi hz0 hz1 hz2 rfl aA _ _ _ rfl (HCUR.out.alloc _) ⟨w1.heap.size,0,none⟩ 1 1 M.cells.toList rfl rfl (ND w1 M _) (NE M) aA cT aC (by have:=HBZ.out;rw[World.size_alloc];omega) ?_;intro v' w2 hown' hgrow)
        |fail)
       case roundEnd=>
        obtain⟨zs,hzs⟩:=Mo k n i;have h3:=ApC.app (x:=M) pSz aA (HST3.out.keep ((Below.refl _ w1).alloc (Nat.le_refl _) _)) HV.out (by rw[hzs,HAL.out]) (by rw[wW];exact hown') hgrow
        have e:mkP k (n+i)++[M]=mkP k (n+(i+1)):=by rw[←Nat.add_assoc,F6,←HM.out,Int.natCast_add]
        rw[e]at h3
        have hz2:base2≤w2.heap.size:=by
         have:=HZ1.out;rcases hgrow with⟨_,hg⟩|⟨_,hg⟩
         ·have:=hg.size;rw[World.size_alloc]at this;omega
         ·have:=hg.size;rw[World.size_alloc]at this;omega
        exact⟨⟨i+1,aC,aG,hz2,h3⟩,cN⟩
      ·obtain rfl:i=64:=by omega
       obtain⟨p7,c7,hu7,-,-⟩:=(hst2.out.cur.reads pSz).slice;rw[wW]at hu7;subst hu7;have hgs:=hst2.out.gs
       rw[hG.out]at hgs;have HGS:=hZ hgs
       clear hgs
       go_wp2_with (first
        |(at_builtin;refine wpList_append_own _ rfl _ _ 117 rfl base2 79 j0 (.slice none 0 0) 1 24 Tryz.underlying117 ki kz0 kz1 kz2 rfl aA _ _ _ rfl (HGS.out.alloc _) ⟨wr.heap.size,0,none⟩ 1 1 [.slice p7 (n+64) c7] rfl rfl (cell_one_new wr _ _) (by intro u hu;rw[List.mem_singleton.1 hu];rfl) cT aC (by have:=hbz2.out;rw[World.size_alloc];omega) ?_;intro v' w2 hown' hgrow _)
        |fail)
       case roundEnd=>
        have h4:=ApC.leave aA HB2.out.1 HB2.out.2 (hst2.out.keep ((Below.refl _ wr).alloc (Nat.le_refl _) _)) hG.out (by rw[HC2.out,←HNN.out]) (by rw[hG.out];exact hown') hgrow;refine⟨⟨k+1,_,aC,aG,(by show _=_;rw[List.length_append,hG.out];rfl),?_,h4⟩,cN⟩;have:=hgrow.size
        have:=hbz2.out;rw[World.size_alloc]at*;show base2≤_
        omega
    ·obtain rfl:k=N:=by omega
     have HR:=hZ (hst.out.done pSz);have hgs:=hst.out.gs
     rw[hG.out]at hgs
     obtain⟨gb,gc,rfl,hgc1,hgc2⟩:∃gb gc,u5=.slice (some ⟨gb,0,none⟩) k gc∧(k:Int)≤(gc:Int)∧(gc:Int)≤9223372036854775807:=by
      rcases hgs.2 with⟨_,h0⟩|⟨g,cap,cur,h1,_,_,h4,h5,_⟩
      ·omega
      ·exact⟨g,cap,h1,aC,by unfold maxLen at h5;omega⟩
     clear hgs;go_wp2_with fail;go_loopw [9] (fun kv wr=>∃(q:Nat),(q:Int)≤(k:Int)∧kv=.int .i64 q∧Hid (Nm base base2 LB vs w a c G (.slice (some ⟨gb,0,none⟩) k gc) wr)) (fun kv _=>k-(intOf kv).toNat)
     case atStart=>exact⟨0,aC,rfl,HR⟩
     case round=>
      obtain⟨q,hq,rfl,hst3⟩:=hrel
      obtain⟨wq,rfl⟩:∃wq:World,wq=wr:=⟨_,rfl⟩
      by_cases hltq:(q:Int)<(k:Int)
      ·obtain⟨v,hv⟩:∃v,vs[q]?=some v:=⟨_,Array.getElem?_eq_getElem (i:=q) iQ⟩
       obtain⟨x,hx⟩:∃x,G[q]?=some x:=⟨_,List.getElem?_eq_getElem (i:=q) (by have:=hG.out;omega)⟩
       obtain⟨p,cp,hve,hcp,hcp2⟩:=(hst3.out.rd q v hv).slice;obtain⟨p2,cp2,hxe,hcq,hcq2⟩:=(hst3.out.rdC q x hx).slice;have hn:=HLEN.out q
       obtain⟨n,hne⟩:∃n,(f q).length=n:=⟨_,rfl⟩
       have hal:a q=mkP q n:=by rw[HA2.out,←hne]
       have hcl:c q=mkP q (n+64):=by rw[HC2.out,←hne]
       rw[hal,wW]at hve hcp;rw[hcl,wW]at hxe hcq;rw[hne]at hn;subst hve;subst hxe;have HV:=hZ hv
       have HX:=hZ hx;have HAL:=hZ hal
       have HCL:=hZ hcl;have hn2:(n:Int)≤33000000:=aC
       have hcp3:(n:Int)≤(cp:Int):=aC;have hcp4:(cp:Int)≤9223372036854775807:=jR
       have hcq3:(n:Int)+64≤(cp2:Int):=aC;have hcq4:(cp2:Int)≤9223372036854775807:=by unfold maxLen at hcq2;omega
       have hqk:q<k:=aC;clear hv hx hcp hcp2 hn hne hal hcl hcq hcq2;go_wp2_with fail;go_loopw [10] (fun iv wr=>∃(i:Nat),(i:Int)≤(n:Int)+64∧iv=.int .i64 i∧Hid (Nm base base2 LB vs w a c G (.slice (some ⟨gb,0,none⟩) k gc) wr)) (fun iv _=>n+64-(intOf iv).toNat)
       case atStart=>exact⟨0,aC,rfl,hst3⟩
       case round=>
        obtain⟨i,hi2,rfl,hst4⟩:=hrel;have hgc:wr.cell? ⟨gb,q,none⟩=some (.slice p2 (n+64) cp2):=F7 hst4.out.gs (by rw[hG.out]) HX.out
        by_cases hlti:(i:Int)<(n:Int)+64
        ·have hmkc:=fun W=>AU q i W aC aC aC
         obtain⟨M,hM⟩:∃M,rX q (i:Nat)=M:=⟨_,rfl⟩
         rw[hM]at hmkc;have HM:=hZ hM
         have HMKC:=hZ hmkc;clear hmkc hM;go_wp2_with fail;refine(HMKC.out _).mono ?_;rintro e w1 ⟨rfl,hb1⟩;have HST5:=hZ ((hst4.out.keep hb1).keep ((Below.refl _ w1).alloc (Nat.le_refl _) (.cells M.cells 83)))
         clear hb1 hgc HMKC;go_wp2_with fail;have cw:=vO w1 M.cells 83
         change Code.wp _ _ _ _ (w1.alloc (.cells M.cells 83))
         obtain⟨w3,hw3⟩:∃w3,w1.alloc (.cells M.cells 83)=w3:=⟨_,rfl⟩
         rw[hw3]at cw HST5⊢;clear hw3;have cgs:w3.cell? ⟨gb,q,none⟩=some (.slice p2 (n+64) cp2):=F7 HST5.out.gs (by rw[hG.out]) HX.out
         have cls:w3.cell? ⟨LB,q,none⟩=some (.slice p n cp):=(lF HST5.out.ls).trans HV.out;obtain⟨h,cp',he,-,-,-,hrow⟩:=(HST5.out.rdC q _ HX.out).at (i:=i) (x:=M) (by rw[HCL.out,Hv aC,HM.out]);obtain⟨rfl,-,-⟩:=Value.slice.inj he;have d0:=DC hrow (j:=0) aA rfl
         have d1:=DC hrow (j:=1) aA rfl;rw[Nat.add_zero]at d0;have HST6:=hZ (HST5.out.keep ((Below.refl _ w3).drew))
         clear he hrow;by_cases hin:(i:Int)<(n:Int)
         ·obtain⟨g,cp3,he,-,-,-,hrow2⟩:=(HST5.out.rd q _ HV.out).at (i:=i) (x:=M) (by rw[HAL.out,Hv aC,HM.out]);obtain⟨rfl,-,-⟩:=Value.slice.inj he;have c0:=DC hrow2 (j:=0) aA rfl
          have c1:=DC hrow2 (j:=1) aA rfl;rw[Nat.add_zero]at c0;clear he hrow2 HST5;go_region;clear cgs cls cw d0 d1 c0 c1;go_wp2_with fail
          case roundEnd=>
           exact⟨⟨i+1,aC,aG,HST6⟩,cN⟩
         ·clear HST5;go_region;clear cgs cls cw d0 d1;go_wp2_with fail
          case roundEnd=>
           exact⟨⟨i+1,aC,aG,HST6⟩,cN⟩
        ·go_wp2_with fail
         case roundEnd=>
          exact⟨⟨q+1,aC,aG,hst4⟩,cN⟩
      ·go_wp2_with fail;go_ret;exact⟨rfl,hst3.out.bel⟩
end Go.Proofs.YtdkedmngeahjiaaGreatDoor
