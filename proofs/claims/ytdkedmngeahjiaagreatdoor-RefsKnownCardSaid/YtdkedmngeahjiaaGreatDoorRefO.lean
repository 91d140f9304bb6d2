import Derived.Test.YtdkedmngeahjiaaGreatDoorM10
import Derived.Test.YtdkedmngeahjiaaGreatDoorM14
import Derived.Test.YtdkedmngeahjiaaGreatDoorM9
set_option maxRecDepth 100000
set_option maxHeartbeats 25600000
namespace Go.Proofs.YtdkedmngeahjiaaGreatDoor
theorem gC{p:Prop}(h:p:=by exact⟨_,rfl,HGt.out.row.rowS.sup (fun b hb2=>.inr ⟨Nat.le_trans HB.out.size hb2.1,hb2.2⟩),hb⟩):p:=h
theorem jV{p:Prop}(h:p:=by exact⟨_,rfl,by rw[HA2.out];exact H1.out.sup (fun _=>.inl),HB.out⟩):p:=h
open Go Go.RowKit Go.Maps Go.WideAt Go.WideShapes
structure ROp where
 kind:Int
 old:ByteArray
 name:ByteArray
 file:Nat
def ROp.dop(o:ROp):DOp:=if o.kind=1 then .create o.name o.file else if o.kind=5 then .remove o.name else .rename o.old o.name
def oE(o:ROp):Array Value:=#[.int .i64 o.kind,.string o.old,.string o.name,.int .i64 o.file]
theorem Ls(o:ROp):(oE o).size=4:=rfl
theorem A0(o:ROp):∀u∈(oE o).toList,u.oneCell'=true:=by
 intro u hu;have h:u=.int .i64 o.kind∨u=.string o.old∨u=.string o.name∨u=.int .i64 o.file:=by simpa[oE]using hu
 rcases h with rfl|rfl|rfl|rfl<;>rfl
theorem Gath.links{S:Nat→Prop}{w w':World}{u:Value}{t:Tab}(h:Gath w w' u t):oB (mU S w w') w' u t:=h.row.rowS.sup (fun _ hb=>.inr hb)
structure RenW (w:World) (b0:Nat) (o:ROp) (t:Tab) (i:Nat) (L:Nat→Bool) (γ:Value×Value) (W:World):Prop where
 box:W.heap[b0]?=some (.cells (oE o) 175 (0,0))
 bel:Below w.heap.size w W
 one:L 3=true→oB (fun b=>w.heap.size≤b∧b<W.heap.size) W γ.1 (nF t o.old.data.toList)
 two:L 7=true→oB (fun b=>w.heap.size≤b∧b<W.heap.size) W γ.2 (oJ (nF t o.old.data.toList) o.name.data.toList i)
 c7:L 7=true→L 3=true
 c8:L 8=true→L 7=true
section
variable {w W W':World} {b0 i:Nat} {o:ROp} {t:Tab} {L:Nat→Bool} {γ:Value×Value}
theorem RenW.upd(h:RenW w b0 o t i L γ W)(k:Nat)(hk:k≠3∧k≠7)(h7:k=8→L 7=true):RenW w b0 o t i (mQ L k) γ W:=
 ⟨h.box,h.bel,fun hx=>h.one (mZ hx (Ne.symm hk.1)),fun hx=>h.two (mZ hx (Ne.symm hk.2)),fun hx=>(mB (Ne.symm hk.1)).trans (h.c7 (mZ hx (Ne.symm hk.2))),fun hx=>(mB (Ne.symm hk.2)).trans (by
  by_cases e:k=8
  ·exact h7 e
  ·exact h.c8 (mZ hx (Ne.symm e)))⟩
theorem RenW.cell(h:RenW w b0 o t i L γ W)(k:Nat):W.cell? ⟨b0,k,none⟩=(oE o)[k]?:=lF h.box
theorem RenW.w1(h:RenW w b0 o t i L γ W)(hL:L 3=false){u:Value}(hg:Gath W W' u (nF t o.old.data.toList)):RenW w b0 o t i (mQ L 3) (u,γ.2) W':=
 ⟨(hg.bel.block _ (lH h.box)).trans h.box,h.bel.trans (hg.bel.mono h.bel.size),fun _=>hg.row.rowS.sup (fun b hb=>⟨Nat.le_trans h.bel.size hb.1,hb.2⟩),
  fun hx=>absurd (h.c7 (mZ hx aA)) (by rw[hL];exact Bool.false_ne_true),fun _=>nV,fun hx=>(mB aA).trans (h.c8 (mZ hx aA))⟩
theorem RenW.w2(h:RenW w b0 o t i L γ W)(hL:L 3=true){u:Value}(hg:Gath W W' u (oJ (nF t o.old.data.toList) o.name.data.toList i)):RenW w b0 o t i (mQ L 7) (γ.1,u) W':=
 ⟨(hg.bel.block _ (lH h.box)).trans h.box,h.bel.trans (hg.bel.mono h.bel.size),
  fun hx=>((h.one hL).keep (fun b _ hb _=>hg.bel.block b hb.2)).sup (fun b hb=>⟨hb.1,Nat.lt_of_lt_of_le hb.2 hg.bel.size⟩),
  fun _=>hg.row.rowS.sup (fun b hb=>⟨Nat.le_trans h.bel.size hb.1,hb.2⟩),fun _=>(mB aA).trans hL,fun _=>nV⟩
end
theorem Gk{t:Tab}(hr:mF t)(k:Bs){i:Nat}(h:lS t k=some i):oJ (nF t k) k i=t:=
 BC (nP (nY hr)) hr fun j=>by
  rw[oC (nY hr)];by_cases e:j=k
  ·rw[if_pos e,e,h]
  ·rw[if_neg e,pI hr,if_neg e]
theorem Av{S:Nat→Prop}{w:World}{v:Value}{t:Tab}(h:oB S w v t)(hS:∀b,S b→b<w.heap.size)(hr:mF t)(o:ROp)(hl:t.length≤2000000000000)(hi:∀p∈t,(p.2:Int)≤9223372036854775807)(hf:(o.file:Int)≤9223372036854775807):
  Calls Tryz.prog 157 #[v,.agg (oE o)] w fun e w'=>∃u,e=.returned u∧oB (mU S w w') w' u (o.dop.act t)∧Below w.heap.size w w':=by
 obtain⟨kind,old,name,file⟩:=o;show Calls _ _ #[v,.agg #[.int .i64 kind,.string old,.string name,.int .i64 file]] w _
 obtain⟨p,c,rfl⟩:=h.form
 obtain⟨N,hN⟩:∃N,t.length=N:=⟨_,rfl⟩
 rw[hN]at h⊢;have hb0:=(Below.refl w.heap.size w).alloc (Nat.le_refl _) (.cells #[.int .i64 kind,.string old,.string name,.int .i64 file] 175)
 have HB:=hZ hb0;have H1:=hZ (h.keep (fun b _ hb _=>hb0.block b (hS b hb)))
 have HSl:=hZ (show∀b,S b→b<(w.alloc (.cells #[.int .i64 kind,.string old,.string name,.int .i64 file] 175)).heap.size from fun b hb=>Nat.lt_of_lt_of_le (hS b hb) hb0.size);have HBX:=hZ (lP w (.cells #[.int .i64 kind,.string old,.string name,.int .i64 file] 175))
 have HL0:=hZ h;have HS0:=hZ hS
 have HR:=hZ hr;have HL:=hZ hl
 have HI:=hZ hi;have HN:=hZ hN
 have c0:(w.alloc (.cells #[.int .i64 kind,.string old,.string name,.int .i64 file] 175)).cell? ⟨w.heap.size,0,none⟩=some (.int .i64 kind):=lF HBX.out;have c1:(w.alloc (.cells #[.int .i64 kind,.string old,.string name,.int .i64 file] 175)).cell? ⟨w.heap.size,1,none⟩=some (.string old):=lF HBX.out
 have c2:(w.alloc (.cells #[.int .i64 kind,.string old,.string name,.int .i64 file] 175)).cell? ⟨w.heap.size,2,none⟩=some (.string name):=lF HBX.out;have c3:(w.alloc (.cells #[.int .i64 kind,.string old,.string name,.int .i64 file] 175)).cell? ⟨w.heap.size,3,none⟩=some (.int .i64 file):=lF HBX.out
 clear h hS hb0 hr hl hi hN;by_cases hk1:kind=1
 ·subst hk1;go_enter Tryz.func157,Tryz.ntmps157;go_wp2_with fail;refine(CS H1.out HSl.out HR.out name file HL.out hf).mono ?_;rintro e w1 ⟨u,rfl,hg⟩;have HGt:=hZ hg
  clear hg;go_wp2_with fail;go_ret;have hb:=HB.out.trans (HGt.out.bel.mono HB.out.size)
  exact gC
 ·have hb1:(kind==1)=false:=beq_eq_false_iff_ne.2 hk1;by_cases hk5:kind=5
  ·subst hk5;go_enter Tryz.func157,Tryz.ntmps157;go_wp2_with fail;refine(A3 H1.out HSl.out name (Nat.le_trans HL.out aA)).mono ?_;rintro e w1 ⟨u,rfl,hg⟩;have HGt:=hZ hg
   clear hg;go_wp2_with fail;go_ret;have hb:=HB.out.trans (HGt.out.bel.mono HB.out.size)
   exact gC
  ·have hb5:(kind==5)=false:=beq_eq_false_iff_ne.2 hk5
   have HA:=hZ (show(ROp.dop ⟨kind,old,name,file⟩).act t=match lS t old.data.toList with|some i=>oJ (nF t old.data.toList) name.data.toList i|none=>t by
    unfold ROp.dop;rw[if_neg hk1,if_neg hk5]
    rfl)
   have hat:=wK H1.out old (Nat.le_trans HL.out aA)
   cases hg:lS t old.data.toList with
   |none=>
    have ha:=HA.out;rw[hg]at ha;rw[rJ hg]at hat;have HA2:=hZ ha
    clear ha HA hg;go_enter Tryz.func157,Tryz.ntmps157;go_wp2_with fail;refine hat.mono ?_;rintro e w1 ⟨rfl,hx⟩;subst hx;go_wp2_with fail;go_ret;exact jV
   |some i=>
    obtain⟨j,hj,hjt⟩:=qK hg;rw[hj]at hat;have ha:=HA.out
    rw[hg]at ha;have HHAT:=hZ hat
    have HJT:=hZ hjt;have hjn:(j:Int)<(N:Int):=by have:=(List.getElem?_eq_some_iff.1 hjt).1;have:=HN.out;omega
    have hji:¬(j:Int)<0:=aC;clear hat hj hjt HA;by_cases hon:old=name
    ·subst hon;have HA2:=hZ (show(ROp.dop ⟨kind,old,old,file⟩).act t=t by rw[ha];exact Gk HR.out _ hg)
     clear ha hg;go_enter Tryz.func157,Tryz.ntmps157;go_wp2_with fail;refine HHAT.out.mono ?_;rintro e w1 ⟨rfl,hx⟩;subst hx;go_wp2_with fail;go_ret;exact jV
    ·have HA2:=hZ ha;have HII:=hZ (show(i:Int)≤9223372036854775807 from HI.out _ (mW hg))
     clear ha hg;have hbn:=wJ hon
     obtain⟨g,cur,rfl,-,-,hc⟩:=H1.out.cell sO HJT.out;have d1:(w.alloc (.cells #[.int .i64 kind,.string old,.string name,.int .i64 file] 175)).cell? ⟨g,j*2+1,none⟩=some (.int .i64 i):=hc 1 aA
     clear hc;go_enter Tryz.func157,Tryz.ntmps157;go_wp2_with fail;refine HHAT.out.mono ?_;rintro e w1 ⟨rfl,hx⟩;subst hx;go_wp2_with fail
     have hI0:RenW w w.heap.size ⟨kind,old,name,file⟩ t i (fun _=>false) (undef,undef) (w.alloc (.cells #[.int .i64 kind,.string old,.string name,.int .i64 file] 175)).drew:=
      ⟨HBX.out,HB.out.drew,fun h=>aK,fun h=>aK,fun h=>aK,fun h=>aK⟩
     refine lQ (fun γ=>[.slice (some ⟨g,0,none⟩) N c,.pointer (some ⟨w.heap.size,1,none⟩),.string old,γ.1,.pointer (some ⟨w.heap.size,2,none⟩),.string name,.int .i64 i,γ.2,γ.2]) (RenW w w.heap.size ⟨kind,old,name,file⟩ t i)
      [[],[],[1],[0,2],[],[4],[],[3,5,6,3],[7,7,0,1,2,3,4,5,6,7]] 50 (undef,undef) mC rfl aE (fun _=>rfl) hI0 ?_ ?_
     ·refine⟨?_,?_,?_,?_,?_,?_,?_,?_,?_,rfl⟩
      all_goals intro L γ W ev hL hd hW hc hf hg he h0
      ·have e0:ev (.tmp 0)=.slice (some ⟨g,0,none⟩) N c:=h0 0 rfl;clear he h0 hc hf hg;exact flS rfl aD (hW.upd 0 aA (fun e=>aO)) rfl
      ·have e3:ev (.tmp 3)=.pointer (some ⟨w.heap.size,0,none⟩):=h0 3 rfl;clear he h0 hc hf hg;exact flS rfl aD (hW.upd 1 aA (fun e=>aO)) rfl
      ·have e43:ev (.tmp 43)=.pointer (some ⟨w.heap.size,1,none⟩):=he 1 aA _ 43 rfl rfl;have c:=hW.cell 1
       clear he h0 hc hf hg;exact flS rfl aD (hW.upd 2 aA (fun e=>aO)) rfl
      ·have e42:ev (.tmp 42)=.slice (some ⟨g,0,none⟩) N c:=he 0 aA _ 42 rfl rfl;have e44:ev (.tmp 44)=.string old:=he 2 aA _ 44 rfl rfl
       clear he h0 hc hg;have hl:oB S W (.slice (some ⟨g,0,none⟩) N c) t:=HL0.out.keep (fun b _ hb _=>hW.bel.block b (HS0.out b hb))
       have hlt:∀b,S b→b<W.heap.size:=fun b hb=>Nat.lt_of_lt_of_le (HS0.out b hb) hW.bel.size
       refine .inl ⟨rfl,.inr (.inr ⟨188,#[.slice (some ⟨g,0,none⟩) N c,.string old],W,(by have hff:=hf 188;clear hf;go_simp<;>rfl),?_⟩)⟩;refine(A3 hl hlt old (Nat.le_trans HL.out aA)).mono ?_;rintro e w' ⟨u,rfl,hg⟩
       exact⟨u,rfl,(u,γ.2),hW.w1 hL hg,rfl,fun j hj=>by
        have hj2:j≠3:=fun e=>cS
        match j,hj2 with
        |0,_|1,_|2,_|4,_|5,_|6,_|7,_|8,_=>rfl
        |n+9,_=>rfl⟩
      ·have e3:ev (.tmp 3)=.pointer (some ⟨w.heap.size,0,none⟩):=h0 3 rfl;clear he h0 hc hf hg;exact flS rfl aD (hW.upd 4 aA (fun e=>aO)) rfl
      ·have e46:ev (.tmp 46)=.pointer (some ⟨w.heap.size,2,none⟩):=he 4 aA _ 46 rfl rfl;have c:=hW.cell 2
       clear he h0 hc hf hg;exact flS rfl aD (hW.upd 5 aA (fun e=>aO)) rfl
      ·have e6:ev (.tmp 6)=.int .i64 i:=h0 6 rfl;clear he h0 hc hf hg;exact flS rfl aD (hW.upd 6 aA (fun e=>aO)) rfl
      ·have e45:ev (.tmp 45)=γ.1:=he 3 aA _ 45 rfl rfl;have e47:ev (.tmp 47)=.string name:=he 5 aA _ 47 rfl rfl
       have e48:ev (.tmp 48)=.int .i64 i:=he 6 aA _ 48 rfl rfl;clear he h0 hc hg;have h3:L 3=true:=hd 3 aA
       refine .inl ⟨rfl,.inr (.inr ⟨187,#[γ.1,.string name,.int .i64 i],W,(by have hff:=hf 187;clear hf;go_simp<;>rfl),?_⟩)⟩;refine(CS (hW.one h3) (fun b hb=>hb.2) (nY HR.out) name i (Nat.le_trans (A2 _ _) HL.out) HII.out).mono ?_;rintro e w' ⟨u,rfl,hg⟩
       exact⟨u,rfl,(γ.1,u),hW.w2 h3 hg,rfl,fun j hj=>by
        have hj2:j≠7:=fun e=>cS
        have hj3:j≠8:=fun e=>by subst e;exact absurd (hW.c8 hj) (by rw[hL];exact Bool.false_ne_true)
        match j,hj2,hj3 with
        |0,_,_|1,_,_|2,_,_|3,_,_|4,_,_|5,_,_|6,_,_=>rfl
        |n+9,_,_=>rfl⟩
      ·have e49:ev (.tmp 49)=γ.2:=he 7 aA _ 49 rfl rfl;clear he h0 hc hf hg;exact flS rfl aD (hW.upd 8 aA (fun _=>hd 7 aA)) rfl
     ·intro γ L W hL hW;simp only[nX,Act.put,List.setIfInBounds_toArray,List.set_cons_succ,List.set_cons_zero];have h7:=hW.two (hL 7 aA)
      obtain⟨u1,u2⟩:=γ;obtain⟨up,uc,rfl⟩:=h7.form;have H7:=hZ h7
      have HBW:=hZ hW.bel;clear hL hW h7;go_wp2_with fail;go_ret;exact⟨_,rfl,by rw[HA2.out];exact H7.out.sup (fun b hb=>.inr hb),HBW.out⟩
end Go.Proofs.YtdkedmngeahjiaaGreatDoor
