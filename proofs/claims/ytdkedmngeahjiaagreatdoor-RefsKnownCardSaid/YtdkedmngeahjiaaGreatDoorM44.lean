import Derived.Test.YtdkedmngeahjiaaGreatDoorM40
import Derived.Test.YtdkedmngeahjiaaGreatDoorM42
set_option maxRecDepth 100000
set_option maxHeartbeats 25600000
namespace Go.Proofs.YtdkedmngeahjiaaGreatDoor
theorem bI{p:Prop}(h:p:=by rw[List.filter_cons,hrr];rfl):p:=h
theorem dD{p:Prop}(h:p:=by rw[World.size_alloc];have:=HB5.out.size;omega):p:=h
theorem fE{p:Prop}(h:p:=by have:=HB5.out.size;omega):p:=h
theorem kP{p:Prop}(h:p:=by rw[←hW6];exact⟨rfl,rfl,rfl,Nat.le_refl _,fun _ _=>rfl⟩):p:=h
open Go Go.RowKit
theorem Bo{m:DM}{s:ByteArray}(h:s∈m.lists ⟨refHead.toArray⟩):s.data.toList.take 5=refHead:=by
 unfold DM.lists at h;split at h
 ·cases h
 ·obtain⟨p,hp,rfl⟩:=List.mem_map.1 h;have h1:=(List.mem_filter.1 hp).2
  unfold mY Lib.hasPrefix at h1;rw[List.isPrefixOf_iff_prefix]at h1;obtain⟨r,hr⟩:=h1;show p.1.take 5=refHead
  rw[←hr]
  rfl
def IE(w:World)(S P:Nat→Prop)(a n:Nat)(w1:World)(m:DM)(e:Ending)(w':World):Prop:=
 ∃v,e=.returned v∧(((mX m).2=0∧∃sb,v=.tuple #[.pointer (some ⟨sb,0,none⟩),.int .i64 0]∧w1.heap.size≤sb∧RRf w S (fun b=>P b∨b=sb) sb a w' (n+(qG m).length+1) (mX m).1)∨
  ((mX m).2≠0∧v=.tuple #[.pointer none,.int .i64 (mX m).2]∧RSt w S P a w' (n+(qG m).length+1) (mX m).1))∧SameP P w1 w'
theorem RRf.drop{w w1:World}{S P Q:Nat→Prop}{sb a n n':Nat}{m:DM}(h:RRf w S (fun b=>(P b∨b=sb)∨Q b) sb a w1 n m)(hn:n≤n'):RRf w S (fun b=>P b∨b=sb) sb a w1 n' m:=
 ⟨(h.st.sub _ (fun b hb=>.inl hb)).more hn,h.box,.inr rfl⟩
theorem F2{w w1:World}{S P:Nat→Prop}{a n:Nat}{m:DM}(h:RSt w S P a w1 n m)(hnm:∀p∈m.now,(mP p).size≤140737488355328)(hn:n≤1000000000)(hsh:∀s∈m.lists ⟨refHead.toArray⟩,s.size≤200):
  Calls Tryz.prog 56 #[.pointer (some ⟨a,0,none⟩)] w1 (IE w S P a n w1 m):=by
 obtain⟨i0,hi,hz0,hz1,hz2⟩:=info_parts CP;have hb0:Below w1.heap.size w1 (w1.alloc (pR a)):=(Below.refl _ _).alloc (Nat.le_refl _) _
 have HS1:Hid (RRf w S (fun b=>P b∨b=w1.heap.size) w1.heap.size a (w1.alloc (pR a)) n m):=hZ
  ⟨h.bel hb0 _ (fun b hb=>by
   rcases hb with hb|rfl
   ·exact .inl hb
   ·exact .inr ⟨Nat.le_refl _,cO⟩),lP _ _,.inr rfl⟩
 have HM1:Hid (SameP P w1 (w1.alloc (pR a))):=hZ (h.same hb0)
 have hlN:(m.lists ⟨refHead.toArray⟩).length≤n:=by
  unfold DM.lists;split
  ·exact gH
  ·rw[List.length_map];exact Nat.le_trans (List.length_filter_le _ _) h.ok.nowN
 have hhd:∀s∈m.lists ⟨refHead.toArray⟩,s.data.toList.take 5=refHead:=fun s hs=>Bo hs
 have HSH0:=hZ hsh;have hls:=Cg HS1.out.st aC hnm ⟨#[114,101,102,115,47]⟩ aA
 have hlq:m.lists ⟨refHead.toArray⟩=m.lists ⟨#[114,101,102,115,47]⟩:=rfl;rw[hlq]at hlN;rw[←hlq]at hls hlN
 obtain⟨L,hL⟩:∃L,m.lists ⟨refHead.toArray⟩=L:=⟨_,rfl⟩
 rw[hL]at hls hlN HSH0 hhd;have HHD:=hZ hhd
 clear hhd;have HL:=hZ hL
 have HSH:=HSH0
 obtain⟨N,hN⟩:∃N,L.length=N:=⟨_,rfl⟩
 have HN:=hZ hN;rw[hN]at hlN;have HNN:Hid (N≤n∧n≤1000000000):=hZ ⟨hlN,hn⟩
 clear hb0 h hsh hnm hlN hL hN hn hlq HSH0;unfold IE;have hlsv:∀W:World,W=w1.alloc (pR a)→Calls Tryz.prog 65 #[.pointer (some ⟨a,0,none⟩),.string ⟨#[114,101,102,115,47]⟩] W fun e w'=>∃v,e=.returned (.tuple #[v,.int .i64 (if m.off then 27 else 0)])∧GathT W w' v L:=fun W hW=>by rw[hW];exact hls
 clear hls
 cases hoff:m.off with
 |true=>
  rw[hoff]at hlsv;have HOFF:=hZ hoff
  clear hoff;have hlsw:∀W:World,W=w1.alloc (pR a)→Calls Tryz.prog 65 #[.pointer (some ⟨a,0,none⟩),.string ⟨#[114,101,102,115,47]⟩] W fun e w'=>∃v,e=.returned (.tuple #[v,.int .i64 27])∧GathT W w' v L:=hlsv
  clear hlsv;go_enter Tryz.func56,Tryz.ntmps56;go_wp2_with fail;refine(hlsw _ rfl).mono ?_;rintro e w2 ⟨v,rfl,-,hb2⟩;have HS2:=hZ (HS1.out.bel hb2)
  have HM2:Hid (SameP P w1 w2):=hZ (fun b hb=>(HS1.out.st.same hb2 b (.inl hb)).trans (HM1.out b hb));clear hb2 hlsw;go_wp2_with fail;go_ret2;have hO:mX m=(m,27):=if_pos HOFF.out
  refine⟨_,rfl,?_,HM2.out⟩;rw[hO];exact .inr ⟨(show(27:Int)≠0 by decide),rfl,(HS2.out.st.sub P (fun b hb=>.inl hb)).more aC⟩
 |false=>
  rw[hoff]at hlsv;have HOFF:=hZ hoff
  clear hoff;have hlsw:∀W:World,W=w1.alloc (pR a)→Calls Tryz.prog 65 #[.pointer (some ⟨a,0,none⟩),.string ⟨#[114,101,102,115,47]⟩] W fun e w'=>∃v,e=.returned (.tuple #[v,.int .i64 0])∧GathT W w' v L:=hlsv
  clear hlsv;by_cases hy0:(m.reads handR).2=0
  ·have hrd:=fun W (hs:RRf w S (fun b=>P b∨b=w1.heap.size) w1.heap.size a W n m)=>zM hs eY handR
   rw[hy0,decide_eq_true rfl]at hrd;unfold handR at hrd;have HY0:=hZ hy0
   clear hy0;go_enter Tryz.func56,Tryz.ntmps56;go_wp2_with fail;refine(hlsw _ rfl).mono ?_;rintro e w20 ⟨v,rfl,hv,hb2⟩;obtain⟨vp,vc,rfl⟩:=hv.rd.len;rw[HN.out]at hv⊢;have HV20:=hZ hv.rd
   have HS20:=hZ (HS1.out.bel hb2);have HM20:Hid (SameP P w1 w20):=hZ (fun b hb=>(HS1.out.st.same hb2 b (.inl hb)).trans (HM1.out b hb))
   clear hb2 hlsw hv HS1 HM1;go_wp2_with fail;refine(hrd _ HS20.out).mono ?_;rintro e w2 ⟨rfl,hb2⟩;have HV2:=hZ (HV20.out.below hb2)
   have HS2:=hZ (HS20.out.bel hb2);have HM2:Hid (SameP P w1 w2):=hZ (fun b hb=>(HS20.out.st.same hb2 b (.inl hb)).trans (HM20.out b hb))
   clear hb2 HV20 HS20 HM20;clear hrd;have hbn:(0:Nat)+1≤140737488355328:=aA
   go_wp2_with (at_builtin;refine mD rfl _ _ 31 rfl w2.heap.size 9 i0 (.string ⟨#[]⟩) 16 Tryz.underlying31 hi hz0 hz1 hz2 rfl [] _ rfl (RowC.nil _ _) (.string handR) ⟨w2.heap.size,0,none⟩ rfl (xA w2 _ _) rfl aA aA gZ ?_;intro v1 w7 hr7 hb7;have HR7:=hZ hr7;have HB7:Hid (Below w2.heap.size w2 w7):=hZ (((Below.refl w2.heap.size w2).alloc lD _).trans hb7);clear hr7 hb7);have HR9:Hid (RowC w2.heap.size (([handR]:List ByteArray).map tJ) v1 w7):=HR7
   have HB9:=HB7;clear hbn HR7 HB7;have hNi:(N:Int)≤1000000000:=eY
   go_wp2_with fail;go_loopw [7,8] (fun v iv wr=>∃k:Nat,(k:Int)≤N∧iv=.int .i64 k∧Hid (RowC w2.heap.size (([handR]++(L.take k).filter fun s=>!mN m s).map tJ) v wr)∧Hid (Below w2.heap.size w2 wr)) (fun _ iv _=>N-(intOf iv).toNat)
   case atStart=>exact⟨0,aC,rfl,hZ bH,HB9⟩
   case round=>
    obtain⟨k,hk,rfl,HR,HB⟩:=hrel;by_cases hlt:(k:Int)<N
    ·have hkl:k<L.length:=by rw[HN.out];omega
     obtain⟨s,hs⟩:∃s,L[k]?=some s:=⟨_,List.getElem?_eq_getElem hkl⟩
     obtain⟨vp',vc',he,hv⟩:=HV2.out.below HB.out;obtain⟨vb,vo,hvp,hvl,hvc⟩:=hv k s hs;have hpe:vp=some ⟨vb,vo,none⟩:=dN
     subst hpe;have hss:=HSH.out s (List.mem_of_getElem? hs)
     have htk:L.take (k+1)=L.take k++[s]:=fX;have HTK:=hZ htk
     obtain⟨q,cap,rfl,-⟩:=HR.out.slice
     have hql:(([handR]++(L.take k).filter fun s=>!mN m s).map tJ).length≤1+k:=by
      rw[List.length_map,List.length_append];have h1:=List.length_filter_le (fun s=>!mN m s) (L.take k)
      rw[List.length_take]at h1;have:([handR]:List ByteArray).length=1:=rfl
      omega
     obtain⟨K,hK⟩:∃K,(([handR]++(L.take k).filter fun s=>!mN m s).map tJ).length=K:=⟨_,rfl⟩
     rw[hK]at hql HR⊢;have HQL:=hZ hql
     have HK:=hZ hK;have HS4:=hZ (HS2.out.bel HB.out)
     have hhs:=HHD.out s (List.mem_of_getElem? hs);have hrt:=zN s aC hhs
     clear hs he hv hvp htk hkl hql hK hhs;go_wp2_with fail;refine(hrt _).mono ?_;rintro e w50 ⟨T,rfl,-,hb50⟩;have hrd5:=yR (HS4.out.bel hb50) eY s
     obtain⟨X,hX⟩:∃X,(m.reads s).1=X:=⟨_,rfl⟩
     obtain⟨z5,hz5⟩:∃z,(m.reads s).2=z:=⟨_,rfl⟩
     have hrr:mN m s=(qP s&&(nI X).isSome):=by unfold mN;rw[hX]
     rw[hX,hz5]at hrd5;have hvc50:=(hb50.cell hvl).trans hvc
     have hpa:=fun W:World=>tM X W
     unfold vP at hpa
     obtain⟨rr,hrs⟩:∃b,qP s=b:=⟨_,rfl⟩
     rw[hrs]at hrr⊢;clear hX hz5 hrs hrt;go_wp2_with fail;refine hrd5.mono ?_;rintro e w51 ⟨rfl,hb51⟩;have hba:=hb50.trans (hb51.mono hb50.size)
     clear hrd5 hvc50 hb50 hb51
     cases hpp:nI X with
     |none=>
      rw[hpp]at hpa hrr;have hdl:zeroD.length=32:=rfl
      have hpa2:∀W:World,Calls Tryz.prog 118 #[.string X] W fun e w'=>e=.returned (.tuple #[.agg (zeroD.map lG).toArray,.int .i64 4])∧Below W.heap.size W w':=hpa
      have hI2:=lX hdl;have hd1:=nW zeroD
      have hdz:=nE hdl;clear hpa hpp hdl;go_wp2_with fail;refine(hpa2 _).mono ?_;rintro e w52 ⟨rfl,hb52⟩
      obtain⟨w5,hW5⟩:∃W,w52.alloc (.cells (zeroD.map lG).toArray 33)=W:=⟨_,rfl⟩
      have hb53:Below w52.heap.size w52 w5:=aM;have hbb:=hba.trans (hb52.mono hba.size)
      have hb5:=hbb.trans (hb53.mono hbb.size);have HW5:=hZ hW5
      have hvc5:=(hb5.cell hvl).trans hvc;have HB5:Hid (Below w2.heap.size w2 w5):=hZ (HB.out.trans (hb5.mono HB.out.size))
      have HR5:=hZ (HR.out.keep hb5);clear hb52 hb53 hW5 hbb hb5 hvc hba hvl hpa2
      cases rr with
      |true=>
       have hf:[s].filter (fun s=>!mN m s)=[s]:=bI;have HF:=hZ hf
       clear hf hrr;go_wp2_with (first|(refine lO rfl _ _ _ rfl _ (zeroD.map lG).toArray _ rfl rfl rfl hI2 hdz hd1 ?_;rw[HW5.out])|(at_builtin;refine mD rfl _ _ 31 rfl w2.heap.size 9 i0 (.string ⟨#[]⟩) 16 Tryz.underlying31 hi hz0 hz1 hz2 rfl _ _ rfl (HR5.out.keep ((Below.refl _ _).alloc (Nat.le_refl _) _)) (.string s) ⟨w5.heap.size,0,none⟩ rfl (xA w5 _ _) rfl eX cX dD ?_;intro v1 w7 hr7 hb7;have HR7:=hZ hr7;have HB7:Hid (Below w2.heap.size w2 w7):=hZ ((HB5.out.alloc fE _).trans hb7);clear hr7 hb7));refine⟨⟨k+1,aC,aG,hZ ?_,HB7⟩,cN⟩;rw[HTK.out,List.filter_append,HF.out,←List.append_assoc,List.map_append];exact HR7.out
      |false=>
       have hf:[s].filter (fun s=>!mN m s)=[s]:=bI;have HF:=hZ hf
       clear hf hrr;go_wp2_with (first|(refine lO rfl _ _ _ rfl _ (zeroD.map lG).toArray _ rfl rfl rfl hI2 hdz hd1 ?_;rw[HW5.out])|(at_builtin;refine mD rfl _ _ 31 rfl w2.heap.size 9 i0 (.string ⟨#[]⟩) 16 Tryz.underlying31 hi hz0 hz1 hz2 rfl _ _ rfl (HR5.out.keep ((Below.refl _ _).alloc (Nat.le_refl _) _)) (.string s) ⟨w5.heap.size,0,none⟩ rfl (xA w5 _ _) rfl eX cX dD ?_;intro v1 w7 hr7 hb7;have HR7:=hZ hr7;have HB7:Hid (Below w2.heap.size w2 w7):=hZ ((HB5.out.alloc fE _).trans hb7);clear hr7 hb7));refine⟨⟨k+1,aC,aG,hZ ?_,HB7⟩,cN⟩;rw[HTK.out,List.filter_append,HF.out,←List.append_assoc,List.map_append];exact HR7.out
     |some D=>
      rw[hpp]at hpa hrr;have hdl:D.length=32:=uP hpp
      have hpa2:∀W:World,Calls Tryz.prog 118 #[.string X] W fun e w'=>e=.returned (.tuple #[.agg (D.map lG).toArray,.int .i64 0])∧Below W.heap.size W w':=hpa
      have hI2:=lX hdl;have hd1:=nW D
      have hdz:=nE hdl;clear hpa hpp hdl;go_wp2_with fail;refine(hpa2 _).mono ?_;rintro e w52 ⟨rfl,hb52⟩
      obtain⟨w5,hW5⟩:∃W,w52.alloc (.cells (D.map lG).toArray 33)=W:=⟨_,rfl⟩
      have hb53:Below w52.heap.size w52 w5:=aM;have hbb:=hba.trans (hb52.mono hba.size)
      have hb5:=hbb.trans (hb53.mono hbb.size);have HW5:=hZ hW5
      have hvc5:=(hb5.cell hvl).trans hvc;have HB5:Hid (Below w2.heap.size w2 w5):=hZ (HB.out.trans (hb5.mono HB.out.size))
      have HR5:=hZ (HR.out.keep hb5);clear hb52 hb53 hW5 hbb hb5 hvc hba hvl hpa2
      cases rr with
      |true=>
       have hf:[s].filter (fun s=>!mN m s)=[]:=bI;have HF:=hZ hf
       clear hf hrr;go_wp2_with (first|(refine lO rfl _ _ _ rfl _ (D.map lG).toArray _ rfl rfl rfl hI2 hdz hd1 ?_;rw[HW5.out]));refine⟨⟨k+1,aC,aG,hZ ?_,HB5⟩,cN⟩;rw[HTK.out,List.filter_append,HF.out,List.append_nil];exact HR5.out
      |false=>
       have hf:[s].filter (fun s=>!mN m s)=[s]:=bI;have HF:=hZ hf
       clear hf hrr;go_wp2_with (first|(refine lO rfl _ _ _ rfl _ (D.map lG).toArray _ rfl rfl rfl hI2 hdz hd1 ?_;rw[HW5.out])|(at_builtin;refine mD rfl _ _ 31 rfl w2.heap.size 9 i0 (.string ⟨#[]⟩) 16 Tryz.underlying31 hi hz0 hz1 hz2 rfl _ _ rfl (HR5.out.keep ((Below.refl _ _).alloc (Nat.le_refl _) _)) (.string s) ⟨w5.heap.size,0,none⟩ rfl (xA w5 _ _) rfl eX cX dD ?_;intro v1 w7 hr7 hb7;have HR7:=hZ hr7;have HB7:Hid (Below w2.heap.size w2 w7):=hZ ((HB5.out.alloc fE _).trans hb7);clear hr7 hb7));refine⟨⟨k+1,aC,aG,hZ ?_,HB7⟩,cN⟩;rw[HTK.out,List.filter_append,HF.out,←List.append_assoc,List.map_append];exact HR7.out
    ·have hbad:([handR]++(L.take k).filter fun s=>!mN m s)=qG m:=by
      rw[List.take_of_length_le gR];exact iR
     rw[hbad]at HR
     have hbl:(qG m).length≤1+N:=by
      rw[←hbad,List.length_append];have h1:=List.length_filter_le (fun s=>!mN m s) (L.take k)
      rw[List.length_take]at h1;have:([handR]:List ByteArray).length=1:=rfl
      have:=HN.out;omega
     have hsz:∀s∈qG m,s.size≤200:=by
      rw[←hbad];intro s hs;rcases List.mem_append.1 hs with hs|hs
      ·rw[List.mem_singleton.1 hs];decide
      ·exact bX
     obtain⟨BD,hBD⟩:∃l,qG m=l:=⟨_,rfl⟩
     rw[hBD]at HR hbl hsz;have HBD:=hZ hBD
     have HBL:=hZ hbl;have HSZ:=hZ hsz
     have HQ:Hid (RRf w S (fun b=>(P b∨b=w1.heap.size)∨u7.ownBlock=some b) w1.heap.size a wr n m):=hZ (HS2.out.more HB.out _ (fun b hb=>.inl hb) (fun b hb=>hb.elim .inl (fun e=>.inr (HR.out.own b e))));have HMQ:Hid (SameP P w1 wr):=hZ (fun b hb=>(HS2.out.st.same HB.out b (.inl hb)).trans (HM2.out b hb))
     obtain⟨q,cap,hu7,hcl⟩:=HR.out.slice;rw[List.length_map]at hu7
     obtain⟨M,hM⟩:∃M,BD.length=M:=⟨_,rfl⟩
     rw[hM]at hu7 HBL;have HMM:=hZ hM
     have HCL:Hid (∀j s,BD[j]?=some s→∃g,q=some ⟨g,0,none⟩∧wr.cell? ⟨g,j,none⟩=some (.string s)):=hZ (fun j s hj=>by
      obtain⟨g,h1,-,h3⟩:=hcl j (tJ s) bW;exact⟨g,h1,h3⟩)
     have HUU:=hZ hu7;subst hu7;clear hbad hbl hsz hBD hcl hM HR
     obtain⟨W9,hW9⟩:∃W,W=wr:=⟨_,rfl⟩
     rw[←hW9]at HQ HMQ HCL⊢;clear hW9;have hMi:(M:Int)≤1000000001:=fO
     go_wp2_with fail;go_loopw [15] (fun iv wx=>∃(k:Nat) (mk:DM),(k:Int)≤M∧iv=.int .i64 k∧Hid (oI BD m=oI (BD.drop k) mk)∧Hid (RRf w S (fun b=>(P b∨b=w1.heap.size)∨(Value.slice q M cap).ownBlock=some b) w1.heap.size a wx (n+k) mk)∧Hid (SameP (fun b=>(P b∨b=w1.heap.size)∨(Value.slice q M cap).ownBlock=some b) W9 wx)) (fun iv _=>M-(intOf iv).toNat)
     case atStart=>exact⟨0,m,aC,rfl,hZ rfl,HQ,hZ (fun _ _=>rfl)⟩
     case round=>
      obtain⟨k,mk,hk,rfl,HTM,HS,HX⟩:=hrel;by_cases hlt:(k:Int)<M
      ·have hkl:k<BD.length:=by rw[HMM.out];omega
       obtain⟨s,hs⟩:∃s,BD[k]?=some s:=⟨_,List.getElem?_eq_getElem hkl⟩
       obtain⟨g,hqg,hgc⟩:=HCL.out k s hs;have hss:=HSZ.out s (List.mem_of_getElem? hs)
       have hdr:BD.drop k=s::BD.drop (k+1):=by
        rw[List.drop_eq_getElem_cons hkl];rw[List.getElem?_eq_getElem hkl]at hs;rw[Option.some.inj hs]
       have htm:oI BD m=pE (mk.op (.remove s)) (oI (BD.drop (k+1))):=jD;have HTM2:=hZ htm
       subst hqg;have hc9:wr.cell? ⟨g,k,none⟩=some (.string s):=(lK (HX.out g (.inr rfl))).trans hgc
       have hMn:M≤1+N:=dG;have hnn:=HNN.out
       clear hs hgc hdr htm hkl;go_wp2_with fail;refine(oL HS.out ⟨5,⟨#[]⟩,s,0⟩ ⟨#[]⟩ (show 1≤5 by decide) (show 5≤6 by decide) rfl aC aA).mono ?_;intro e w8 hp;by_cases hy:(mk.op (.remove s)).2=0
       ·obtain⟨mj,h1⟩:∃mj,mk.op (.remove s)=(mj,0):=⟨_,cC⟩
        obtain⟨rfl,hs8,hk8⟩:=hp.eq h1;have HS8:=hZ (HS.out.step hs8 hk8)
        have HX8:Hid (SameP (fun b=>(P b∨b=w1.heap.size)∨(Value.slice (some ⟨g,0,none⟩) M cap).ownBlock=some b) W9 w8):=hZ (fun b hb=>(hk8 b hb).trans (HX.out b hb));have HOP:=hZ h1
        clear hp hy hs8 hk8 h1 hc9;go_wp2_with fail;refine⟨⟨k+1,mj,aC,aG,hZ ?_,HS8,HX8⟩,cN⟩;rw[HTM2.out,lN _ HOP.out]
       ·obtain⟨y,hyy⟩:∃y,(mk.op (.remove s)).2=y:=⟨_,rfl⟩
        rw[hyy]at hy
        obtain⟨mj,h1⟩:∃mj,mk.op (.remove s)=(mj,y):=⟨_,bU⟩
        have hv:(y !=0)=true:=bne_iff_ne.2 hy;obtain⟨rfl,hs8,hk8⟩:=hp.eq h1;have HS8:=hZ (HS.out.step hs8 hk8)
        have HX8:Hid (SameP P w1 w8):=hZ (fun b hb=>(hk8 b (.inl (.inl hb))).trans ((HX.out b (.inl (.inl hb))).trans (HMQ.out b hb)));have HOP:=hZ h1
        have HY:=hZ hy;clear hp hy hs8 hk8 h1 hc9 hyy;go_wp2_with fail;go_ret2
        have hO:mX m=(mj,y):=by
         rw[oZ HOFF.out,HBD.out];exact aZ
        refine⟨_,rfl,?_,HX8.out⟩;rw[hO,HBD.out];refine .inr ⟨HY.out,rfl,(HS8.out.st.sub P (fun b hb=>.inl (.inl hb))).more ?_⟩;rw[HMM.out];omega
      ·obtain rfl:k=M:=by omega
       have htm:oI BD m=(mk,0):=bC;have HTM2:=hZ htm
       have hMn:k≤1+N:=dG;have hnn:=HNN.out
       have HX9:Hid (SameP P w1 wr):=hZ (fun b hb=>(HX.out b (.inl (.inl hb))).trans (HMQ.out b hb));clear htm;by_cases hk0:(0:Int)<k
       ·have hne:BD≠[]:=fun e=>by have h0:([]:List ByteArray).length=k:=e▸HMM.out;have h1:(0:Nat)=k:=h0;omega
        have HNE:=hZ hne;clear hne;go_wp2_with fail;refine(oL HS.out ⟨6,⟨#[]⟩,⟨#[]⟩,0⟩ ⟨#[]⟩ (show 1≤6 by decide) (show 6≤6 by decide) rfl aC aA).mono ?_;intro e w8 hp;by_cases hy:(mk.op .flush).2=0
        ·obtain⟨mj,h1⟩:∃mj,mk.op .flush=(mj,0):=⟨_,cC⟩
         obtain⟨rfl,hs8,hk8⟩:=hp.eq h1;have HS8:=hZ (HS.out.step hs8 hk8)
         have HX8:Hid (SameP P w1 w8):=hZ (fun b hb=>(hk8 b (.inl (.inl hb))).trans (HX9.out b hb));have HOP:=hZ h1
         clear hp hy hs8 hk8 h1;go_wp2_with fail;go_ret2
         have hO:mX m=(mj,0):=by
          rw[oZ HOFF.out,HBD.out,lN _ HTM2.out,if_neg HNE.out];exact HOP.out
         refine⟨_,rfl,?_,HX8.out⟩;rw[hO,HBD.out];exact .inl ⟨rfl,_,rfl,Nat.le_refl _,HS8.out.drop dE⟩
        ·obtain⟨y,hyy⟩:∃y,(mk.op .flush).2=y:=⟨_,rfl⟩
         rw[hyy]at hy
         obtain⟨mj,h1⟩:∃mj,mk.op .flush=(mj,y):=⟨_,bU⟩
         have hv:(y !=0)=true:=bne_iff_ne.2 hy;obtain⟨rfl,hs8,hk8⟩:=hp.eq h1;have HS8:=hZ (HS.out.step hs8 hk8)
         have HX8:Hid (SameP P w1 w8):=hZ (fun b hb=>(hk8 b (.inl (.inl hb))).trans (HX9.out b hb));have HOP:=hZ h1
         have HY:=hZ hy;clear hp hy hs8 hk8 h1 hyy;go_wp2_with fail;go_ret2
         have hO:mX m=(mj,y):=by
          rw[oZ HOFF.out,HBD.out,lN _ HTM2.out,if_neg HNE.out];exact HOP.out
         refine⟨_,rfl,?_,HX8.out⟩;rw[hO,HBD.out];refine .inr ⟨HY.out,rfl,(HS8.out.st.sub P (fun b hb=>.inl (.inl hb))).more ?_⟩;rw[HMM.out];omega
       ·have he:BD=[]:=List.eq_nil_of_length_eq_zero dE;have HE:=hZ he
        clear he;go_wp2_with fail;go_ret2
        have hO:mX m=(mk,0):=by
         rw[oZ HOFF.out,HBD.out,lN _ HTM2.out,if_pos HE.out]
        refine⟨_,rfl,?_,HX9.out⟩;rw[hO,HBD.out];exact .inl ⟨rfl,_,rfl,Nat.le_refl _,HS.out.drop dE⟩
  ·obtain⟨z,hz⟩:∃z,(m.reads handR).2=z:=⟨_,rfl⟩
   have hrd:=fun W (hs:RRf w S (fun b=>P b∨b=w1.heap.size) w1.heap.size a W n m)=>zM hs eY handR
   have HY0:=hZ hy0;rw[hz]at hy0;rw[hz,decide_eq_false hy0]at hrd;unfold handR at hrd;clear hy0 hz;go_enter Tryz.func56,Tryz.ntmps56;go_wp2_with fail;refine(hlsw _ rfl).mono ?_;rintro e w20 ⟨v,rfl,hv,hb2⟩;obtain⟨vp,vc,rfl⟩:=hv.rd.len;rw[HN.out]at hv⊢;have HV20:=hZ hv.rd
   have HS20:=hZ (HS1.out.bel hb2);have HM20:Hid (SameP P w1 w20):=hZ (fun b hb=>(HS1.out.st.same hb2 b (.inl hb)).trans (HM1.out b hb))
   clear hb2 hlsw hv HS1 HM1;go_wp2_with fail;refine(hrd _ HS20.out).mono ?_;rintro e w2 ⟨rfl,hb2⟩;have HV2:=hZ (HV20.out.below hb2)
   have HS2:=hZ (HS20.out.bel hb2);have HM2:Hid (SameP P w1 w2):=hZ (fun b hb=>(HS20.out.st.same hb2 b (.inl hb)).trans (HM20.out b hb))
   clear hb2 HV20 HS20 HM20;clear hrd;have HR9:Hid (RowC w2.heap.size (([]:List ByteArray).map tJ) (.slice none 0 0) w2):=hZ (RowC.nil _ _)
   have HB9:Hid (Below w2.heap.size w2 w2):=hZ (Below.refl _ _);have hNi:(N:Int)≤1000000000:=eY
   go_wp2_with fail;go_loopw [7,8] (fun v iv wr=>∃k:Nat,(k:Int)≤N∧iv=.int .i64 k∧Hid (RowC w2.heap.size (([]++(L.take k).filter fun s=>!mN m s).map tJ) v wr)∧Hid (Below w2.heap.size w2 wr)) (fun _ iv _=>N-(intOf iv).toNat)
   case atStart=>exact⟨0,aC,rfl,hZ bH,HB9⟩
   case round=>
    obtain⟨k,hk,rfl,HR,HB⟩:=hrel;by_cases hlt:(k:Int)<N
    ·have hkl:k<L.length:=by rw[HN.out];omega
     obtain⟨s,hs⟩:∃s,L[k]?=some s:=⟨_,List.getElem?_eq_getElem hkl⟩
     obtain⟨vp',vc',he,hv⟩:=HV2.out.below HB.out;obtain⟨vb,vo,hvp,hvl,hvc⟩:=hv k s hs;have hpe:vp=some ⟨vb,vo,none⟩:=dN
     subst hpe;have hss:=HSH.out s (List.mem_of_getElem? hs)
     have htk:L.take (k+1)=L.take k++[s]:=fX;have HTK:=hZ htk
     obtain⟨q,cap,rfl,-⟩:=HR.out.slice
     have hql:(([]++(L.take k).filter fun s=>!mN m s).map tJ).length≤0+k:=by
      rw[List.length_map,List.length_append];have h1:=List.length_filter_le (fun s=>!mN m s) (L.take k)
      rw[List.length_take]at h1;have:([]:List ByteArray).length=0:=rfl
      omega
     obtain⟨K,hK⟩:∃K,(([]++(L.take k).filter fun s=>!mN m s).map tJ).length=K:=⟨_,rfl⟩
     rw[hK]at hql HR⊢;have HQL:=hZ hql
     have HK:=hZ hK;have HS4:=hZ (HS2.out.bel HB.out)
     have hhs:=HHD.out s (List.mem_of_getElem? hs);have hrt:=zN s aC hhs
     clear hs he hv hvp htk hkl hql hK hhs;go_wp2_with fail;refine(hrt _).mono ?_;rintro e w50 ⟨T,rfl,-,hb50⟩;have hrd5:=yR (HS4.out.bel hb50) eY s
     obtain⟨X,hX⟩:∃X,(m.reads s).1=X:=⟨_,rfl⟩
     obtain⟨z5,hz5⟩:∃z,(m.reads s).2=z:=⟨_,rfl⟩
     have hrr:mN m s=(qP s&&(nI X).isSome):=by unfold mN;rw[hX]
     rw[hX,hz5]at hrd5;have hvc50:=(hb50.cell hvl).trans hvc
     have hpa:=fun W:World=>tM X W
     unfold vP at hpa
     obtain⟨rr,hrs⟩:∃b,qP s=b:=⟨_,rfl⟩
     rw[hrs]at hrr⊢;clear hX hz5 hrs hrt;go_wp2_with fail;refine hrd5.mono ?_;rintro e w51 ⟨rfl,hb51⟩;have hba:=hb50.trans (hb51.mono hb50.size)
     clear hrd5 hvc50 hb50 hb51
     cases hpp:nI X with
     |none=>
      rw[hpp]at hpa hrr;have hdl:zeroD.length=32:=rfl
      have hpa2:∀W:World,Calls Tryz.prog 118 #[.string X] W fun e w'=>e=.returned (.tuple #[.agg (zeroD.map lG).toArray,.int .i64 4])∧Below W.heap.size W w':=hpa
      have hI2:=lX hdl;have hd1:=nW zeroD
      have hdz:=nE hdl;clear hpa hpp hdl;go_wp2_with fail;refine(hpa2 _).mono ?_;rintro e w52 ⟨rfl,hb52⟩
      obtain⟨w5,hW5⟩:∃W,w52.alloc (.cells (zeroD.map lG).toArray 33)=W:=⟨_,rfl⟩
      have hb53:Below w52.heap.size w52 w5:=aM;have hbb:=hba.trans (hb52.mono hba.size)
      have hb5:=hbb.trans (hb53.mono hbb.size);have HW5:=hZ hW5
      have hvc5:=(hb5.cell hvl).trans hvc;have HB5:Hid (Below w2.heap.size w2 w5):=hZ (HB.out.trans (hb5.mono HB.out.size))
      have HR5:=hZ (HR.out.keep hb5);clear hb52 hb53 hW5 hbb hb5 hvc hba hvl hpa2
      cases rr with
      |true=>
       have hf:[s].filter (fun s=>!mN m s)=[s]:=bI;have HF:=hZ hf
       clear hf hrr;go_wp2_with (first|(refine lO rfl _ _ _ rfl _ (zeroD.map lG).toArray _ rfl rfl rfl hI2 hdz hd1 ?_;rw[HW5.out])|(at_builtin;refine mD rfl _ _ 31 rfl w2.heap.size 9 i0 (.string ⟨#[]⟩) 16 Tryz.underlying31 hi hz0 hz1 hz2 rfl _ _ rfl (HR5.out.keep ((Below.refl _ _).alloc (Nat.le_refl _) _)) (.string s) ⟨w5.heap.size,0,none⟩ rfl (xA w5 _ _) rfl eX cX dD ?_;intro v1 w7 hr7 hb7;have HR7:=hZ hr7;have HB7:Hid (Below w2.heap.size w2 w7):=hZ ((HB5.out.alloc fE _).trans hb7);clear hr7 hb7));refine⟨⟨k+1,aC,aG,hZ ?_,HB7⟩,cN⟩;rw[HTK.out,List.filter_append,HF.out,←List.append_assoc,List.map_append];exact HR7.out
      |false=>
       have hf:[s].filter (fun s=>!mN m s)=[s]:=bI;have HF:=hZ hf
       clear hf hrr;go_wp2_with (first|(refine lO rfl _ _ _ rfl _ (zeroD.map lG).toArray _ rfl rfl rfl hI2 hdz hd1 ?_;rw[HW5.out])|(at_builtin;refine mD rfl _ _ 31 rfl w2.heap.size 9 i0 (.string ⟨#[]⟩) 16 Tryz.underlying31 hi hz0 hz1 hz2 rfl _ _ rfl (HR5.out.keep ((Below.refl _ _).alloc (Nat.le_refl _) _)) (.string s) ⟨w5.heap.size,0,none⟩ rfl (xA w5 _ _) rfl eX cX dD ?_;intro v1 w7 hr7 hb7;have HR7:=hZ hr7;have HB7:Hid (Below w2.heap.size w2 w7):=hZ ((HB5.out.alloc fE _).trans hb7);clear hr7 hb7));refine⟨⟨k+1,aC,aG,hZ ?_,HB7⟩,cN⟩;rw[HTK.out,List.filter_append,HF.out,←List.append_assoc,List.map_append];exact HR7.out
     |some D=>
      rw[hpp]at hpa hrr;have hdl:D.length=32:=uP hpp
      have hpa2:∀W:World,Calls Tryz.prog 118 #[.string X] W fun e w'=>e=.returned (.tuple #[.agg (D.map lG).toArray,.int .i64 0])∧Below W.heap.size W w':=hpa
      have hI2:=lX hdl;have hd1:=nW D
      have hdz:=nE hdl;clear hpa hpp hdl;go_wp2_with fail;refine(hpa2 _).mono ?_;rintro e w52 ⟨rfl,hb52⟩
      obtain⟨w5,hW5⟩:∃W,w52.alloc (.cells (D.map lG).toArray 33)=W:=⟨_,rfl⟩
      have hb53:Below w52.heap.size w52 w5:=aM;have hbb:=hba.trans (hb52.mono hba.size)
      have hb5:=hbb.trans (hb53.mono hbb.size);have HW5:=hZ hW5
      have hvc5:=(hb5.cell hvl).trans hvc;have HB5:Hid (Below w2.heap.size w2 w5):=hZ (HB.out.trans (hb5.mono HB.out.size))
      have HR5:=hZ (HR.out.keep hb5);clear hb52 hb53 hW5 hbb hb5 hvc hba hvl hpa2
      cases rr with
      |true=>
       have hf:[s].filter (fun s=>!mN m s)=[]:=bI;have HF:=hZ hf
       clear hf hrr;go_wp2_with (first|(refine lO rfl _ _ _ rfl _ (D.map lG).toArray _ rfl rfl rfl hI2 hdz hd1 ?_;rw[HW5.out]));refine⟨⟨k+1,aC,aG,hZ ?_,HB5⟩,cN⟩;rw[HTK.out,List.filter_append,HF.out,List.append_nil];exact HR5.out
      |false=>
       have hf:[s].filter (fun s=>!mN m s)=[s]:=bI;have HF:=hZ hf
       clear hf hrr;go_wp2_with (first|(refine lO rfl _ _ _ rfl _ (D.map lG).toArray _ rfl rfl rfl hI2 hdz hd1 ?_;rw[HW5.out])|(at_builtin;refine mD rfl _ _ 31 rfl w2.heap.size 9 i0 (.string ⟨#[]⟩) 16 Tryz.underlying31 hi hz0 hz1 hz2 rfl _ _ rfl (HR5.out.keep ((Below.refl _ _).alloc (Nat.le_refl _) _)) (.string s) ⟨w5.heap.size,0,none⟩ rfl (xA w5 _ _) rfl eX cX dD ?_;intro v1 w7 hr7 hb7;have HR7:=hZ hr7;have HB7:Hid (Below w2.heap.size w2 w7):=hZ ((HB5.out.alloc fE _).trans hb7);clear hr7 hb7));refine⟨⟨k+1,aC,aG,hZ ?_,HB7⟩,cN⟩;rw[HTK.out,List.filter_append,HF.out,←List.append_assoc,List.map_append];exact HR7.out
    ·have hbad:([]++(L.take k).filter fun s=>!mN m s)=qG m:=by
      rw[List.take_of_length_le gR];exact(show []++L.filter _=qG m by unfold qG;rw[if_neg HY0.out,HL.out])
     rw[hbad]at HR
     have hbl:(qG m).length≤0+N:=by
      rw[←hbad,List.length_append];have h1:=List.length_filter_le (fun s=>!mN m s) (L.take k)
      rw[List.length_take]at h1;have:([]:List ByteArray).length=0:=rfl
      have:=HN.out;omega
     have hsz:∀s∈qG m,s.size≤200:=by
      rw[←hbad];intro s hs;rcases List.mem_append.1 hs with hs|hs
      ·cases hs
      ·exact bX
     obtain⟨BD,hBD⟩:∃l,qG m=l:=⟨_,rfl⟩
     rw[hBD]at HR hbl hsz;have HBD:=hZ hBD
     have HBL:=hZ hbl;have HSZ:=hZ hsz
     have HQ:Hid (RRf w S (fun b=>(P b∨b=w1.heap.size)∨u7.ownBlock=some b) w1.heap.size a wr n m):=hZ (HS2.out.more HB.out _ (fun b hb=>.inl hb) (fun b hb=>hb.elim .inl (fun e=>.inr (HR.out.own b e))));have HMQ:Hid (SameP P w1 wr):=hZ (fun b hb=>(HS2.out.st.same HB.out b (.inl hb)).trans (HM2.out b hb))
     obtain⟨q,cap,hu7,hcl⟩:=HR.out.slice;rw[List.length_map]at hu7
     obtain⟨M,hM⟩:∃M,BD.length=M:=⟨_,rfl⟩
     rw[hM]at hu7 HBL;have HMM:=hZ hM
     have HCL:Hid (∀j s,BD[j]?=some s→∃g,q=some ⟨g,0,none⟩∧wr.cell? ⟨g,j,none⟩=some (.string s)):=hZ (fun j s hj=>by
      obtain⟨g,h1,-,h3⟩:=hcl j (tJ s) bW;exact⟨g,h1,h3⟩)
     have HUU:=hZ hu7;subst hu7;clear hbad hbl hsz hBD hcl hM HR
     obtain⟨W9,hW9⟩:∃W,W=wr:=⟨_,rfl⟩
     rw[←hW9]at HQ HMQ HCL⊢;clear hW9;have hMi:(M:Int)≤1000000001:=fO
     go_wp2_with fail;go_loopw [15] (fun iv wx=>∃(k:Nat) (mk:DM),(k:Int)≤M∧iv=.int .i64 k∧Hid (oI BD m=oI (BD.drop k) mk)∧Hid (RRf w S (fun b=>(P b∨b=w1.heap.size)∨(Value.slice q M cap).ownBlock=some b) w1.heap.size a wx (n+k) mk)∧Hid (SameP (fun b=>(P b∨b=w1.heap.size)∨(Value.slice q M cap).ownBlock=some b) W9 wx)) (fun iv _=>M-(intOf iv).toNat)
     case atStart=>exact⟨0,m,aC,rfl,hZ rfl,HQ,hZ (fun _ _=>rfl)⟩
     case round=>
      obtain⟨k,mk,hk,rfl,HTM,HS,HX⟩:=hrel;by_cases hlt:(k:Int)<M
      ·have hkl:k<BD.length:=by rw[HMM.out];omega
       obtain⟨s,hs⟩:∃s,BD[k]?=some s:=⟨_,List.getElem?_eq_getElem hkl⟩
       obtain⟨g,hqg,hgc⟩:=HCL.out k s hs;have hss:=HSZ.out s (List.mem_of_getElem? hs)
       have hdr:BD.drop k=s::BD.drop (k+1):=by
        rw[List.drop_eq_getElem_cons hkl];rw[List.getElem?_eq_getElem hkl]at hs;rw[Option.some.inj hs]
       have htm:oI BD m=pE (mk.op (.remove s)) (oI (BD.drop (k+1))):=jD;have HTM2:=hZ htm
       subst hqg;have hc9:wr.cell? ⟨g,k,none⟩=some (.string s):=(lK (HX.out g (.inr rfl))).trans hgc
       have hMn:M≤1+N:=dG;have hnn:=HNN.out
       clear hs hgc hdr htm hkl;go_wp2_with fail;refine(oL HS.out ⟨5,⟨#[]⟩,s,0⟩ ⟨#[]⟩ (show 1≤5 by decide) (show 5≤6 by decide) rfl aC aA).mono ?_;intro e w8 hp;by_cases hy:(mk.op (.remove s)).2=0
       ·obtain⟨mj,h1⟩:∃mj,mk.op (.remove s)=(mj,0):=⟨_,cC⟩
        obtain⟨rfl,hs8,hk8⟩:=hp.eq h1;have HS8:=hZ (HS.out.step hs8 hk8)
        have HX8:Hid (SameP (fun b=>(P b∨b=w1.heap.size)∨(Value.slice (some ⟨g,0,none⟩) M cap).ownBlock=some b) W9 w8):=hZ (fun b hb=>(hk8 b hb).trans (HX.out b hb));have HOP:=hZ h1
        clear hp hy hs8 hk8 h1 hc9;go_wp2_with fail;refine⟨⟨k+1,mj,aC,aG,hZ ?_,HS8,HX8⟩,cN⟩;rw[HTM2.out,lN _ HOP.out]
       ·obtain⟨y,hyy⟩:∃y,(mk.op (.remove s)).2=y:=⟨_,rfl⟩
        rw[hyy]at hy
        obtain⟨mj,h1⟩:∃mj,mk.op (.remove s)=(mj,y):=⟨_,bU⟩
        have hv:(y !=0)=true:=bne_iff_ne.2 hy;obtain⟨rfl,hs8,hk8⟩:=hp.eq h1;have HS8:=hZ (HS.out.step hs8 hk8)
        have HX8:Hid (SameP P w1 w8):=hZ (fun b hb=>(hk8 b (.inl (.inl hb))).trans ((HX.out b (.inl (.inl hb))).trans (HMQ.out b hb)));have HOP:=hZ h1
        have HY:=hZ hy;clear hp hy hs8 hk8 h1 hc9 hyy;go_wp2_with fail;go_ret2
        have hO:mX m=(mj,y):=by
         rw[oZ HOFF.out,HBD.out];exact aZ
        refine⟨_,rfl,?_,HX8.out⟩;rw[hO,HBD.out];refine .inr ⟨HY.out,rfl,(HS8.out.st.sub P (fun b hb=>.inl (.inl hb))).more ?_⟩;rw[HMM.out];omega
      ·obtain rfl:k=M:=by omega
       have htm:oI BD m=(mk,0):=bC;have HTM2:=hZ htm
       have hMn:k≤1+N:=dG;have hnn:=HNN.out
       have HX9:Hid (SameP P w1 wr):=hZ (fun b hb=>(HX.out b (.inl (.inl hb))).trans (HMQ.out b hb));clear htm;by_cases hk0:(0:Int)<k
       ·have hne:BD≠[]:=fun e=>by have h0:([]:List ByteArray).length=k:=e▸HMM.out;have h1:(0:Nat)=k:=h0;omega
        have HNE:=hZ hne;clear hne;go_wp2_with fail;refine(oL HS.out ⟨6,⟨#[]⟩,⟨#[]⟩,0⟩ ⟨#[]⟩ (show 1≤6 by decide) (show 6≤6 by decide) rfl aC aA).mono ?_;intro e w8 hp;by_cases hy:(mk.op .flush).2=0
        ·obtain⟨mj,h1⟩:∃mj,mk.op .flush=(mj,0):=⟨_,cC⟩
         obtain⟨rfl,hs8,hk8⟩:=hp.eq h1;have HS8:=hZ (HS.out.step hs8 hk8)
         have HX8:Hid (SameP P w1 w8):=hZ (fun b hb=>(hk8 b (.inl (.inl hb))).trans (HX9.out b hb));have HOP:=hZ h1
         clear hp hy hs8 hk8 h1;go_wp2_with fail;go_ret2
         have hO:mX m=(mj,0):=by
          rw[oZ HOFF.out,HBD.out,lN _ HTM2.out,if_neg HNE.out];exact HOP.out
         refine⟨_,rfl,?_,HX8.out⟩;rw[hO,HBD.out];exact .inl ⟨rfl,_,rfl,Nat.le_refl _,HS8.out.drop dE⟩
        ·obtain⟨y,hyy⟩:∃y,(mk.op .flush).2=y:=⟨_,rfl⟩
         rw[hyy]at hy
         obtain⟨mj,h1⟩:∃mj,mk.op .flush=(mj,y):=⟨_,bU⟩
         have hv:(y !=0)=true:=bne_iff_ne.2 hy;obtain⟨rfl,hs8,hk8⟩:=hp.eq h1;have HS8:=hZ (HS.out.step hs8 hk8)
         have HX8:Hid (SameP P w1 w8):=hZ (fun b hb=>(hk8 b (.inl (.inl hb))).trans (HX9.out b hb));have HOP:=hZ h1
         have HY:=hZ hy;clear hp hy hs8 hk8 h1 hyy;go_wp2_with fail;go_ret2
         have hO:mX m=(mj,y):=by
          rw[oZ HOFF.out,HBD.out,lN _ HTM2.out,if_neg HNE.out];exact HOP.out
         refine⟨_,rfl,?_,HX8.out⟩;rw[hO,HBD.out];refine .inr ⟨HY.out,rfl,(HS8.out.st.sub P (fun b hb=>.inl (.inl hb))).more ?_⟩;rw[HMM.out];omega
       ·have he:BD=[]:=List.eq_nil_of_length_eq_zero dE;have HE:=hZ he
        clear he;go_wp2_with fail;go_ret2
        have hO:mX m=(mk,0):=by
         rw[oZ HOFF.out,HBD.out,lN _ HTM2.out,if_pos HE.out]
        refine⟨_,rfl,?_,HX9.out⟩;rw[hO,HBD.out];exact .inl ⟨rfl,_,rfl,Nat.le_refl _,HS.out.drop dE⟩
def IF(w1:World)(r:List (List UInt8×ByteArray)×Int)(e:Ending)(w':World):Prop:=
 ∃v,e=.returned (.tuple #[v,.int .i64 r.2])∧OwnP w1.heap.size r.1 v w'∧Below w1.heap.size w1 w'
theorem F3{w w1:World}{S P:Nat→Prop}{rb a n:Nat}{m:DM}(h:RRf w S P rb a w1 n m)(hnm:∀p∈m.now,(mP p).size≤140737488355328)(hn:n≤1000000000)(hsh:∀s∈m.lists ⟨refHead.toArray⟩,s.size≤200):
  Calls Tryz.prog 60 #[.pointer (some ⟨rb,0,none⟩)] w1 (IF w1 (sB m)):=by
 obtain⟨i0,hi,hz0,hz1,hz2⟩:=info_parts MF;have HS1:=hZ h
 have hlN:(m.lists ⟨refHead.toArray⟩).length≤n:=by
  unfold DM.lists;split
  ·exact gH
  ·rw[List.length_map];exact Nat.le_trans (List.length_filter_le _ _) h.st.ok.nowN
 have hls:=Cg h.st aC hnm ⟨#[114,101,102,115,47]⟩ aA;have hhd:∀s∈m.lists ⟨refHead.toArray⟩,s.data.toList.take 5=refHead:=fun s hs=>Bo hs
 have hlq:m.lists ⟨refHead.toArray⟩=m.lists ⟨#[114,101,102,115,47]⟩:=rfl;rw[←hlq]at hls
 have hLM:sB m=if m.off then([],(27:Int))else match nL m (m.lists ⟨refHead.toArray⟩)with
  |some l=>(l,(0:Int))
  |none=>([],(30:Int)):=rfl
 have hrl:m.off=false→∀s∈m.lists ⟨refHead.toArray⟩,(m.reads s).2=0:=fun ho s hs=>tV h.st.ok.now ho hs
 have hbox:=h.cell
 obtain⟨L,hL⟩:∃L,m.lists ⟨refHead.toArray⟩=L:=⟨_,rfl⟩
 rw[hL]at hls hlN hsh hLM hrl hhd;have HHD:=hZ hhd
 obtain⟨R,hR⟩:∃R,sB m=R:=⟨_,rfl⟩
 rw[hR]at hLM⊢;have HLM:=hZ hLM
 have HSH:=hZ hsh;have HRL:=hZ hrl
 obtain⟨N,hN⟩:∃N,L.length=N:=⟨_,rfl⟩
 have HN:=hZ hN;rw[hN]at hlN;have HNN:Hid (N≤n∧n≤1000000000):=hZ ⟨hlN,hn⟩
 clear h hsh hlN hL hN hn hlq hLM hR hrl hhd hnm
 cases hoff:m.off with
 |true=>
  rw[hoff]at hls;have HOFF:=hZ hoff
  clear hoff;have hlsw:Calls Tryz.prog 65 #[.pointer (some ⟨a,0,none⟩),.string ⟨#[114,101,102,115,47]⟩] w1 fun e w'=>∃v,e=.returned (.tuple #[v,.int .i64 27])∧GathT w1 w' v L:=hls
  clear hls;go_enter Tryz.func60,Tryz.ntmps60;go_wp2_with fail;refine hlsw.mono ?_;rintro e w2 ⟨v,rfl,-,hb2⟩;have HB2:=hZ hb2
  clear hb2 hlsw hbox;go_wp2_with fail;go_ret2;have hO:R=([],27):=gI
  rw[hO];exact⟨_,rfl,⟨rfl,.inl ⟨rfl,rfl⟩⟩,HB2.out⟩
 |false=>
  rw[hoff]at hls;have HOFF:=hZ hoff
  clear hoff;have hlsw:Calls Tryz.prog 65 #[.pointer (some ⟨a,0,none⟩),.string ⟨#[114,101,102,115,47]⟩] w1 fun e w'=>∃v,e=.returned (.tuple #[v,.int .i64 0])∧GathT w1 w' v L:=hls
  clear hls
  have HLM2:Hid (R=match nL m L with
   |some l=>(l,(0:Int))
   |none=>([],(30:Int))):=hZ gI
  have hI32:=lX (d:=zeroD) rfl;have hsz:=nE (d:=zeroD) rfl
  have h1z:=nW zeroD;clear HLM;go_enter Tryz.func60,Tryz.ntmps60;go_wp2_with fail;refine hlsw.mono ?_;rintro e w2 ⟨v,rfl,hv,hb2⟩;obtain⟨vp,vc,rfl⟩:=hv.rd.len;rw[HN.out]at hv⊢;have HV2:=hZ hv.rd
  have HB2:=hZ hb2;have HS2:=hZ (HS1.out.bel hb2)
  have hNi:(N:Int)≤1000000000:=eY;clear hb2 hlsw hv HS1 hbox;go_wp2_with fail;go_loopw [6,7] (fun v iv wr=>∃(k K:Nat) (l:List (List UInt8×ByteArray)),(k:Int)≤N∧(K:Int)≤k∧iv=.int .i64 k∧(∃vp vc,v=.slice vp K vc)∧Hid (l.length=K)∧Hid (nL m L=(nL m (L.drop k)).map (l++ ·))∧Hid (OwnP w2.heap.size l v wr)∧Hid (Below w2.heap.size w2 wr)) (fun _ iv _=>N-(intOf iv).toNat)
  case atStart=>exact⟨0,0,[],aC,aC,rfl,⟨_,_,rfl⟩,hZ rfl,hZ (by rw[List.drop_zero];cases nL m L<;>rfl),hZ ⟨rfl,.inl ⟨rfl,rfl⟩⟩,hZ (Below.refl _ _)⟩
  case round=>
   obtain⟨k,K,l,hk,hKk,rfl,⟨up,uc,rfl⟩,HK,HNM,HR,HB⟩:=hrel;by_cases hlt:(k:Int)<N
   ·have hkl:k<L.length:=by rw[HN.out];omega
    obtain⟨s,hs⟩:∃s,L[k]?=some s:=⟨_,List.getElem?_eq_getElem hkl⟩
    obtain⟨vp',vc',he,hv⟩:=HV2.out.below HB.out;obtain⟨vb,vo,hvp,hvl,hvc⟩:=hv k s hs;have hpe:vp=some ⟨vb,vo,none⟩:=dN
    subst hpe;have hss:=HSH.out s (List.mem_of_getElem? hs)
    have hy:=HRL.out HOFF.out s (List.mem_of_getElem? hs)
    have hdr:L.drop k=s::L.drop (k+1):=by
     rw[List.drop_eq_getElem_cons hkl];rw[List.getElem?_eq_getElem hkl]at hs;rw[Option.some.inj hs]
    have HDR:=hZ hdr;have hre0:=fun W:World=>zN s (show((s.size:Nat):Int)≤140737488355328 by omega) (HHD.out s (List.mem_of_getElem? hs)) W
    have HVC:Hid (∀W,Below w2.heap.size w2 W→W.cell? ⟨vb,vo+k,none⟩=some (.string s)):=hZ (fun W hb=>by
     obtain⟨vp2,vc2,he2,hv2⟩:=HV2.out.below hb;obtain⟨vb2,vo2,hvp2,-,hvc2⟩:=hv2 k s hs;cases he2;cases hvp2;exact hvc2)
    clear hs he hv hvp hvl hkl hdr;have HS4:=hZ (HS2.out.bel HB.out)
    have c4:=HS4.out.cell
    cases hrs:qP s with
    |false=>
     have hnx:nL m (L.drop k)=nL m (L.drop (k+1)):=by rw[HDR.out,nL,if_neg (by rw[hrs];decide)]
     have HNX:=hZ hnx;have hre:∀W:World,Calls Tryz.prog 117 #[.string s] W fun e w'=>∃T,e=.returned (.tuple #[.string T,.bool false])∧Below W.heap.size W w':=fun W=>(hre0 W).mono fun e w' ⟨T,h1,h2,h3⟩=>⟨T,by rw[h1,hrs],h3⟩
     clear hrs hnx hy hre0;go_wp2_with (go_at_call 117;refine(hre _).mono ?_;rintro e w5 ⟨T5,rfl,hb5⟩;have HB5:Hid (Below w2.heap.size w2 w5):=hZ (HB.out.trans (hb5.mono HB.out.size));have HR5:=hZ (HR.out.below hb5);clear hb5);exact gX
    |true=>
     have hrd:=fun W (hst:RSt w S P a W n m)=>Cf hst eY s
     obtain⟨T,hT⟩:∃T,(m.reads s).1=T:=⟨_,rfl⟩
     rw[hT,hy]at hrd;have HRD:=hZ hrd
     have hpa:=fun W:World=>tM T W
     unfold vP at hpa
     have hnx:nL m (L.drop k)=match nI T,nL m (L.drop (k+1))with
      |some _,some l=>some ((nS s,T)::l)
      |_,_=>none:=fU
     have hre:∀W:World,Calls Tryz.prog 117 #[.string s] W fun e w'=>e=.returned (.tuple #[.string ⟨(nS s).toArray⟩,.bool true])∧Below W.heap.size W w':=fun W=>(hre0 W).mono fun e w' ⟨T,h1,h2,h3⟩=>⟨by rw[h1,KV (h2 hrs),hrs],h3⟩
     clear hrd hT hy hrs hre0
     cases hp:nI T with
     |none=>
      rw[hp]at hpa hnx;have HNX:Hid (nL m (L.drop k)=none):=hZ hnx
      have hpa2:∀W:World,Calls Tryz.prog 118 #[.string T] W fun e w'=>e=.returned (.tuple #[.agg (zeroD.map lG).toArray,.int .i64 4])∧Below W.heap.size W w':=hpa
      clear hpa hp hnx;go_wp2_with (go_at_call 117;refine(hre _).mono ?_;rintro e w5 ⟨rfl,hb5⟩;have HB5:Hid (Below w2.heap.size w2 w5):=hZ (HB.out.trans (hb5.mono HB.out.size));have HS5:=hZ (HS4.out.bel hb5);have c5:=HS5.out.cell;clear hb5);have hrq:∀q:Nat,Calls Tryz.prog 67 #[.pointer (some ⟨a,0,none⟩),.string s] (w5.drewN q) fun e w'=>e=.returned (.tuple #[.string T,.int .i64 0])∧∃n,w'=(w5.drewN q).drewN n:=fun q=>HRD.out _ (HS5.out.st.drews q)
      have HRQ:=hZ hrq;have d5:w5.cell? ⟨vb,vo+k,none⟩=some (.string s):=(HVC.out w5 HB5.out)
      have hk0:(0:Int)≤(k:Int):=aC;clear hrq;go_quiet ((go_at_call 67;exact Calls.quiet_of (HRQ.out _)));rename_i nq
      obtain⟨w6,hW6⟩:∃W,w5.drewN nq=W:=⟨_,rfl⟩
      rw[hW6];have hb6:Below w5.heap.size w5 w6:=kP
      have HB6:Hid (Below w2.heap.size w2 w6):=hZ (HB5.out.trans (hb6.mono HB5.out.size));clear hb6 hW6 d5 c5;go_wp2_with (first|(go_at_call 118;refine(hpa2 _).mono ?_;rintro e w7 ⟨rfl,hb7⟩;have HB7:Hid (Below w2.heap.size w2 w7):=hZ (HB6.out.trans (hb7.mono HB6.out.size));clear hb7)|(refine lO rfl _ _ _ rfl _ (zeroD.map lG).toArray _ rfl rfl rfl hI32 hsz h1z ?_;(obtain⟨W5,hW5⟩:∃W,w7.alloc (.cells (zeroD.map lG).toArray 33)=W:=⟨_,rfl⟩;have HB8:Hid (Below w2.heap.size w2 W5):=hZ (by rw[←hW5];exact HB7.out.alloc HB7.out.size _);rw[hW5];clear hW5)));go_ret2;have hO:R=([],30):=by rw[HLM2.out,HNM.out,HNX.out];rfl
      rw[hO];exact⟨_,rfl,⟨rfl,.inl ⟨rfl,rfl⟩⟩,HB2.out.trans (HB8.out.mono HB2.out.size)⟩
     |some D=>
      have hDl:=(sF hp).2;rw[hp]at hpa hnx;have HNX:Hid (nL m (L.drop k)=(nL m (L.drop (k+1))).map ((nS s,T):: ·)):=hZ kW
      have hpa2:∀W:World,Calls Tryz.prog 118 #[.string T] W fun e w'=>e=.returned (.tuple #[.agg (D.map lG).toArray,.int .i64 0])∧Below W.heap.size W w':=hpa
      have hI2:=lX hDl;have hd1:=nW D
      have hdz:=nE hDl;clear hpa hp hnx hDl;go_wp2_with (go_at_call 117;refine(hre _).mono ?_;rintro e w5 ⟨rfl,hb5⟩;have HB5:Hid (Below w2.heap.size w2 w5):=hZ (HB.out.trans (hb5.mono HB.out.size));have HS5:=hZ (HS4.out.bel hb5);have HR5:=hZ (HR.out.below hb5);have c5:=HS5.out.cell;clear hb5);have hrq:∀q:Nat,Calls Tryz.prog 67 #[.pointer (some ⟨a,0,none⟩),.string s] (w5.drewN q) fun e w'=>e=.returned (.tuple #[.string T,.int .i64 0])∧∃n,w'=(w5.drewN q).drewN n:=fun q=>HRD.out _ (HS5.out.st.drews q)
      have HRQ:=hZ hrq;have d5:w5.cell? ⟨vb,vo+k,none⟩=some (.string s):=(HVC.out w5 HB5.out)
      have hk0:(0:Int)≤(k:Int):=aC;clear hrq;go_quiet ((go_at_call 67;exact Calls.quiet_of (HRQ.out _)));rename_i nq
      obtain⟨w6,hW6⟩:∃W,w5.drewN nq=W:=⟨_,rfl⟩
      rw[hW6];have hb6:Below w5.heap.size w5 w6:=kP
      have HB6:Hid (Below w2.heap.size w2 w6):=hZ (HB5.out.trans (hb6.mono HB5.out.size));have HR6:=hZ (HR5.out.below hb6)
      clear hb6 hW6 d5 c5;go_wp2_with (first|(go_at_call 118;refine(hpa2 _).mono ?_;rintro e w7 ⟨rfl,hb7⟩;have HB7:Hid (Below w2.heap.size w2 w7):=hZ (HB6.out.trans (hb7.mono HB6.out.size));have HR7:=hZ (HR6.out.below hb7);clear hb7)|(refine lO rfl _ _ _ rfl _ (D.map lG).toArray _ rfl rfl rfl hI2 hdz hd1 ?_;(obtain⟨W5,hW5⟩:∃W,w7.alloc (.cells (D.map lG).toArray 33)=W:=⟨_,rfl⟩;have hb8:Below w7.heap.size w7 W5:=aM;have HB8:Hid (Below w2.heap.size w2 W5):=hZ (HB7.out.trans (hb8.mono HB7.out.size));have HR8:=hZ (HR7.out.below hb8);rw[hW5];clear hW5 hb8))|(at_builtin;go_must (refine rF rfl _ _ 79 rfl w2.heap.size 83 i0 (.agg #[.string ⟨#[]⟩,.string ⟨#[]⟩]) 2 32 Tryz.underlying79 hi hz0 hz1 hz2 rfl aA (.slice up K uc) K _ rfl ((HR8.out.below ((Below.refl W5.heap.size W5).alloc (Nat.le_refl _) (.cells #[.string ⟨(nS s).toArray⟩,.string T] 83))).row HK.out) ⟨W5.heap.size,0,none⟩ 1 1 [.string ⟨(nS s).toArray⟩,.string T] rfl rfl (Nj W5 _ _ _) (MG _ _) aA cT aC (Nat.le_trans HB8.out.size cO) ?_);intro v6 W6 ho6 hl6;have HO6:=hZ ho6;have HL6:=hZ hl6;(obtain⟨p6,c6,rfl⟩:=oV ho6);clear ho6 hl6));have hb9:Below w2.heap.size w2 W6:=(HB8.out.alloc (by have:=HB8.out.size;omega) _).trans (Dm ((HR8.out.below ((Below.refl W5.heap.size W5).alloc (Nat.le_refl _) (.cells #[.string ⟨(nS s).toArray⟩,.string T] 83))).row HK.out) HL6.out (Nat.le_trans HB8.out.size cO))
      refine⟨⟨k+1,K+1,l++[(nS s,T)],aC,aC,aG,⟨_,_,rfl⟩,hZ ?_,hZ ?_,hZ ?_,hZ hb9⟩,cN⟩
      ·rw[List.length_append,HK.out];rfl
      ·rw[HNM.out,HNX.out]
       cases nL m (L.drop (k+1))with
       |none=>rfl
       |some r=>exact congrArg some (List.append_assoc l [(nS s,T)] r).symm
      ·exact OwnG.app (by rw[HK.out];exact HO6.out)
   ·obtain rfl:k=N:=by omega
    have hall:nL m L=some l:=gK;have hO:R=(l,0):=by rw[HLM2.out,hall]
    have HO:=hZ hO;clear hall hO;go_wp2_with fail;go_ret2;rw[HO.out];exact⟨_,rfl,HR.out.base HB2.out.size,HB2.out.trans (HB.out.mono HB2.out.size)⟩
end Go.Proofs.YtdkedmngeahjiaaGreatDoor
