/- Contracts of the closures that refuse an operation. -/
import Derived.Test.YtdkedmngeahjiaaGreatDoorUsed
import Derived.Test.YtdkedmngeahjiaaGreatDoorM14
set_option maxRecDepth 100000
set_option maxHeartbeats 25600000
namespace Go.Proofs.YtdkedmngeahjiaaGreatDoor
theorem bZ{p:Prop}(h:p:=by exact⟨by rw[e];rfl,by first|exact Below.refl _ _|exact(Below.refl _ _).drew⟩):p:=h
theorem iG{p:Prop}(h:p:=by have c:=hI.cd;go_simp;rfl):p:=h
open Go Go.RowKit Go.Maps Go.Shelf
attribute [local go_sem] sR sS qN qO
structure InvU (W:World) (b0 b2 a room:Nat) (d:ByteArray) (W':World):Prop where
 cd:W'.cell? ⟨b0,0,none⟩=some (.pointer (some ⟨a,0,none⟩))
 cs:W'.cell? ⟨b2,0,none⟩=some (.string d)
 c1:W'.cell? ⟨a,1,none⟩=some (.int .i64 room)
 bel:Below W.heap.size W W'
theorem InvU.keep{W W' W2:World}{b0 b2 a room:Nat}{d:ByteArray}(h:InvU W b0 b2 a room d W')(hb:Below W'.heap.size W' W2)(h0:b0<W.heap.size)(h2:b2<W.heap.size)(ha:a<W.heap.size):InvU W b0 b2 a room d W2:=by
 have hz:=h.bel.size;exact⟨(hb.cell (p:=⟨b0,0,none⟩) (Nat.lt_of_lt_of_le h0 hz)).trans h.cd,(hb.cell (p:=⟨b2,0,none⟩) (Nat.lt_of_lt_of_le h2 hz)).trans h.cs,(hb.cell (p:=⟨a,1,none⟩) (Nat.lt_of_lt_of_le ha hz)).trans h.c1,h.bel.trans (hb.mono hz)⟩
theorem Lt(b:Bool)(n:Int)(hn:n≠0):xO b n=nG (if b then n else 0):=by
 unfold xO nG;cases b
 ·rfl
 ·simp[hn]
theorem DL{W:World}{a n:Nat}{m:DM}{S:Nat→Prop}(h:DiskAt W a n m S)(f:Nat)(b0 b1:Nat)(s:ByteArray)(hs:s.size≤maxLen)(cd:W.cell? ⟨b0,0,none⟩=some (.pointer (some ⟨a,0,none⟩)))(cn:W.cell? ⟨b1,0,none⟩=some (.string s))(hf:f=107∨f=91):
  Calls Tryz.prog f #[.pointer (some ⟨b0,0,none⟩),.pointer (some ⟨b1,0,none⟩)] W fun e w'=>e=.returned (nG (if(m.get s).isSome then 0 else 10))∧W=w':=by
 have hth:=yK h s hs
 have e:xO (m.get s).isNone 10=nG (if(m.get s).isSome then 0 else 10):=by
  rw[Lt _ _ aA];cases m.get s<;>rfl
 rw[e]at hth;generalize nG (if(m.get s).isSome then 0 else 10)=x at hth⊢;clear h e;rcases hf with rfl|rfl
 ·go_enter Tryz.func107,Tryz.ntmps107;go_wp2_with (go_at_call 85;refine hth.mono ?_;rintro e w1 ⟨rfl,rfl⟩);go_ret;exact cF
 ·go_enter Tryz.func91,Tryz.ntmps91;go_wp2_with (go_at_call 85;refine hth.mono ?_;rintro e w1 ⟨rfl,rfl⟩);go_ret;exact cF
theorem Ig{W:World}{a n:Nat}{m:DM}{S:Nat→Prop}(h:DiskAt W a n m S)(b0 b1 b2:Nat)(o s:ByteArray)(hs:o.size≤maxLen)(cd:W.cell? ⟨b0,0,none⟩=some (.pointer (some ⟨a,0,none⟩)))(co:W.cell? ⟨b1,0,none⟩=some (.string o))(cn:W.cell? ⟨b2,0,none⟩=some (.string s)):
  Calls Tryz.prog 109 #[.pointer (some ⟨b0,0,none⟩),.pointer (some ⟨b1,0,none⟩),.pointer (some ⟨b2,0,none⟩)] W fun e w'=>e=.returned (nG (m.refused (.rename o s)))∧W=w':=by
 have hth:=yK h o hs;have hrt:=CN s W
 clear h
 cases hg:m.get o with
 |none=>
  have e:nG (m.refused (.rename o s))=nJ 10:=by simp only[DM.refused,hg];rfl
  rw[hg]at hth;unfold xO at hth;simp only[Option.isNone_none,if_true]at hth;unfold nJ at hth e;go_enter Tryz.func109,Tryz.ntmps109;go_wp2_with (go_at_call 85;refine hth.mono ?_;rintro e w1 ⟨rfl,rfl⟩);go_ret;exact⟨eD,rfl⟩
 |some i=>
  have e:nG (m.refused (.rename o s))=xO (!oA s) 8:=by
   simp only[DM.refused,hg];rw[Lt _ _ aA];cases oA s<;>rfl
  rw[hg]at hth;unfold xO at hth;simp only[Option.isNone_some,Bool.false_eq_true,if_false]at hth;rw[e];generalize xO (!oA s) 8=x at hrt;go_enter Tryz.func109,Tryz.ntmps109
  go_wp2_with (first
   |(go_at_call 85;refine hth.mono ?_;rintro e w1 ⟨rfl,rfl⟩)
   |(go_at_call 99;refine hrt.mono ?_;rintro e w1 ⟨rfl,rfl⟩))
  go_ret;exact cF
theorem Ih{W:World}{a n:Nat}{m:DM}{S:Nat→Prop}(h:DiskAt W a n m S)(b0 b1:Nat)(s:ByteArray)(hs:s.size≤maxLen)(cn:W.cell? ⟨b0,0,none⟩=some (.string s))(cd:W.cell? ⟨b1,0,none⟩=some (.pointer (some ⟨a,0,none⟩))):
  Calls Tryz.prog 98 #[.pointer (some ⟨b0,0,none⟩),.pointer (some ⟨b1,0,none⟩)] W fun e w'=>e=.returned (nG (m.refused (.create s)))∧Below W.heap.size W w':=by
 have hrt:=CN s W;obtain⟨bn,bs,pv,fv,loc,h⟩:=h;obtain⟨-,-,c2,-⟩:=h.cells;have hT:=h.now
 have hk:=B5 hs;clear h
 cases hr:oA s with
 |false=>
  have e:nG (m.refused (.create s))=nJ 8:=by simp only[DM.refused,hr];rfl
  rw[hr]at hrt;unfold xO at hrt;simp only[Bool.not_false,if_true]at hrt;unfold nJ at hrt;go_enter Tryz.func98,Tryz.ntmps98;go_wp2_with (go_at_call 99;refine hrt.mono ?_;rintro e w1 ⟨rfl,rfl⟩);go_ret;exact bZ
 |true=>
  rw[hr]at hrt;unfold xO at hrt;simp only[Bool.not_true,Bool.false_eq_true,if_false]at hrt
  cases hg:lS m.now s.data.toList with
  |none=>
   have e:nG (m.refused (.create s))=.nilIface:=by simp only[DM.refused,hr,DM.get,hg];rfl
   have HG:=Ay (loc:=loc) hg;go_enter Tryz.func98,Tryz.ntmps98;go_wp2_with (go_at_call 99;refine hrt.mono ?_;rintro e w1 ⟨rfl,rfl⟩);refine lT 5 mC aE ?_;simp only[List.take_succ_cons,List.take_zero,List.drop_succ_cons,List.drop_zero]
   repeat still_step
   refine wpStill_nil ?_;go_wp2_with (at_lookup;refine oG rfl _ _ _ rfl 93 mH Tryz.underlying85 yZ bn _ rfl (show rB (W.drewN 1) bn _ from hT) _ _ rfl hk ?_;rw[HG]);go_ret;exact bZ
  |some i=>
   have e:nG (m.refused (.create s))=nJ 11:=by simp only[DM.refused,hr,DM.get,hg];rfl
   have HG:=sE (loc:=loc) hg;go_enter Tryz.func98,Tryz.ntmps98;go_wp2_with (go_at_call 99;refine hrt.mono ?_;rintro e w1 ⟨rfl,rfl⟩);refine lT 5 mC aE ?_;simp only[List.take_succ_cons,List.take_zero,List.drop_succ_cons,List.drop_zero]
   repeat still_step
   refine wpStill_nil ?_;go_wp2_with (at_lookup;refine oG rfl _ _ _ rfl 93 mH Tryz.underlying85 yZ bn _ rfl (show rB (W.drewN 1) bn _ from hT) _ _ rfl hk ?_;rw[HG]);go_ret;exact bZ
theorem J5(W:World):Calls Tryz.prog 95 #[] W fun e w'=>e=.returned .nilIface∧W=w':=by
 go_enter Tryz.func95,Tryz.ntmps95;go_wp2_with fail;go_ret;exact cF
theorem J6{W:World}{a n:Nat}{m:DM}{S:Nat→Prop}(h:DiskAt W a n m S)(b0 b1 b2:Nat)(s d:ByteArray)(hs:s.size≤maxLen)(hd:d.size≤140737488355328)(hn:n*m.room≤4611686018427387904)(ho:m.off=false)(cd:W.cell? ⟨b0,0,none⟩=some (.pointer (some ⟨a,0,none⟩)))(cn:W.cell? ⟨b1,0,none⟩=some (.string s))(cs:W.cell? ⟨b2,0,none⟩=some (.string d))(hb2:b2<W.heap.size)(hb0:b0<W.heap.size):
  Calls Tryz.prog 102 #[.pointer (some ⟨b0,0,none⟩),.pointer (some ⟨b1,0,none⟩),.pointer (some ⟨b2,0,none⟩)] W fun e w'=>e=.returned (nG (m.refused (.write s d)))∧Below W.heap.size W w':=by
 have hth:=yK h s hs;have hus:=fun W' (hb:Below W.heap.size W W')=>Gr (h.below hb) hn
 have hus2:m.used≤4611686018427387904:=by
  have hok:=h.ok;unfold DM.used;rw[ho];exact Nat.le_trans (sA m.files m.room m.now (fun p hp=>(hok.file _ (get!_mem (hok.nowI p hp))).2)) (Nat.le_trans (Nat.mul_le_mul_right _ hok.nowN) hn)
 obtain⟨bn,bs,pv,fv,loc,h⟩:=h;obtain⟨-,c1,-⟩:=h.cells;have ha:=lH h.head
 have hroom:=h.ok.room;clear h
 cases hg:m.get s with
 |none=>
  have e:nG (m.refused (.write s d))=nJ 10:=by simp only[DM.refused,hg];rfl
  rw[hg]at hth;unfold xO at hth;simp only[Option.isNone_none,if_true]at hth;unfold nJ at hth;go_enter Tryz.func102,Tryz.ntmps102;go_wp2_with (go_at_call 85;refine hth.mono ?_;rintro e w1 ⟨rfl,rfl⟩);go_ret;exact⟨eD,Below.refl _ _⟩
 |some i=>
  rw[hg]at hth;unfold xO at hth;simp only[Option.isNone_some,Bool.false_eq_true,if_false]at hth
  obtain⟨U,hU⟩:∃U,m.used=U:=⟨_,rfl⟩
  simp only[hU]at hus;rw[hU]at hus2;have hUi:(U:Int)≤4611686018427387904:=aC
  have hdi:(d.size:Int)≤140737488355328:=aC
  by_cases hf:(m.room:Int)<(U:Int)+(d.size:Int)
  ·have e:nG (m.refused (.write s d))=nJ 28:=by
    simp only[DM.refused,hg,hU];rw[if_pos (show(some i:Option Nat).isSome=true from rfl),if_pos aC]
    rfl
   go_enter Tryz.func102,Tryz.ntmps102
   go_wp2_with (first
    |(go_at_call 85;refine hth.mono ?_;rintro e w1 ⟨rfl,rfl⟩))
   refine sP (InvU W b0 b2 a m.room d) 9 aE aE ⟨cd,cs,c1,(Below.refl _ W).drew⟩ ?_;simp only[List.take_succ_cons,List.take_zero,List.drop_succ_cons,List.drop_zero];refine⟨_,mJ rfl (fun W hI=>iG),?_⟩;refine⟨_,Bz rfl (fun W hI=>by go_simp) (fun W' hI=>(hus W' hI.bel).mono fun e W2 ⟨he,hb⟩=>⟨he,hI.keep hb hb0 hb2 ha⟩),?_⟩;refine⟨_,mJ rfl (fun W hI=>by have c:=hI.cs;go_simp;rfl),?_⟩;refine⟨_,mJ rfl (fun W hI=>aV),?_⟩;refine⟨_,mJ rfl (fun W hI=>aV),?_⟩;refine⟨_,mJ rfl (fun W hI=>iG),?_⟩;refine⟨_,mJ rfl (fun W hI=>aV),?_⟩;refine⟨_,mJ rfl (fun W hI=>aV),?_⟩;refine⟨_,mJ rfl (fun W hI=>lC),?_⟩;rintro W7 hI7;change wpList _ _ _ _ _ W7;have HB7:=hZ hI7.bel
   clear hI7 hus;have hwr:IntKind.i64.wrap ((U:Int)+(d.size:Int))=(U:Int)+(d.size:Int):=xK aC aC
   go_wp2_with fail;go_ret;exact⟨eD,HB7.out⟩
  ·have e:nG (m.refused (.write s d))=.nilIface:=by
    simp only[DM.refused,hg,hU];rw[if_pos (show(some i:Option Nat).isSome=true from rfl),if_neg aC]
    rfl
   go_enter Tryz.func102,Tryz.ntmps102
   go_wp2_with (first
    |(go_at_call 85;refine hth.mono ?_;rintro e w1 ⟨rfl,rfl⟩))
   refine sP (InvU W b0 b2 a m.room d) 9 aE aE ⟨cd,cs,c1,(Below.refl _ W).drew⟩ ?_;simp only[List.take_succ_cons,List.take_zero,List.drop_succ_cons,List.drop_zero];refine⟨_,mJ rfl (fun W hI=>iG),?_⟩;refine⟨_,Bz rfl (fun W hI=>by go_simp) (fun W' hI=>(hus W' hI.bel).mono fun e W2 ⟨he,hb⟩=>⟨he,hI.keep hb hb0 hb2 ha⟩),?_⟩;refine⟨_,mJ rfl (fun W hI=>by have c:=hI.cs;go_simp;rfl),?_⟩;refine⟨_,mJ rfl (fun W hI=>aV),?_⟩;refine⟨_,mJ rfl (fun W hI=>aV),?_⟩;refine⟨_,mJ rfl (fun W hI=>iG),?_⟩;refine⟨_,mJ rfl (fun W hI=>aV),?_⟩;refine⟨_,mJ rfl (fun W hI=>aV),?_⟩;refine⟨_,mJ rfl (fun W hI=>lC),?_⟩;rintro W7 hI7;change wpList _ _ _ _ _ W7;have HB7:=hZ hI7.bel
   clear hI7 hus;have hwr:IntKind.i64.wrap ((U:Int)+(d.size:Int))=(U:Int)+(d.size:Int):=xK aC aC
   go_wp2_with fail;go_ret;exact⟨eD,HB7.out⟩
end Go.Proofs.YtdkedmngeahjiaaGreatDoor
