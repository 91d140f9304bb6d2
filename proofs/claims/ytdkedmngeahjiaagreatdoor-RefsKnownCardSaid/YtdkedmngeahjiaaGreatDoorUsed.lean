import Derived.Test.YtdkedmngeahjiaaGreatDoorDiskA
import Derived.Test.YtdkedmngeahjiaaGreatDoorM6
import Derived.Maps.RangeWalk
import Derived.Sort.KeysCollected
set_option maxRecDepth 100000
set_option maxHeartbeats 25600000
namespace Go.Proofs.YtdkedmngeahjiaaGreatDoor
open Go Go.RowKit Go.Maps Go.Shelf
def yU(fs:List Fil)(left:Lit→Bool):Tab→Nat
 |[]=>0
 |p::r=>(if left (.string p.1)then fs[p.2]!.data.size else 0)+yU fs left r
theorem Gq(fs:List Fil)(left:Lit→Bool):∀t:Tab,(∀p∈t,left (.string p.1)=true)→yU fs left t=lU fs t
 |[],_=>rfl
 |p::r,h=>by rw[yU,lU,if_pos (h p List.mem_cons_self),Gq fs left r (fun q hq=>h q (List.mem_cons_of_mem _ hq))]
theorem DQ(fs:List Fil)(left:Lit→Bool):∀t:Tab,(∀kl,left kl=false)→yU fs left t=0
 |[],_=>rfl
 |p::r,h=>by rw[yU,h,DQ fs left r h];rfl
theorem DR(fs:List Fil)(left:Lit→Bool)(k:Bs):∀t:Tab,(∀p∈t,p.1≠k)→yU fs (fun z=>left z&& !z.sameKey (.string k)) t=yU fs left t
 |[],_=>rfl
 |p::r,h=>by
  rw[yU,yU,DR fs left k r (fun q hq=>h q (List.mem_cons_of_mem _ hq))]
  have e:(Lit.string p.1).sameKey (.string k)=false:=by
   show(p.1==k)=false;rw[beq_eq_false_iff_ne];exact h p List.mem_cons_self
  simp only[e,Bool.not_false,Bool.and_true]
theorem DS(fs:List Fil)(left:Lit→Bool)(k:Bs)(i:Nat)(hl:left (.string k)=true):∀t:Tab,mF t→(k,i)∈t→yU fs left t=fs[i]!.data.size+yU fs (fun z=>left z&& !z.sameKey (.string k)) t
 |[],_,h=>aK
 |p::r,hr,h=>by
  unfold mF at hr;rw[List.pairwise_cons]at hr;rw[yU,yU];rcases List.mem_cons.1 h with rfl|h
  ·have e:(Lit.string k).sameKey (.string k)=true:=by show(k==k)=true;exact beq_self_eq_true k
   rw[DR fs left k r (fun q hq=>Ne.symm (Df (hr.1 q hq)))];simp only[hl,e,Bool.not_true,Bool.and_false,if_true,Bool.false_eq_true,if_false];omega
  ·have e:(Lit.string p.1).sameKey (.string k)=false:=by
    show(p.1==k)=false;rw[beq_eq_false_iff_ne];exact Df (hr.1 _ h)
   rw[DS fs left k i hl r hr.2 h];simp only[e,Bool.not_false,Bool.and_true];omega
theorem CL{v:Value}{y:DataW Unit×List MemPlace}(h:pN v=some y):∃c:Option Nat,v=Ei c:=by
 unfold pN at h;split at h
 ·exact⟨some _,rfl⟩
 ·exact⟨none,rfl⟩
 ·cases h
theorem Ka{t:Tab}{k:Bs}{v:Value}{y:DataW Unit×List MemPlace}(hv:pN v=some y)(h:∀zd,(rE t).atKey (.string k) zd=y.1):∃b,(k,b)∈t∧v=.pointer (some ⟨b,0,none⟩):=by
 cases hg:lS t k with
 |none=>
  have h1:=h .nil;have h2:=h (.agg [])
  rw[BB,hg]at h1 h2;rw[←h1]at h2;cases h2
 |some b=>
  have h1:=h .nil;rw[BB,hg]at h1;refine⟨b,mW hg,Bd (ps:=y.2) ?_⟩;rw[hv,show y=(y.1,y.2)from rfl,←h1]
theorem By{P:Program}{kT:TypeId}{w:World}{ops:Array Oper}{rest:List Oper}{o:Oper}{a:Act}{Q:Exit→Act→World→Prop}(hg:o.guard=none)(it:Operand)(hop:o.op=Op.next it false)(K:Keyed P kT)(hks:P.underlying kT=some .string)(b r:Nat)(t:Tab)(left:Lit→Bool)(cnt n:Nat)
  (hit:a.eval it=.pointer (some ⟨r,0,none⟩)) (h:w.ranges P kT pN b r n (rE t) left cnt)
  (hDone:(∀kl,left kl=false)→wpList P ops Q rest (a.put o.dst (.tuple #[.bool false])) w)
  (hMore:∀(k:Bs) (c:Nat) (w':World) (cnt':Nat),(k,c)∈t→left (.string k)=true→w'.ranges P kT pN b r n (rE t) (fun z=>left z&& !z.sameKey (.string k)) cnt'→cnt'<cnt→
   w.grownBy w' (some r)→w'.heap.size=w.heap.size→(Instr.entry (.pointer (some ⟨r,0,none⟩))).run P w'=.ok (.tuple #[.string ⟨k.toArray⟩,.pointer (some ⟨c,0,none⟩)]) w'→wpList P ops Q rest (a.put o.dst (.tuple #[.bool true,.string ⟨k.toArray⟩,.pointer (some ⟨c,0,none⟩)])) w'):
  wpList P ops Q (o::rest) a w:=by
 refine wpList_next_ranges w hg it hop kT K pN Go.Proofs.encStr Ei (fun key kl hk=>by obtain⟨x,h1,h2⟩:=Maps.keyOf_str hks hk;exact⟨x,h1⟩) (fun v y hv=>CL hv) b r n (rE t) left cnt hit h (fun _ hl=>hDone hl) ?_;intro x c kl y w' cnt' hkey hlk hv hat hrg hlt hgr hsz hen;obtain⟨x',e1,rfl,-⟩:=Maps.keyOf_str hks hkey;obtain rfl:=Go.encStr_inj e1;obtain⟨b',hm,hpv⟩:=Ka hv hat;rw[hpv]at hen⊢;exact hMore x b' w' cnt' hm hlk hrg hlt hgr hsz hen
theorem LD{loc:Nat→Nat}{t:Tab}{k:Bs}{c:Nat}(h:(k,c)∈oX loc t):∃i,(k,i)∈t∧c=loc i:=by
 obtain⟨p,hp,e⟩:=List.mem_map.1 h;cases e;exact⟨p.2,hp,rfl⟩
theorem sA(fs:List Fil)(R:Nat):∀t:Tab,(∀p∈t,fs[p.2]!.data.size≤R)→lU fs t≤t.length*R
 |[],_=>Nat.zero_le _
 |p::r,h=>by
  rw[lU,List.length_cons,Nat.succ_mul];have:=sA fs R r (fun q hq=>h q (List.mem_cons_of_mem _ hq))
  have:=h p List.mem_cons_self;omega
theorem Gr{w:World}{a n:Nat}{m:DM}{S:Nat→Prop}(h:DiskAt w a n m S)(hn:n*m.room≤4611686018427387904):
  Calls Tryz.prog 14 #[.pointer (some ⟨a,0,none⟩)] w fun e w'=>e=.returned (.int .i64 m.used)∧Below w.heap.size w w':=by
 obtain⟨bn,bs,pv,fv,loc,h⟩:=h;obtain⟨c0,-,c2,-⟩:=h.cells;have H:=hZ h
 cases ho:m.off with
 |true=>
  have e:m.used=0:=gJ;rw[ho]at c0;clear h;go_enter Tryz.func14,Tryz.ntmps14;go_wp2_with fail;go_ret;exact⟨eD,Below.refl _ _⟩
 |false=>
  have e:m.used=lU m.files m.now:=gJ;rw[ho]at c0;have hT:=h.now
  have hb0:=lH h.head;have hle:=sA m.files m.room m.now (fun p hp=>(h.ok.file _ (get!_mem (h.ok.nowI p hp))).2)
  have hle2:lU m.files m.now≤4611686018427387904:=Nat.le_trans hle (Nat.le_trans (Nat.mul_le_mul_right _ h.ok.nowN) hn);have hle3:((lU m.files m.now:Nat):Int)≤4611686018427387904:=aC
  clear h hle hn;go_enter Tryz.func14,Tryz.ntmps14;go_wp2_with (at_range;refine wpList_range_own _ rfl _ _ rfl 9 93 mH Tryz.underlying85 pN bn _ _ rfl hT ?_;intro w0 hrg0 hg0 hs0);go_frame
  have hsum0:yU m.files (Maps.has (rE (oX loc m.now))) m.now=lU m.files m.now:=Gq _ _ _ (fun p hp=>by
   have hgt:=mO H.out.ok.now hp;have h1:lS (oX loc m.now) p.1=some (loc p.2):=by rw[B2,hgt];rfl
   refine List.any_eq_true.2 ⟨qS (p.1,loc p.2),List.mem_map.2 ⟨_,mW h1,rfl⟩,?_⟩;show(p.1==p.1)=true
   exact beq_self_eq_true _)
  have HB0:Hid (Below w.heap.size w w0):=hZ ⟨hg0.os,hg0.tape,hg0.output,hg0.size,fun k hk=>hg0.block k hk eZ⟩;have HR0:=hZ hrg0
  have HS0:=hZ hsum0;clear hrg0 hg0 hs0 hsum0 hT;go_loopw [3] (fun nv wr=>∃(v:Nat) (left:Lit→Bool) (cnt:Nat),nv=.int .i64 v∧v≤lU m.files m.now∧Hid (v+yU m.files left m.now=lU m.files m.now)∧Hid (wr.ranges Tryz.prog 9 pN bn w.heap.size (oX loc m.now).length (rE (oX loc m.now)) left cnt)∧Hid (Below w.heap.size w wr)) (fun _ wr=>wr.rangeLeft bn w.heap.size)
  case atStart=>exact⟨0,_,_,rfl,Nat.zero_le _,by rw[Nat.zero_add];exact HS0.out,HR0.out,HB0.out⟩
  case round=>
   obtain⟨v,left,cnt,rfl,hv,HV,HRG,HB⟩:=hrel;go_wp2_with (at_next;refine By rfl _ rfl mH Tryz.underlying9 bn w.heap.size _ left cnt _ rfl HRG.out ?_ ?_)
   ·intro hl0;have hvt:v=lU m.files m.now:=by have:=HV.out;rw[DQ _ _ _ hl0]at this;omega
    subst hvt;go_wp2_with fail;go_ret;exact⟨eD,HB.out⟩
   ·intro k c w1 cnt1 hm hlk hrg1 hlt hg1 hs1 hen;obtain⟨i,hmi,rfl⟩:=LD hm;have hst:=DS m.files left k i hlk m.now H.out.ok.now hmi
    have hf:=H.out.fileAt (H.out.ok.nowI _ hmi);have hb1:Below w.heap.size w w1:=⟨hg1.os.trans HB.out.os,hg1.tape.trans HB.out.tape,hg1.output.trans HB.out.output,lB,fun b hb=>(hg1.block b lB (fun e=>by cases e;omega)).trans (HB.out.block b hb)⟩
    have d0:w1.cell? ⟨loc i,0,none⟩=some (.string m.files[i]!.data):=lF ((hb1.block _ (lH hf.2)).trans hf.2);have hV:=HV.out
    generalize m.files[i]!.data=D at d0 hst;have hvs:v+D.size≤lU m.files m.now:=aC
    have hvi:(v:Int)+(D.size:Int)≤4611686018427387904:=aC;have HV2:=hZ (show v+D.size+yU m.files (fun z=>left z&& !z.sameKey (.string k)) m.now=lU m.files m.now by omega)
    have HB1:=hZ hb1;have HR1:=hZ hrg1
    have HLT:=hZ hlt;clear hst hf hb1 hV hrg1 hm hmi hlk hg1 hs1 hlt;go_wp2_with fail;go_roundw
    case rel=>exact⟨v+D.size,_,cnt1,rfl,hvs,HV2,HR1,HB1⟩
    case measure=>rw[HR1.out.left_eq,HRG.out.left_eq];exact HLT.out
end Go.Proofs.YtdkedmngeahjiaaGreatDoor
