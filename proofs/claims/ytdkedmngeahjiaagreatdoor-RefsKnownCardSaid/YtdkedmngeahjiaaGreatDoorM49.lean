import Derived.Test.YtdkedmngeahjiaaGreatDoorM41
import Derived.Test.YtdkedmngeahjiaaGreatDoorM48
import Derived.Test.YtdkedmngeahjiaaGreatDoorM42
import Derived.Test.YtdkedmngeahjiaaGreatDoorM25
import Derived.Still
import Derived.Test.YtdkedmngeahjiaaGreatDoorM43
set_option maxRecDepth 100000
set_option maxHeartbeats 25600000
namespace Go.Proofs.YtdkedmngeahjiaaGreatDoor
theorem fQ{p:Prop}(h:p:=by first|exact sM rfl|(unfold Ef;omega)):p:=h
theorem iT{p:Prop}(h:p:=by show 5-0≤5;decide):p:=h
theorem jL{p:Prop}(h:p:=by rw[←hWA];exact(Below.refl _ _).alloc (Nat.le_refl _) _):p:=h
open Go Go.RowKit
def e7:List UInt8:=[7,0,0,0,0,0,0,0,0,0,0,0,0,0,0,0,0,0,0,0,0,0,0,0,0,0,0,0,0,0,0,0]
def tF(W1:World):List OpV:=[((⟨2,⟨#[97]⟩,z0,⟨#[]⟩,0,[]⟩:OpR),(.slice none 0 0:Value)),((⟨1,⟨#[97]⟩,z0,⟨#[]⟩,0,[]⟩:OpR),(.slice none 0 0:Value)),((⟨2,⟨#[97,58,108,97,116,101,115,116]⟩,z0,⟨#[]⟩,0,[]⟩:OpR),(.slice none 0 0:Value)),((⟨4,⟨#[]⟩,z0,⟨#[]⟩,0,[]⟩:OpR),(.slice none 0 0:Value)),((⟨1,⟨#[98]⟩,z0,⟨#[]⟩,0,[]⟩:OpR),(.slice none 0 0:Value)),((⟨1,⟨#[99]⟩,z0,⟨#[]⟩,0,[]⟩:OpR),(.slice none 0 0:Value)),((⟨4,⟨#[]⟩,z0,⟨#[]⟩,0,[]⟩:OpR),(.slice none 0 0:Value)),((⟨3,⟨#[98]⟩,z0,⟨#[]⟩,0,[]⟩:OpR),(.slice none 0 0:Value)),((⟨3,⟨#[98]⟩,z0,⟨#[]⟩,0,[]⟩:OpR),(.slice none 0 0:Value)),((⟨1,⟨#[65]⟩,z0,⟨#[]⟩,0,[]⟩:OpR),(.slice none 0 0:Value)),((⟨6,⟨#[]⟩,z0,⟨#[]⟩,4,[1,1,1]⟩:OpR),(.slice (some ⟨W1.heap.size,0,none⟩) 3 3:Value)),((⟨1,⟨#[97]⟩,e7,⟨#[]⟩,0,[]⟩:OpR),(.slice none 0 0:Value)),((⟨2,⟨#[97]⟩,z0,⟨#[]⟩,0,[]⟩:OpR),(.slice none 0 0:Value)),((⟨2,⟨#[65]⟩,z0,⟨#[]⟩,0,[]⟩:OpR),(.slice none 0 0:Value)),((⟨5,⟨#[]⟩,z0,⟨#[]⟩,0,[]⟩:OpR),(.slice none 0 0:Value)),((⟨8,⟨#[]⟩,z0,⟨#[]⟩,0,[]⟩:OpR),(.slice none 0 0:Value)),((⟨5,⟨#[]⟩,z0,⟨#[]⟩,0,[]⟩:OpR),(.slice none 0 0:Value)),((⟨2,⟨#[97]⟩,z0,⟨#[]⟩,0,[]⟩:OpR),(.slice none 0 0:Value))]
theorem Co{k:Int}{s t:ByteArray}{D:List UInt8}{z:Int}{ks:List Int}(h1:D.length=32)(h2:Ef k)(h3:Ef z)(h4:s.size≤1000)(h5:t.size≤1000)(h6:ks.length≤1000):(⟨k,s,D,t,z,ks⟩:OpR).Fits:=
 ⟨h1,h2,h3,Nat.le_trans h4 aA,Nat.le_trans h5 aA,by show ks.length*8≤_;omega⟩
theorem sM{k:Int}(h:(decide (-9223372036854775808≤k)&&decide (k≤9223372036854775807))=true):Ef k:=by
 rw[Bool.and_eq_true,decide_eq_true_eq,decide_eq_true_eq]at h;exact h
theorem DD(W1:World):∀p∈tF W1,p.1.dig.length=32:=by
 intro p hp;unfold tF at hp;simp only[List.mem_cons,List.not_mem_nil,or_false]at hp;rcases hp with rfl|rfl|rfl|rfl|rfl|rfl|rfl|rfl|rfl|rfl|rfl|rfl|rfl|rfl|rfl|rfl|rfl|rfl
 all_goals rfl
theorem Hy(W1:World):∀o∈(tF W1).map (·.1),o.Fits:=by
 intro o ho;obtain⟨p,hp,rfl⟩:=List.mem_map.1 ho;unfold tF at hp;simp only[List.mem_cons,List.not_mem_nil,or_false]at hp;rcases hp with rfl|rfl|rfl|rfl|rfl|rfl|rfl|rfl|rfl|rfl|rfl|rfl|rfl|rfl|rfl|rfl|rfl|rfl
 all_goals exact Co rfl (sM rfl) (sM rfl) aA aA aA
theorem JN(w:World)(hG:ErrT w):Calls Tryz.prog 27 #[] w fun e w'=>e=.returned (.bool true)∧Below w.heap.size w w':=by
 obtain⟨W1,hW1⟩:∃W,w.alloc (.cells (e7.map lG).toArray 33)=W:=⟨_,rfl⟩
 obtain⟨W2,hW2⟩:∃W,W1.alloc (.cells (([1,1,1]:List Int).map (Value.int .i64)).toArray 3)=W:=⟨_,rfl⟩
 obtain⟨W3,hW3⟩:∃W,W2.alloc (.cells (sJ (tF W1)) 53)=W:=⟨_,rfl⟩
 have hb1:Below w.heap.size w W1:=aQ;have hb2:Below W1.heap.size W1 W2:=bE
 have hb3:Below W2.heap.size W2 W3:=cK;have hx1:W1.heap[w.heap.size]?=some (.cells (e7.map lG).toArray 33 (0,0)):=cB
 have hx2:W2.heap[W1.heap.size]?=some (.cells (([1,1,1]:List Int).map (Value.int .i64)).toArray 3 (0,0)):=gA;have hx3:W3.heap[W2.heap.size]?=some (.cells (sJ (tF W1)) 53 (0,0)):=by rw[←hW3];exact lP _ _
 have hb12:Below w.heap.size w W2:=hb1.trans (hb2.mono hb1.size);have hb13:Below w.heap.size w W3:=hb12.trans (hb3.mono hb12.size)
 have HG3:=hG.below hb13 hG.2;have hx23:=(hb3.block _ (lH hx2)).trans hx2
 have hk:∀p∈tF W1,IntsIn W3 p.2 p.1.keep:=by
  intro p hp;unfold tF at hp;simp only[List.mem_cons,List.not_mem_nil,or_false]at hp;rcases hp with rfl|rfl|rfl|rfl|rfl|rfl|rfl|rfl|rfl|rfl|rfl|rfl|rfl|rfl|rfl|rfl|rfl|rfl
  all_goals first
   |exact qD W3
   |exact sK 0 hx23 (fun k hk=>by simp at hk;omega) 3 aA aA
 have hpl:Calls Tryz.prog 5 #[.int .i64 142,.slice (some ⟨W2.heap.size,0,none⟩) 18 18] W3 fun e w'=>e=.returned (.bool true)∧Below W3.heap.size W3 w':=
  rP W3 HG3 142 aA aA (some ⟨W2.heap.size,0,none⟩) 18 ((tF W1).map (·.1)) (Am hx3 (DD W1) hk 18) (show 18≤1360000000000 by decide) (Hy W1)
 have HRG:=hZ (oF ((hb2.block _ (lH hx1)).trans hx1));have hI:=oM (d:=e7) rfl
 have hU:=nD;have HB:=hZ hb13
 have HG:=hZ hG;have H32:=DD W1
 have hkk:∀p∈tF W1,p.2.oneCell'=true:=by
  intro p hp;unfold tF at hp;simp only[List.mem_cons,List.not_mem_nil,or_false]at hp;rcases hp with rfl|rfl|rfl|rfl|rfl|rfl|rfl|rfl|rfl|rfl|rfl|rfl|rfl|rfl|rfl|rfl|rfl|rfl
  all_goals rfl
 have HW1:=hZ hW1;have hI2:=lX (d:=e7) rfl
 have h17:=nW e7;have hz7:=nE (d:=e7) rfl
 have HW2:=hZ hW2;have HW3:=hZ hW3
 clear hb1 hb2 hb3 hx1 hx2 hx3 hb12 hb13 HG3 hx23 hk hG hW1 hW2 hW3;go_enter Tryz.func27,Tryz.ntmps27;go_wp2_with (first|(refine lO rfl _ _ _ rfl _ (e7.map lG).toArray _ rfl rfl rfl hI2 hz7 h17 ?_;rw[HW1.out])|(refine mL rfl _ _ rfl 2 ⟨#[97]⟩ rfl rfl ?_;refine mL rfl _ _ rfl 1 ⟨#[97]⟩ rfl rfl ?_;refine mL rfl _ _ rfl 2 ⟨#[97,58,108,97,116,101,115,116]⟩ rfl rfl ?_;refine oH rfl _ rfl 4 rfl ?_;refine mL rfl _ _ rfl 1 ⟨#[98]⟩ rfl rfl ?_;refine mL rfl _ _ rfl 1 ⟨#[99]⟩ rfl rfl ?_;refine oH rfl _ rfl 4 rfl ?_;refine mL rfl _ _ rfl 3 ⟨#[98]⟩ rfl rfl ?_;refine mL rfl _ _ rfl 3 ⟨#[98]⟩ rfl rfl ?_;refine mL rfl _ _ rfl 1 ⟨#[65]⟩ rfl rfl ?_;refine wpList_buildFlat rfl 51 3 3 _ rfl .i64 [1,1,1] Tryz.underlying51 aE aE rfl aA aA rfl ?_;rw[HW2.out];simp only[Act.put,List.setIfInBounds_toArray,List.set_cons_succ,List.set_cons_zero];refine zC rfl _ _ _ rfl 6 4 [1,1,1] (some ⟨W1.heap.size,0,none⟩) 3 3 rfl rfl rfl ?_;refine wpList_load_mid rfl _ _ rfl w.heap.size 0 rfl (e7.map lG) _ HRG.out hU rfl hI ?_;simp only[Act.put,List.setIfInBounds_toArray,List.set_cons_succ,List.set_cons_zero];refine vJ rfl _ _ _ rfl 1 ⟨#[97]⟩ e7 rfl rfl rfl rfl ?_;refine mL rfl _ _ rfl 2 ⟨#[97]⟩ rfl rfl ?_;refine mL rfl _ _ rfl 2 ⟨#[65]⟩ rfl rfl ?_;refine oH rfl _ rfl 5 rfl ?_;refine oH rfl _ rfl 8 rfl ?_;refine oH rfl _ rfl 5 rfl ?_;refine mL rfl _ _ rfl 2 ⟨#[97]⟩ rfl rfl ?_;simp only[Act.put,List.setIfInBounds_toArray,List.set_cons_succ,List.set_cons_zero];refine sL rfl (tF W1) H32 hkk _ 18 rfl rfl (fun i=>[3,4,5,6,7,8,9,10,11,12,14,16,17,18,19,20,21,22].getD i 0) aA aA rfl (fun i h=>match i,h with|0,_=>rfl|1,_=>rfl|2,_=>rfl|3,_=>rfl|4,_=>rfl|5,_=>rfl|6,_=>rfl|7,_=>rfl|8,_=>rfl|9,_=>rfl|10,_=>rfl|11,_=>rfl|12,_=>rfl|13,_=>rfl|14,_=>rfl|15,_=>rfl|16,_=>rfl|17,_=>rfl|i+18,h=>absurd h (Nat.not_lt.2 (Nat.le_add_left _ _))) ?_;rw[HW3.out];simp only[Act.put,List.setIfInBounds_toArray,List.set_cons_succ,List.set_cons_zero]));refine hpl.mono ?_;rintro e w4 ⟨rfl,hb4⟩;have hbb:=HB.out.trans (hb4.mono HB.out.size)
 have HB4:=hZ hbb;have hwk:=tD w4 (HG.out.below hbb HG.out.2)
 clear hb4 hbb hpl H32 hkk hI hU;go_wp2_with fail;refine hwk.mono ?_;rintro e w5 ⟨rfl,hb5⟩;have HB5:=hZ (HB4.out.trans (hb5.mono HB4.out.size))
 clear hb5 hwk;go_wp2_with fail;go_ret;exact⟨rfl,HB5.out⟩
section
variable {P:Program} {ops:Array Oper} {rest:List Oper} {o:Oper} {a:Act} {w:World} {Q:Exit→Act→World→Prop}
theorem pP(hw:Region.wanted o (yielded ops a.tmps)=true)(h:wpList P ops Q ({o with guard:=none}::rest) a w):wpList P ops Q (o::rest) a w:=by
 unfold wpList at h⊢;rw[if_pos hw];rw[if_pos (show Region.wanted {o with guard:=none} (yielded ops a.tmps)=true from rfl)]at h;exact h
theorem JO(hg:o.guard=none)(x:Operand)(ho:o.op=.move x)(h:wpList P ops Q rest (a.put o.dst (a.eval x)) w):wpList P ops Q (o::rest) a w:=
 wpList_plain hg fun _ hK=>by
  unfold Oper.wp execOp;simp only[ho,Sem.run_pure];exact hK _ _ h
end
theorem Lc{W:World}{base:Nat}{v:Value}{l:List OpV}(h:W.ownsRow base 53 37 v l.length (l.flatMap fun p=>p.1.cells p.2))(hl:0<l.length)(h32:∀p∈l,p.1.dig.length=32)(hk:∀p∈l,IntsIn W p.2 p.1.keep):
  ∃p c,v=.slice p l.length c∧MR W (.slice p (l.map (·.1)).length c) (l.map (·.1)):=by
 have hr:=h;rcases h.2 with⟨-,h0⟩|⟨g,cap,cur,rfl,h2,h3,-⟩
 ·omega
 ·refine⟨_,cap,rfl,_,cap,rfl,fun i m hm=>?_⟩;rw[List.getElem?_map]at hm;obtain⟨p,hp,rfl⟩:=Option.map_eq_some_iff.1 hm;have hmem:=List.mem_of_getElem? hp
  refine⟨g,0,p.2,rfl,lH h3,fun j hj=>?_,hk p hmem⟩;have hlen:=OpR.len (kv:=p.2) (h32 p hmem)
  have hf:=Al (f:=fun p:OpV=>p.1.cells p.2) l (fun x hx=>OpR.len (kv:=x.2) (h32 x hx)) i j p hp hj
  obtain⟨u,hu⟩:∃u,(p.1.cells p.2)[j]?=some u:=⟨_,List.getElem?_eq_getElem (by rw[hlen];exact hj)⟩
  rw[hu]at hf⊢;have:=hr.cells (g:=g) rfl _ _ hf
  rw[show((⟨g,0,none⟩:Addr).add (i*37+j))=⟨g,i*37+j,none⟩ by rw[Ck,Nat.zero_add]]at this;rw[Nat.zero_add];exact this
theorem IG:(Tryz.prog.info? 53).map (fun i=>(i.zero,i.size,i.bytes))=some (some (.agg (opA ⟨0,⟨#[]⟩,z0,⟨#[]⟩,0,[]⟩ (.slice none 0 0))),37,104):=aE
def e9:List UInt8:=[9,0,0,0,0,0,0,0,0,0,0,0,0,0,0,0,0,0,0,0,0,0,0,0,0,0,0,0,0,0,0,0]
theorem M4:Tryz.prog.built 33 [(0,.int .u8 9)]=some (e9.map lG).toArray:=dJ
def l7:List ByteArray:=[⟨#[97]⟩,⟨#[98]⟩,⟨#[97]⟩,⟨#[99,58,49]⟩,⟨#[100]⟩,⟨#[97]⟩,⟨#[65]⟩]
def r9:List Int:=[-1,0,70,71,72,141,142,143,213]
def pX(W:World)(n:Nat):List OpV:=[((⟨1,⟨#[97]⟩,z0,⟨#[]⟩,0,[]⟩:OpR),(.slice none 0 0:Value)),((⟨1,⟨#[98]⟩,z0,⟨#[]⟩,0,[]⟩:OpR),(.slice none 0 0:Value)),((⟨6,⟨#[]⟩,z0,⟨#[]⟩,n,[1,1,1,1]⟩:OpR),(.slice (some ⟨W.heap.size,0,none⟩) 4 4:Value)),((⟨1,⟨#[97]⟩,z0,⟨#[]⟩,0,[]⟩:OpR),(.slice none 0 0:Value)),((⟨8,⟨#[]⟩,z0,⟨#[]⟩,0,[]⟩:OpR),(.slice none 0 0:Value)),((⟨4,⟨#[]⟩,z0,⟨#[]⟩,0,[]⟩:OpR),(.slice none 0 0:Value)),((⟨1,⟨#[99]⟩,z0,⟨#[]⟩,0,[]⟩:OpR),(.slice none 0 0:Value)),((⟨4,⟨#[]⟩,z0,⟨#[]⟩,0,[]⟩:OpR),(.slice none 0 0:Value))]
def CI:List OpV:=[((⟨9,⟨#[116,109,112,47,114,101,102]⟩,z0,⟨#[120]⟩,0,[]⟩:OpR),(.slice none 0 0:Value))]
theorem DE(W:World)(n:Nat):∀p∈pX W n,p.1.dig.length=32:=by
 intro p hp;unfold pX at hp;simp only[List.mem_cons,List.not_mem_nil,or_false]at hp;rcases hp with rfl|rfl|rfl|rfl|rfl|rfl|rfl|rfl
 all_goals rfl
theorem Cp(W:World)(n:Nat)(hn:n≤8):∀o∈(pX W n).map (·.1),o.Fits:=by
 intro o ho;obtain⟨p,hp,rfl⟩:=List.mem_map.1 ho;unfold pX at hp;simp only[List.mem_cons,List.not_mem_nil,or_false]at hp;rcases hp with rfl|rfl|rfl|rfl|rfl|rfl|rfl|rfl
 all_goals exact Co rfl (sM rfl) (by unfold Ef;omega) aA aA aA
theorem JP(w:World)(hG:ErrT w):Calls Tryz.prog 30 #[] w fun e w'=>e=.returned (.bool true)∧Below w.heap.size w w':=by
 have HG:=hZ hG;obtain⟨i0,hi0,hz0,hz1,hz2⟩:=info_parts IG
 obtain⟨WA,hWA⟩:∃W,w.alloc (.cells (r9.map (Value.int .i64)).toArray 3)=W:=⟨_,rfl⟩
 have hba:Below w.heap.size w WA:=jL;have hxa:WA.heap[w.heap.size]?=some (.cells (r9.map (Value.int .i64)).toArray 3 (0,0)):=by rw[←hWA];exact lP _ _
 have HBA:=hZ hba;have HXA:=hZ hxa
 have HWA:Hid (w.alloc (.cells #[.int .i64 (-1),.int .i64 0,.int .i64 70,.int .i64 71,.int .i64 72,.int .i64 141,.int .i64 142,.int .i64 143,.int .i64 213] 3)=WA):=hZ hWA;clear hG hba hxa hWA;go_enter Tryz.func30,Tryz.ntmps30;go_wp2_with (rw[HWA.out]);go_loopw [7] (fun iv wr=>∃i:Nat,(i:Int)≤9∧iv=.int .i64 i∧Hid (Below WA.heap.size WA wr)) (fun iv _=>9-(intOf iv).toNat)
 case atStart=>exact⟨0,aA,rfl,hZ (Below.refl _ _)⟩
 case round=>
  obtain⟨i,hi,rfl,HBI⟩:=hrel;by_cases hlt:(i:Int)<9
  ·obtain⟨x,hx⟩:∃x,r9[i]?=some x:=⟨_,List.getElem?_eq_getElem (show i<9 by omega)⟩
   have hxb:-9223372036854775808≤x∧x≤9223372036854775807:=by
    have hm:=List.mem_of_getElem? hx;unfold r9 at hm;simp only[List.mem_cons,List.not_mem_nil,or_false]at hm;omega
   have c0:wr.cell? ⟨w.heap.size,i,none⟩=some (.int .i64 x):=by
    rw[lF ((HBI.out.block _ (lH HXA.out)).trans HXA.out),List.getElem?_toArray,List.getElem?_map,hx]
    rfl
   obtain⟨hx1,hx2⟩:=hxb;have HWI:=hZ (HBA.out.trans (HBI.out.mono HBA.out.size))
   clear hx;go_wp2_with fail
   obtain⟨wi,hwi⟩:∃V,V=wr:=⟨_,rfl⟩
   go_loopw [3] (fun nv wr2=>∃n:Nat,(n:Int)≤8∧nv=.int .i64 n∧Hid (Below wi.heap.size wi wr2)) (fun nv _=>8-(intOf nv).toNat)
   case atStart=>exact⟨0,aA,rfl,hZ (by rw[hwi];exact Below.refl _ _)⟩
   case round=>
    clear c0;rw[←hwi]at HBI HWI;clear hwi;obtain⟨n,hn8,rfl,HBN⟩:=hrel;by_cases hltn:(n:Int)<8
    ·obtain⟨W1,hW1⟩:∃V,wr.alloc (.cells (([1,1,1,1]:List Int).map (Value.int .i64)).toArray 3)=V:=⟨_,rfl⟩
     obtain⟨W2,hW2⟩:∃V,W1.alloc (.cells (sJ (pX wr n)) 53)=V:=⟨_,rfl⟩
     have hb1:Below wr.heap.size wr W1:=aQ;have hb2:Below W1.heap.size W1 W2:=bE
     have hx1':W1.heap[wr.heap.size]?=some (.cells (([1,1,1,1]:List Int).map (Value.int .i64)).toArray 3 (0,0)):=cB;have hx2':W2.heap[W1.heap.size]?=some (.cells (sJ (pX wr n)) 53 (0,0)):=gA
     have hbw:Below w.heap.size w wr:=HWI.out.trans (HBN.out.mono HWI.out.size);have hb12:=hb1.trans (hb2.mono hb1.size)
     have hbw2:Below w.heap.size w W2:=hbw.trans (hb12.mono hbw.size);have hx12:=(hb2.block _ (lH hx1')).trans hx1'
     have H32:=DE wr n
     have hkk:∀p∈pX wr n,p.2.oneCell'=true:=by
      intro p hp;unfold pX at hp;simp only[List.mem_cons,List.not_mem_nil,or_false]at hp;rcases hp with rfl|rfl|rfl|rfl|rfl|rfl|rfl|rfl
      all_goals rfl
     have hkW:∀V,Below W2.heap.size W2 V→∀p∈pX wr n,IntsIn V p.2 p.1.keep:=by
      intro V hV p hp;unfold pX at hp;simp only[List.mem_cons,List.not_mem_nil,or_false]at hp;rcases hp with rfl|rfl|rfl|rfl|rfl|rfl|rfl|rfl
      all_goals first
       |exact qD V
       |exact sK 0 ((hV.block _ (lH hx12)).trans hx12) (fun k hk=>by simp at hk;omega) 4 aA aA
     have hpl:Calls Tryz.prog 5 #[.int .i64 x,.slice (some ⟨W1.heap.size,0,none⟩) 8 8] W2 fun e w'=>e=.returned (.bool true)∧Below W2.heap.size W2 w':=
      rP W2 (HG.out.below hbw2 HG.out.2) x hx1 hx2 (some ⟨W1.heap.size,0,none⟩) 8 ((pX wr n).map (·.1)) (Am hx2' (DE wr n) (hkW W2 (Below.refl _ _)) 8) (show 8≤1360000000000 by decide) (Cp wr n aC)
     have HKW:=hZ hkW;have HX2:=hZ hx2'
     have HW1:=hZ hW1;have HW2:=hZ hW2
     have HBW2:=hZ hbw2;have HB12:=hZ (HBN.out.trans (hb12.mono HBN.out.size))
     clear hb1 hb2 hx1' hx2' hbw hb12 hbw2 hx12 hkW hW1 hW2;go_wp2_with (refine mL rfl _ _ rfl 1 ⟨#[97]⟩ rfl rfl ?_;refine mL rfl _ _ rfl 1 ⟨#[98]⟩ rfl rfl ?_;refine JO rfl _ rfl ?_;refine wpList_buildFlat rfl 51 3 4 _ rfl .i64 [1,1,1,1] Tryz.underlying51 aE aE rfl aA aA rfl ?_;rw[HW1.out];simp only[Act.put,List.setIfInBounds_toArray,List.set_cons_succ,List.set_cons_zero];refine zC rfl _ _ _ rfl 6 (n:Int) [1,1,1,1] (some ⟨wr.heap.size,0,none⟩) 4 4 rfl rfl rfl ?_;refine mL rfl _ _ rfl 1 ⟨#[97]⟩ rfl rfl ?_;refine oH rfl _ rfl 8 rfl ?_;refine oH rfl _ rfl 4 rfl ?_;refine mL rfl _ _ rfl 1 ⟨#[99]⟩ rfl rfl ?_;refine oH rfl _ rfl 4 rfl ?_;simp only[Act.put,List.setIfInBounds_toArray,List.set_cons_succ,List.set_cons_zero];refine sL rfl (pX wr n) H32 hkk _ 8 rfl rfl (fun i=>[15,16,19,20,21,22,23,24].getD i 0) aA aA rfl (fun i h=>match i,h with|0,_=>rfl|1,_=>rfl|2,_=>rfl|3,_=>rfl|4,_=>rfl|5,_=>rfl|6,_=>rfl|7,_=>rfl|i+8,h=>absurd h (Nat.not_lt.2 (Nat.le_add_left _ _))) ?_;rw[HW2.out];simp only[Act.put,List.setIfInBounds_toArray,List.set_cons_succ,List.set_cons_zero]);refine hpl.mono ?_;rintro e w5 ⟨rfl,hb5⟩;have HB5:=hZ hb5
     obtain⟨W6,hW6⟩:∃V,w5.alloc (.cells (sJ CI) 53)=V:=⟨_,rfl⟩
     have hb6:Below w5.heap.size w5 W6:=by rw[←hW6];exact(Below.refl _ _).alloc (Nat.le_refl _) _
     have hx6:W6.heap[w5.heap.size]?=some (.cells (sJ CI) 53 (0,0)):=by rw[←hW6];exact lP _ _
     have hb26:=hb5.trans (hb6.mono hb5.size);have hx26:=(hb26.block _ (lH HX2.out)).trans HX2.out
     have hown:W6.ownsRow w5.heap.size 53 37 (.slice (some ⟨w5.heap.size,0,none⟩) 1 1) 1 (sJ CI).toList:=⟨rfl,.inr ⟨_,1,_,rfl,Nat.le_refl _,hx6,Nat.le_refl _,aA,rfl,List.take_of_length_le (Nat.le_refl _)⟩⟩
     have hl8:((pX wr n).flatMap fun p=>p.1.cells p.2).length=8*37:=rfl
     have hnews:∀j u,((pX wr n).flatMap fun p=>p.1.cells p.2)[j]?=some u→W6.cell? ((⟨W1.heap.size,0,none⟩:Addr).add j)=some u:=fun j u hj=>by
      rw[Ck,Nat.zero_add,lF hx26];unfold sJ;rw[List.getElem?_toArray];exact hj
     have hone:∀u∈(pX wr n).flatMap fun p=>p.1.cells p.2,u.oneCell'=true:=fun u hu=>by
      obtain⟨p,hp,hu2⟩:=List.mem_flatMap.1 hu;have:=OpR.one (o:=p.1) (hkk p hp)
      rw[List.all_toArray,List.all_eq_true]at this;exact this u hu2
     have HOWN:=hZ hown;have HL8:=hZ hl8
     have HNEWS:=hZ hnews;have HONE:=hZ hone
     have HW6:=hZ hW6;have HB26:=hZ hb26
     have h32L:∀p∈CI,p.1.dig.length=32:=by
      intro p hp;rw[List.mem_singleton.1 hp]
      rfl
     have hkL:∀p∈CI,p.2.oneCell'=true:=by
      intro p hp;rw[List.mem_singleton.1 hp]
      rfl
     clear hpl hb5 hb6 hx6 hb26 hx26 hown hl8 hnews hone hW6 hkk;go_wp2_with (first|(refine pP rfl ?_;refine zB rfl _ _ _ rfl 9 ⟨#[116,109,112,47,114,101,102]⟩ ⟨#[120]⟩ rfl rfl rfl ?_)|(refine pP rfl ?_;refine sL rfl CI h32L hkL _ 1 rfl rfl (fun i=>[32].getD i 0) aA aA rfl (fun i h=>match i,h with|0,_=>rfl|i+1,h=>absurd h (Nat.not_lt.2 (Nat.le_add_left _ _))) ?_;rw[HW6.out];simp only[Act.put,List.setIfInBounds_toArray,List.set_cons_succ,List.set_cons_zero])|(at_builtin;refine pP rfl ?_;refine wpList_append_own _ rfl _ _ 48 rfl w5.heap.size 53 i0 (.agg (opA ⟨0,⟨#[]⟩,z0,⟨#[]⟩,0,[]⟩ (.slice none 0 0))) 37 104 Tryz.underlying48 hi0 hz0 hz1 hz2 rfl aA _ _ _ rfl HOWN.out ⟨W1.heap.size,0,none⟩ 8 8 ((pX wr n).flatMap fun p=>p.1.cells p.2) rfl HL8.out HNEWS.out HONE.out aA aA (by have:=HB26.out.size;rw[←HW6.out,World.size_alloc];omega) ?_;intro v' w7 hown7 hgrow7 _));have hb6:Below w5.heap.size w5 W6:=by rw[←HW6.out];exact(Below.refl _ _).alloc (Nat.le_refl _) _
     have hb7:Below w5.heap.size w5 w7:=hb6.grown hgrow7 hb6.size (fun j hj=>by cases hj;exact Nat.le_refl _);have hb27:=HB5.out.trans (hb7.mono HB5.out.size)
     have hown9:w7.ownsRow w5.heap.size 53 37 v' (CI++pX wr n).length ((CI++pX wr n).flatMap fun p=>p.1.cells p.2):=by rw[List.flatMap_append];exact hown7
     obtain⟨p,c,rfl,hops⟩:=Lc hown9 (show 0<9 by decide) (fun p hp=>(List.mem_append.1 hp).elim (h32L p) (H32 p)) (fun p hp=>(List.mem_append.1 hp).elim (fun h=>by rw[List.mem_singleton.1 h];exact qD w7) (HKW.out w7 hb27 p))
     have hpl:Calls Tryz.prog 5 #[.int .i64 x,.slice p (CI++pX wr n).length c] w7 fun e w'=>e=.returned (.bool true)∧Below w7.heap.size w7 w':=
      rP w7 (HG.out.below (HBW2.out.trans (hb27.mono HBW2.out.size)) HG.out.2) x hx1 hx2 p c ((CI++pX wr n).map (·.1)) hops (show 9≤1360000000000 by decide) (fun o ho=>by
       rw[List.map_append]at ho;rcases List.mem_append.1 ho with h|h
       ·obtain⟨q,hq,rfl⟩:=List.mem_map.1 h;rw[List.mem_singleton.1 hq];exact Co rfl (sM rfl) (sM rfl) aA aA aA
       ·exact Cp wr n aC o h)
     refine hpl.mono ?_;rintro e w8 ⟨rfl,hb8⟩;have HB8:=hZ ((HB12.out.trans (hb27.mono HB12.out.size)).trans (hb8.mono (HB12.out.trans (hb27.mono HB12.out.size)).size))
     clear hpl hb6 hb7 hb27 hown9 hops hb8 hown7 hgrow7 H32 h32L hkL;go_wp2_with fail;exact⟨⟨n+1,aC,aG,HB8⟩,cN⟩
    ·go_wp2_with fail;exact⟨⟨i+1,aC,aG,hZ (HBI.out.trans (HBN.out.mono HBI.out.size))⟩,cN⟩
  ·obtain⟨W1,hW1⟩:∃V,wr.alloc (.cells (l7.map Value.string).toArray 9)=V:=⟨_,rfl⟩
   have hb1:Below wr.heap.size wr W1:=aQ;have hx1:W1.heap[wr.heap.size]?=some (.cells (l7.map Value.string).toArray 9 (0,0)):=cB
   have hbw:=HBA.out.trans (HBI.out.mono HBA.out.size);have hb2:=hbw.trans (hb1.mono hbw.size)
   have hal:Calls Tryz.prog 4 #[.slice (some ⟨wr.heap.size,0,none⟩) 7 7,nH e9] W1 fun e w'=>e=.returned (.bool true)∧Below W1.heap.size W1 w':=
    Jv W1 (HG.out.below hb2 HG.out.2) (some ⟨wr.heap.size,0,none⟩) 7 l7 ⟨_,7,rfl,fun i s hs=>⟨_,0,rfl,lH hx1,by rw[lF hx1,Nat.zero_add,List.getElem?_toArray,List.getElem?_map,hs];rfl⟩⟩ aA (fun s hs=>by
     have h9:s.size≤3:=by
      unfold l7 at hs;simp only[List.mem_cons,List.not_mem_nil,or_false]at hs;rcases hs with rfl|rfl|rfl|rfl|rfl|rfl|rfl
      all_goals decide
     omega) e9 rfl
   unfold nH at hal;have HB1:=hZ hb2
   have HW1:Hid (wr.alloc (.cells #[.string ⟨#[97]⟩,.string ⟨#[98]⟩,.string ⟨#[97]⟩,.string ⟨#[99,58,49]⟩,.string ⟨#[100]⟩,.string ⟨#[97]⟩,.string ⟨#[65]⟩] 9)=W1):=hZ hW1;clear hb1 hx1 hbw hb2 hW1;go_wp2_with (first|rw[HW1.out]|(refine wpList_buildTo rfl _ _ rfl _ rfl (e9.map lG).toArray (by simp only[List.map_toArray,List.map_cons,List.map_nil];exact M4) ?_));refine hal.mono ?_;rintro e w9 ⟨rfl,hb9⟩;have HB9:=hZ (HB1.out.trans (hb9.mono HB1.out.size))
   clear hb9 hal;go_wp2_with fail;go_ret;exact⟨rfl,HB9.out⟩
def Mp(v:R8)(m:Nat):List UInt8:=(List.range 32).map fun i=>UInt8.ofNat (if i<m then v.at (i/4)/2^(24-8*(i%4)) %256 else 0).toNat
theorem JQ(v:R8)(m:Nat):uS v m=(Mp v m).map lG:=by
 unfold uS Mp;rw[List.map_map];refine List.map_congr_left fun i _=>?_
 show Value.int .u8 _=Value.int .u8 _;refine congrArg (Value.int .u8) ?_;rw[UInt8.toNat_ofNat'];split<;>omega
def Hz(x:Int)(s:ByteArray):List UInt8:=Mp (Kd pV r8i s.data.toList) (CC x).toNat
theorem Cq(x:Int)(s:ByteArray):(Hz x s).length=32:=by unfold Hz Mp;rw[List.length_map,List.length_range]
structure CstW (w:World):Prop where
 err:ErrT w
 rnd:zZ w
 beg:GU w
theorem CstW.below{w w':World}(h:CstW w)(hb:Below w.heap.size w w'):CstW w':=
 ⟨h.err.below hb h.err.2,⟨fun i k hk=>(hb.cell (p:=⟨_,i,none⟩) h.rnd.2).trans (h.rnd.1 i k hk),Nat.lt_of_lt_of_le h.rnd.2 hb.size⟩,⟨fun j hj=>(hb.cell (p:=⟨_,j,none⟩) h.beg.2).trans (h.beg.1 j hj),Nat.lt_of_lt_of_le h.beg.2 hb.size⟩⟩
theorem AV(x:Int)(s:ByteArray)(w:World)(h:CstW w)(hs:s.size≤1000):
  Calls Tryz.prog 71 #[.int .i64 x,.string s] w fun e w'=>e=.returned (.agg ((Hz x s).map lG).toArray)∧Below w.heap.size w w':=by
 have:=Fi x s w h.rnd h.beg (Nat.le_trans hs aA);rw[show L1 x s=(Hz x s).map lG from JQ _ _]at this;exact this
def t15:List ByteArray:=[⟨#[114,101,102,115,47]⟩,⟨#[114,101,102,115,47,97]⟩,⟨#[114,101,102,115,47,97,58,108,97,116,101,115,116]⟩,⟨#[114,101,102,115,47,97,58,49]⟩,⟨#[114,101,102,115,47,65,58,49]⟩,⟨#[114,101,102,115,47,97,47,98,58,99]⟩,⟨#[114,101,102,115,47,97,58,49,58,50]⟩,⟨#[114,101,102,115,47,115,99,114,97,116,99,104,58,108,97,116,101,115,116]⟩,⟨#[114,101,102,47,97,58,49]⟩,⟨#[114,101,102,115]⟩,⟨#[116,109,112,47,114,101,102]⟩,⟨#[116,109,112,47,114,101,102,50]⟩,⟨#[116,109,112,47]⟩,⟨#[114,101,102,115,47,47,97,58,49]⟩,⟨#[114,101,102,115,47,97,58,49,47]⟩]
def t5(T:ByteArray):List ByteArray:=[T,⟨#[]⟩,T.extract 0 70,T++⟨#[48]⟩,⟨#[115,104,97,50,53,54,58]⟩++T.extract 7 70++⟨#[71]⟩]
def LW(W3:World)(q:Nat)(T:ByteArray)(j:Nat)(W:World):Prop:=Below W3.heap.size W3 W∧(1≤j→W3.heap.size≤q∧W.heap[q]?=some (.cells ((t5 T).map Value.string).toArray 9 (0,0)))
def xJ(f t:ByteArray):List OpV:=[((⟨9,f,z0,t,0,[]⟩:OpR),(.slice none 0 0:Value)),((⟨4,⟨#[]⟩,z0,⟨#[]⟩,0,[]⟩:OpR),(.slice none 0 0:Value)),((⟨2,⟨#[97]⟩,z0,⟨#[]⟩,0,[]⟩:OpR),(.slice none 0 0:Value)),((⟨2,⟨#[97,58,49]⟩,z0,⟨#[]⟩,0,[]⟩:OpR),(.slice none 0 0:Value)),((⟨1,⟨#[97,58,49]⟩,z0,⟨#[]⟩,0,[]⟩:OpR),(.slice none 0 0:Value)),((⟨4,⟨#[]⟩,z0,⟨#[]⟩,0,[]⟩:OpR),(.slice none 0 0:Value)),((⟨5,⟨#[]⟩,z0,⟨#[]⟩,0,[]⟩:OpR),(.slice none 0 0:Value)),((⟨4,⟨#[]⟩,z0,⟨#[]⟩,0,[]⟩:OpR),(.slice none 0 0:Value)),((⟨2,⟨#[97]⟩,z0,⟨#[]⟩,0,[]⟩:OpR),(.slice none 0 0:Value)),((⟨3,⟨#[97]⟩,z0,⟨#[]⟩,0,[]⟩:OpR),(.slice none 0 0:Value))]
theorem F8(f t:ByteArray):∀p∈xJ f t,p.1.dig.length=32:=by
 intro p hp;unfold xJ at hp;simp only[List.mem_cons,List.not_mem_nil,or_false]at hp;rcases hp with rfl|rfl|rfl|rfl|rfl|rfl|rfl|rfl|rfl|rfl
 all_goals rfl
theorem JR(f t:ByteArray)(hf:f.size≤1000)(ht:t.size≤1000):∀o∈(xJ f t).map (·.1),o.Fits:=by
 intro o ho;obtain⟨p,hp,rfl⟩:=List.mem_map.1 ho;unfold xJ at hp;simp only[List.mem_cons,List.not_mem_nil,or_false]at hp;rcases hp with rfl|rfl|rfl|rfl|rfl|rfl|rfl|rfl|rfl|rfl
 all_goals exact Co rfl (sM rfl) (sM rfl) (by first|decide|exact hf) (by first|decide|exact ht) aA
theorem Ld(w:World)(hG:CstW w):Calls Tryz.prog 29 #[] w fun e w'=>e=.returned (.bool true)∧Below w.heap.size w w':=by
 have HG:=hZ hG;have hsu:=AV 32 ⟨#[120]⟩ w hG aA
 obtain⟨D,hD⟩:∃D,Hz 32 ⟨#[120]⟩=D:=⟨_,rfl⟩
 have hDl:D.length=32:=by rw[←hD];exact Cq _ _
 rw[hD]at hsu;have htx:=fun W=>xS D hDl W
 have hts:(nA D).size=71:=wB hDl
 obtain⟨T,hT⟩:∃T,nA D=T:=⟨_,rfl⟩
 rw[hT]at htx hts;unfold nH at htx;have HTX:=hZ htx
 have HTS:=hZ hts;have h70:(70:Int)≤(T.size:Int):=aC
 have h71:(T.size:Int)≤71:=aC;clear hG hD hDl hT htx hts;go_enter Tryz.func29,Tryz.ntmps29;go_wp2_with fail;refine hsu.mono ?_;rintro e w1 ⟨rfl,hb1⟩;have HB1:=hZ hb1
 clear hb1 hsu;go_wp2_with fail;refine(HTX.out _).mono ?_;rintro e w2 ⟨rfl,hb2⟩;have hb2':=HB1.out.trans (hb2.mono HB1.out.size)
 obtain⟨WA,hWA⟩:∃W,w2.alloc (.cells (t15.map Value.string).toArray 9)=W:=⟨_,rfl⟩
 have hba:Below w2.heap.size w2 WA:=jL;have hxa:WA.heap[w2.heap.size]?=some (.cells (t15.map Value.string).toArray 9 (0,0)):=by rw[←hWA];exact lP _ _
 have HBA:=hZ (hb2'.trans (hba.mono hb2'.size));have HXA:=hZ hxa
 have HWA:Hid (w2.alloc (.cells #[.string ⟨#[114,101,102,115,47]⟩,.string ⟨#[114,101,102,115,47,97]⟩,.string ⟨#[114,101,102,115,47,97,58,108,97,116,101,115,116]⟩,.string ⟨#[114,101,102,115,47,97,58,49]⟩,.string ⟨#[114,101,102,115,47,65,58,49]⟩,.string ⟨#[114,101,102,115,47,97,47,98,58,99]⟩,.string ⟨#[114,101,102,115,47,97,58,49,58,50]⟩,.string ⟨#[114,101,102,115,47,115,99,114,97,116,99,104,58,108,97,116,101,115,116]⟩,.string ⟨#[114,101,102,47,97,58,49]⟩,.string ⟨#[114,101,102,115]⟩,.string ⟨#[116,109,112,47,114,101,102]⟩,.string ⟨#[116,109,112,47,114,101,102,50]⟩,.string ⟨#[116,109,112,47]⟩,.string ⟨#[114,101,102,115,47,47,97,58,49]⟩,.string ⟨#[114,101,102,115,47,97,58,49,47]⟩] 9)=WA):=hZ hWA
 obtain⟨ga,hga⟩:∃g,w2.heap.size=g:=⟨_,rfl⟩
 clear hb2 hb2' hba hxa hWA HTX;go_wp2_with (rw[HWA.out]);rw[hga]at HXA;clear HWA HB1 hga;go_loopw [10] (fun iv wr=>∃i:Nat,(i:Int)≤15∧iv=.int .i64 i∧Hid (Below WA.heap.size WA wr)) (fun iv _=>15-(intOf iv).toNat)
 case atStart=>exact⟨0,aA,rfl,hZ (Below.refl _ _)⟩
 case round=>
  obtain⟨i,hi,rfl,HBI⟩:=hrel;by_cases hlt:(i:Int)<15
  ·obtain⟨f,hf⟩:∃f,t15[i]?=some f:=⟨_,List.getElem?_eq_getElem (show i<15 by omega)⟩
   have hfs:f.size≤1000:=by
    have hm:=List.mem_of_getElem? hf;unfold t15 at hm;simp only[List.mem_cons,List.not_mem_nil,or_false]at hm;rcases hm with rfl|rfl|rfl|rfl|rfl|rfl|rfl|rfl|rfl|rfl|rfl|rfl|rfl|rfl|rfl
    all_goals decide
   have c0:wr.cell? ⟨ga,i,none⟩=some (.string f):=by
    rw[lF ((HBI.out.block _ (lH HXA.out)).trans HXA.out),List.getElem?_toArray,List.getElem?_map,hf]
    rfl
   have HFS:=hZ hfs;have HWI:=hZ (HBA.out.trans (HBI.out.mono HBA.out.size))
   clear hf hfs;go_wp2_with fail;clear c0;have hI0:Chn [[],[],[1],[],[3],[],[5],[6],[7],[0,2,4,8],[9],[]] [9] (LW wr 0 T) (fun _=>false) wr.drew:=Chn.start ⟨⟨rfl,rfl,rfl,Nat.le_refl _,fun _ _=>rfl⟩,fun h=>absurd h aA⟩
   refine lQ (fun γ:Nat=>[.string T,.string T,.string (T.extract 0 70),.string T,.string (T++⟨#[48]⟩),.string T,.string (T.extract 7 70),.string (⟨#[115,104,97,50,53,54,58]⟩++T.extract 7 70),.string (⟨#[115,104,97,50,53,54,58]⟩++T.extract 7 70++⟨#[71]⟩),.slice (some ⟨γ,0,none⟩) 5 5,.int .i64 5,.int .i64 0]) (fun L γ W=>Chn [[],[],[1],[],[3],[],[5],[6],[7],[0,2,4,8],[9],[]] [9] (LW wr γ T) L W)
    [[],[],[1],[],[3],[],[5],[6],[7],[0,2,4,8],[9],[]] 46 0 mC rfl aE (fun _=>rfl) hI0 ?_ ?_
   ·refine⟨?_,?_,?_,?_,?_,?_,?_,?_,?_,?_,?_,?_,rfl⟩
    all_goals intro L γ W ev hL hd hW hc hf hg he h0
    ·have e1:ev (.tmp 1)=.string T:=h0 1 rfl;clear he h0 hc hf hg;exact fK
    ·have e1:ev (.tmp 1)=.string T:=h0 1 rfl;clear he h0 hc hf hg;exact fJ
    ·have e15:ev (.tmp 15)=.string T:=he 1 aA _ 15 rfl rfl;have hcc:=hc
     clear he h0 hc hf hg;exact eW
    ·have e1:ev (.tmp 1)=.string T:=h0 1 rfl;clear he h0 hc hf hg;exact eV
    ·have e17:ev (.tmp 17)=.string T:=he 3 aA _ 17 rfl rfl;have hcc:=hc
     have hts:=HTS.out;clear he h0 hc hf hg;exact eU
    ·have e1:ev (.tmp 1)=.string T:=h0 1 rfl;clear he h0 hc hf hg;exact eS
    ·have e19:ev (.tmp 19)=.string T:=he 5 aA _ 19 rfl rfl;have hcc:=hc
     clear he h0 hc hf hg;exact flS rfl aD (hW.upd 6 aA hd) rfl
    ·have e20:ev (.tmp 20)=.string (T.extract 7 70):=he 6 aA _ 20 rfl rfl;have hcc:=hc
     have hts:=HTS.out;clear he h0 hc hf hg;exact eQ
    ·have e21:ev (.tmp 21)=.string (⟨#[115,104,97,50,53,54,58]⟩++T.extract 7 70):=he 7 aA _ 21 rfl rfl;have hcc:=hc
     have hts:=HTS.out;clear he h0 hc hf hg;exact gV
    ·have e14:ev (.tmp 14)=.string T:=he 0 aA _ 14 rfl rfl;have e16:ev (.tmp 16)=.string (T.extract 0 70):=he 2 aA _ 16 rfl rfl
     have e18:ev (.tmp 18)=.string (T++⟨#[48]⟩):=he 4 aA _ 18 rfl rfl;have e22:ev (.tmp 22)=.string (⟨#[115,104,97,50,53,54,58]⟩++T.extract 7 70++⟨#[71]⟩):=he 8 aA _ 22 rfl rfl
     have hcc:=hc;clear he h0 hc hg;have hF:=hW.at 0 aA hL (.inl rfl)
     refine .inl ⟨rfl,.inl ⟨_,W.alloc (.cells #[.string T,.string ⟨#[]⟩,.string (T.extract 0 70),.string (T++⟨#[48]⟩),.string (⟨#[115,104,97,50,53,54,58]⟩++T.extract 7 70++⟨#[71]⟩)] 9),aD,W.heap.size,hW.done (F':=LW wr W.heap.size T) aA 0 aA hL (.inl rfl) hd ⟨hF.1.alloc hF.1.size _,fun _=>⟨hF.1.size,lP _ _⟩⟩,rfl,fun j hj=>?_⟩⟩;have hj2:j≠9:=fun e=>cS
     match j,hj2 with
     |0,_=>rfl
     |1,_=>rfl
     |2,_=>rfl
     |3,_=>rfl
     |4,_=>rfl
     |5,_=>rfl
     |6,_=>rfl
     |7,_=>rfl
     |8,_=>rfl
     |10,_=>rfl
     |11,_=>rfl
     |9,h=>exact absurd rfl h
     |n+12,_=>rfl
    ·have e23:ev (.tmp 23)=.slice (some ⟨γ,0,none⟩) 5 5:=he 9 aA _ 23 rfl rfl;clear he h0 hc hf hg;exact gN
    ·have hcc:=hc;clear he h0 hc hf hg;exact gM
   intro γ L W5 hL hW
   have hF:=hW.fin (fun c hc=>hL c (by
    have h9:c=9:=bM;show c<12
    omega))
   have hF2:LW wr γ T 1 W5:=hF
   obtain⟨g,hg⟩:∃g,γ=g:=⟨_,rfl⟩
   rw[hg]at hF2;have HF5:=hZ hF2
   clear hL hI0 hF hF2;simp only[nX,Act.put,List.setIfInBounds_toArray,List.set_cons_succ,List.set_cons_zero];rw[hg];clear hW hg;have HXT:=hZ (HF5.out.2 (Nat.le_refl _)).2
   have HB5:=hZ (HF5.out.1)
   have hszT:∀x∈t5 T,x.size≤1000:=by
    intro x hx;have h1:=HTS.out
    unfold t5 at hx;simp only[List.mem_cons,List.not_mem_nil,or_false]at hx;rcases hx with rfl|rfl|rfl|rfl|rfl
    ·omega
    ·decide
    ·rw[ByteArray.size_extract];omega
    ·rw[ByteArray.size_append];show T.size+1≤_;omega
    ·rw[ByteArray.size_append,ByteArray.size_append,ByteArray.size_extract];show 7+_+1≤_;omega
   have HSZ:=hZ hszT;clear hszT HF5;go_wp2_with fail;go_loopw [25] (fun jv wr2=>∃j:Nat,(j:Int)≤5∧jv=.int .i64 j∧Hid (Below W5.heap.size W5 wr2)) (fun jv _=>5-(intOf jv).toNat)
   case atStart=>exact⟨0,aA,rfl,hZ (Below.refl _ _)⟩
   case round=>
    obtain⟨j,hj,rfl,HBJ⟩:=hrel;by_cases hltj:(j:Int)<5
    ·obtain⟨t,ht⟩:∃t,(t5 T)[j]?=some t:=⟨_,List.getElem?_eq_getElem (show j<5 by omega)⟩
     have c0:wr.cell? ⟨g,j,none⟩=some (.string t):=by
      rw[lF ((HBJ.out.block _ (lH HXT.out)).trans HXT.out),List.getElem?_toArray,List.getElem?_map,ht]
      rfl
     have hts:=HSZ.out t (List.mem_of_getElem? ht)
     obtain⟨W2,hW2⟩:∃V,wr.alloc (.cells (sJ (xJ f t)) 53)=V:=⟨_,rfl⟩
     have hb2:Below wr.heap.size wr W2:=bE;have hx2:W2.heap[wr.heap.size]?=some (.cells (sJ (xJ f t)) 53 (0,0)):=gA
     have hb52:=HBJ.out.trans (hb2.mono HBJ.out.size);have hbi:=HWI.out.trans (HB5.out.mono HWI.out.size)
     have hbw:=hbi.trans (hb52.mono hbi.size);have H32:=F8 f t
     have hkk:∀p∈xJ f t,p.2.oneCell'=true:=by
      intro p hp;unfold xJ at hp;simp only[List.mem_cons,List.not_mem_nil,or_false]at hp;rcases hp with rfl|rfl|rfl|rfl|rfl|rfl|rfl|rfl|rfl|rfl
      all_goals rfl
     have hki:∀p∈xJ f t,IntsIn W2 p.2 p.1.keep:=by
      intro p hp;unfold xJ at hp;simp only[List.mem_cons,List.not_mem_nil,or_false]at hp;rcases hp with rfl|rfl|rfl|rfl|rfl|rfl|rfl|rfl|rfl|rfl
      all_goals exact qD W2
     have hpl:Calls Tryz.prog 5 #[.int .i64 500,.slice (some ⟨wr.heap.size,0,none⟩) 10 10] W2 fun e w'=>e=.returned (.bool true)∧Below W2.heap.size W2 w':=
      rP W2 (HG.out.below hbw).err 500 aA aA (some ⟨wr.heap.size,0,none⟩) 10 ((xJ f t).map (·.1)) (Am hx2 (F8 f t) hki 10) (show 10≤1360000000000 by decide) (JR f t HFS.out hts)
     have HW2:=hZ hW2;have HB52:=hZ hb52
     clear ht hts hb2 hx2 hb52 hbi hbw hki hW2;go_wp2_with (refine zB rfl _ _ _ rfl 9 f t rfl rfl rfl ?_;refine oH rfl _ rfl 4 rfl ?_;refine mL rfl _ _ rfl 2 ⟨#[97]⟩ rfl rfl ?_;refine mL rfl _ _ rfl 2 ⟨#[97,58,49]⟩ rfl rfl ?_;refine mL rfl _ _ rfl 1 ⟨#[97,58,49]⟩ rfl rfl ?_;refine oH rfl _ rfl 4 rfl ?_;refine oH rfl _ rfl 5 rfl ?_;refine oH rfl _ rfl 4 rfl ?_;refine mL rfl _ _ rfl 2 ⟨#[97]⟩ rfl rfl ?_;refine mL rfl _ _ rfl 3 ⟨#[97]⟩ rfl rfl ?_;simp only[Act.put,List.setIfInBounds_toArray,List.set_cons_succ,List.set_cons_zero];refine sL rfl (xJ f t) H32 hkk _ 10 rfl rfl (fun i=>[31,32,33,34,35,36,37,38,39,40].getD i 0) aA aA rfl (fun i h=>match i,h with|0,_=>rfl|1,_=>rfl|2,_=>rfl|3,_=>rfl|4,_=>rfl|5,_=>rfl|6,_=>rfl|7,_=>rfl|8,_=>rfl|9,_=>rfl|i+10,h=>absurd h (Nat.not_lt.2 (Nat.le_add_left _ _))) ?_;rw[HW2.out];simp only[Act.put,List.setIfInBounds_toArray,List.set_cons_succ,List.set_cons_zero]);refine hpl.mono ?_;rintro e w8 ⟨rfl,hb8⟩;have HB8:=hZ (HB52.out.trans (hb8.mono HB52.out.size))
     clear hpl hb8 H32 hkk c0;go_wp2_with fail;exact⟨⟨j+1,aC,aG,HB8⟩,cN⟩
    ·go_wp2_with fail;exact⟨⟨i+1,aC,aG,hZ (HBI.out.trans ((HB5.out.trans (HBJ.out.mono HB5.out.size)).mono HBI.out.size))⟩,cN⟩
  ·go_wp2_with fail;go_ret;exact⟨rfl,HBA.out.trans (HBI.out.mono HBA.out.size)⟩
section
variable {ops:Array Oper} {rest:List Oper} {o:Oper} {a:Act} {w:World} {Q:Act→Prop}
theorem rQ{P:Program}(hg:o.guard=none){v:Value}(hr:(execOp a.eval o).run P w=.ok (.value v) w)(h:wpStill P ops w Q rest (a.put o.dst v)):wpStill P ops w Q (o::rest) a:=
 wpStill_step fun K hK=>by
  simp only[Region.wanted,hg,if_true];unfold Oper.still;rw[hr];exact⟨rfl,hK _ h⟩
theorem Le{P:Program}(hg:o.guard=none)(x:Operand)(ho:o.op=.move x)(h:wpStill P ops w Q rest (a.put o.dst (a.eval x))):wpStill P ops w Q (o::rest) a:=
 rQ hg (by unfold execOp;simp only[ho,Sem.run_pure]) h
theorem EB{P:Program}(hg:o.guard=none)(ty:TypeId)(x:Operand)(ho:o.op=.load ty x)(b off:Nat)(hx:a.eval x=.pointer (some ⟨b,off,none⟩))(cs:List Value)(d:TypeDesc)(hc:w.rangeAt b off cs)
  (hu:P.underlying ty=some d) (hd:d.isRow=true) (hi:(P.info? ty).map (·.size)=some cs.length) (h:wpStill P ops w Q rest (a.put o.dst (.agg cs.toArray))):wpStill P ops w Q (o::rest) a:=
 rQ hg (by
  unfold execOp;simp only[ho,hx,Instr.loadAt,Instr.sureAddr,Sem.run_bind,Sem.run_pure,Result.andThen_ok,run_loadVar_mid w b off ty cs d hc hu hd hi]) h
theorem yG{W:World}{ev:Operand→Value}(x0:Operand)(ho:o.op=.build 53 #[(0,x0)])(k:Int)(e0:ev x0=.int .i64 k):
  (execOp ev o).run Tryz.prog W=.ok (.value (.agg (opA ⟨k,⟨#[]⟩,z0,⟨#[]⟩,0,[]⟩ (.slice none 0 0)))) W:=by
 have hb:Tryz.prog.built 53 ((#[(0,x0)]:Array (Nat×Operand)).map fun(i,x)=>(i,ev x)).toList=some (opA ⟨k,⟨#[]⟩,z0,⟨#[]⟩,0,[]⟩ (.slice none 0 0)):=by
  simp only[List.map_toArray,List.map_cons,List.map_nil,e0];exact K0 k
 unfold execOp;simp only[ho,Sem.run_bind,run_build W _ _ _ hb,Result.andThen_ok,Sem.run_pure]
theorem wX(hg:o.guard=none)(x0:Operand)(ho:o.op=.build 53 #[(0,x0)])(k:Int)(e0:a.eval x0=.int .i64 k)
  (h:wpStill Tryz.prog ops w Q rest (a.put o.dst (.agg (opA ⟨k,⟨#[]⟩,z0,⟨#[]⟩,0,[]⟩ (.slice none 0 0))))):wpStill Tryz.prog ops w Q (o::rest) a:=
 rQ hg (by
  have hb:Tryz.prog.built 53 ((#[(0,x0)]:Array (Nat×Operand)).map fun(i,x)=>(i,a.eval x)).toList=some (opA ⟨k,⟨#[]⟩,z0,⟨#[]⟩,0,[]⟩ (.slice none 0 0)):=by
   simp only[List.map_toArray,List.map_cons,List.map_nil,e0];exact K0 k
  unfold execOp;simp only[ho,Sem.run_bind,run_build w _ _ _ hb,Result.andThen_ok,Sem.run_pure]) h
theorem JS{W:World}{ev:Operand→Value}(x0 x1:Operand)(ho:o.op=.build 53 #[(0,x0),(1,x1)])(k:Int)(s:ByteArray)(e0:ev x0=.int .i64 k)(e1:ev x1=.string s):
  (execOp ev o).run Tryz.prog W=.ok (.value (.agg (opA ⟨k,s,z0,⟨#[]⟩,0,[]⟩ (.slice none 0 0)))) W:=by
 have hb:Tryz.prog.built 53 ((#[(0,x0),(1,x1)]:Array (Nat×Operand)).map fun(i,x)=>(i,ev x)).toList=some (opA ⟨k,s,z0,⟨#[]⟩,0,[]⟩ (.slice none 0 0)):=by
  simp only[List.map_toArray,List.map_cons,List.map_nil,e0,e1];exact K1 k s
 unfold execOp;simp only[ho,Sem.run_bind,run_build W _ _ _ hb,Result.andThen_ok,Sem.run_pure]
theorem Cr{W:World}{ev:Operand→Value}(x0 x1 x2:Operand)(ho:o.op=.build 53 #[(0,x0),(1,x1),(3,x2)])(k:Int)(s:ByteArray)(t:ByteArray)(e0:ev x0=.int .i64 k)(e1:ev x1=.string s)(e2:ev x2=.string t):
  (execOp ev o).run Tryz.prog W=.ok (.value (.agg (opA ⟨k,s,z0,t,0,[]⟩ (.slice none 0 0)))) W:=by
 have hb:Tryz.prog.built 53 ((#[(0,x0),(1,x1),(3,x2)]:Array (Nat×Operand)).map fun(i,x)=>(i,ev x)).toList=some (opA ⟨k,s,z0,t,0,[]⟩ (.slice none 0 0)):=by
  simp only[List.map_toArray,List.map_cons,List.map_nil,e0,e1,e2];exact IC k s t
 unfold execOp;simp only[ho,Sem.run_bind,run_build W _ _ _ hb,Result.andThen_ok,Sem.run_pure]
theorem zQ{W:World}{ev:Operand→Value}(x0 x1 x2:Operand)(ho:o.op=.build 53 #[(0,x0),(1,x1),(2,x2)])(k:Int)(s:ByteArray)(D:List UInt8)(e0:ev x0=.int .i64 k)(e1:ev x1=.string s)(e2:ev x2=.agg (D.map lG).toArray)(hD:D.length=32):
  (execOp ev o).run Tryz.prog W=.ok (.value (.agg (opA ⟨k,s,D,⟨#[]⟩,0,[]⟩ (.slice none 0 0)))) W:=by
 have hb:Tryz.prog.built 53 ((#[(0,x0),(1,x1),(2,x2)]:Array (Nat×Operand)).map fun(i,x)=>(i,ev x)).toList=some (opA ⟨k,s,D,⟨#[]⟩,0,[]⟩ (.slice none 0 0)):=by
  simp only[List.map_toArray,List.map_cons,List.map_nil,e0,e1,e2];exact Ez k s hD
 unfold execOp;simp only[ho,Sem.run_bind,run_build W _ _ _ hb,Result.andThen_ok,Sem.run_pure]
theorem DF(hg:o.guard=none)(x0 x1 x2:Operand)(ho:o.op=.build 53 #[(0,x0),(1,x1),(2,x2)])(k:Int)(s:ByteArray)(D:List UInt8)(e0:a.eval x0=.int .i64 k)(e1:a.eval x1=.string s)(e2:a.eval x2=.agg (D.map lG).toArray)(hD:D.length=32)
  (h:wpStill Tryz.prog ops w Q rest (a.put o.dst (.agg (opA ⟨k,s,D,⟨#[]⟩,0,[]⟩ (.slice none 0 0))))):wpStill Tryz.prog ops w Q (o::rest) a:=
 rQ hg (by
  have hb:Tryz.prog.built 53 ((#[(0,x0),(1,x1),(2,x2)]:Array (Nat×Operand)).map fun(i,x)=>(i,a.eval x)).toList=some (opA ⟨k,s,D,⟨#[]⟩,0,[]⟩ (.slice none 0 0)):=by
   simp only[List.map_toArray,List.map_cons,List.map_nil,e0,e1,e2];exact Ez k s hD
  unfold execOp;simp only[ho,Sem.run_bind,run_build w _ _ _ hb,Result.andThen_ok,Sem.run_pure]) h
theorem H6{W:World}{ev:Operand→Value}(x0 x1 x2:Operand)(ho:o.op=.build 53 #[(0,x0),(4,x1),(5,x2)])(k:Int)(z:Int)(ks:List Int)(p:Option Addr)(n c:Nat)(e0:ev x0=.int .i64 k)(e1:ev x1=.int .i64 z)(e2:ev x2=.slice p n c):
  (execOp ev o).run Tryz.prog W=.ok (.value (.agg (opA ⟨k,⟨#[]⟩,z0,⟨#[]⟩,z,ks⟩ (.slice p n c)))) W:=by
 have hb:Tryz.prog.built 53 ((#[(0,x0),(4,x1),(5,x2)]:Array (Nat×Operand)).map fun(i,x)=>(i,ev x)).toList=some (opA ⟨k,⟨#[]⟩,z0,⟨#[]⟩,z,ks⟩ (.slice p n c)):=by
  simp only[List.map_toArray,List.map_cons,List.map_nil,e0,e1,e2];exact Ey k z p n c ks
 unfold execOp;simp only[ho,Sem.run_bind,run_build W _ _ _ hb,Result.andThen_ok,Sem.run_pure]
theorem JT(hg:o.guard=none)(x0 x1 x2:Operand)(ho:o.op=.build 53 #[(0,x0),(4,x1),(5,x2)])(k:Int)(z:Int)(ks:List Int)(p:Option Addr)(n c:Nat)(e0:a.eval x0=.int .i64 k)(e1:a.eval x1=.int .i64 z)(e2:a.eval x2=.slice p n c)
  (h:wpStill Tryz.prog ops w Q rest (a.put o.dst (.agg (opA ⟨k,⟨#[]⟩,z0,⟨#[]⟩,z,ks⟩ (.slice p n c))))):wpStill Tryz.prog ops w Q (o::rest) a:=
 rQ hg (by
  have hb:Tryz.prog.built 53 ((#[(0,x0),(4,x1),(5,x2)]:Array (Nat×Operand)).map fun(i,x)=>(i,a.eval x)).toList=some (opA ⟨k,⟨#[]⟩,z0,⟨#[]⟩,z,ks⟩ (.slice p n c)):=by
   simp only[List.map_toArray,List.map_cons,List.map_nil,e0,e1,e2];exact Ey k z p n c ks
  unfold execOp;simp only[ho,Sem.run_bind,run_build w _ _ _ hb,Result.andThen_ok,Sem.run_pure]) h
theorem Lf(hg:o.guard=none)(x0 x1:Operand)(ho:o.op=.build 53 #[(0,x0),(5,x1)])(k:Int)(ks:List Int)(p:Option Addr)(n c:Nat)(e0:a.eval x0=.int .i64 k)(e1:a.eval x1=.slice p n c)
  (h:wpStill Tryz.prog ops w Q rest (a.put o.dst (.agg (opA ⟨k,⟨#[]⟩,z0,⟨#[]⟩,0,ks⟩ (.slice p n c))))):wpStill Tryz.prog ops w Q (o::rest) a:=
 rQ hg (by
  have hb:Tryz.prog.built 53 ((#[(0,x0),(5,x1)]:Array (Nat×Operand)).map fun(i,x)=>(i,a.eval x)).toList=some (opA ⟨k,⟨#[]⟩,z0,⟨#[]⟩,0,ks⟩ (.slice p n c)):=by
   simp only[List.map_toArray,List.map_cons,List.map_nil,e0,e1];exact MS k p n c ks
  unfold execOp;simp only[ho,Sem.run_bind,run_build w _ _ _ hb,Result.andThen_ok,Sem.run_pure]) h
end
theorem Mq{ev:Operand→Value}{o:Oper}{W:World}(l:List OpV)(h32:∀p∈l,p.1.dig.length=32)(parts:Array (Nat×Operand))(n:Nat)(hn:l.length=n)(ho:o.op=.buildSlice 48 n parts)(ix:Nat→Nat)(hpos:0<n)(hsmall:n≤1000)
  (hparts:parts.toList=(List.range n).map fun i=>(i,Operand.tmp (ix i))) (hev:∀i (h:i<l.length),ev (.tmp (ix i))=.agg (opA (l[i]).1 (l[i]).2)):
  (execOp ev o).run Tryz.prog W=.ok (.value (.slice (some ⟨W.heap.size,0,none⟩) n n)) (W.alloc (.cells (sJ l) 53)):=by
 subst hn;obtain⟨ie,hie,hzz,hsz,-⟩:=info_parts IG
 have e1:(parts.map fun(i,x)=>(i,ev x)).toList=((l.map fun p=>Value.agg (opA p.1 p.2)).zipIdx 0).map fun x=>(x.2,x.1):=by
  rw[Array.toList_map,hparts,List.map_map];apply List.ext_getElem
  ·simp
  ·intro i h1 h2;have hi:i<l.length:=by simpa using h1
   simp only[List.getElem_map,List.getElem_range,Function.comp,List.getElem_zipIdx,Nat.zero_add];rw[hev i hi]
 have hf:Instr.fill (fun i=>some (i*ie.size,ie.size)) ((Array.range (l.length*ie.size)).map ((Value.agg (opA ⟨0,⟨#[]⟩,z0,⟨#[]⟩,0,[]⟩ (.slice none 0 0))).cells[· % (Value.agg (opA ⟨0,⟨#[]⟩,z0,⟨#[]⟩,0,[]⟩ (.slice none 0 0))).cells.size]!)) (parts.map fun(i,x)=>(i,ev x)).toList=some (sJ l):=by
  rw[e1,hsz]
  have h:=Go.Great.fill_whole (s:=37) aA (l.map fun p=>Value.agg (opA p.1 p.2)) ((Array.range (l.length*37)).map ((Value.agg (opA ⟨0,⟨#[]⟩,z0,⟨#[]⟩,0,[]⟩ (.slice none 0 0))).cells[· % (Value.agg (opA ⟨0,⟨#[]⟩,z0,⟨#[]⟩,0,[]⟩ (.slice none 0 0))).cells.size]!)) (fun v hv=>by
   obtain⟨p,hp,rfl⟩:=List.mem_map.1 hv;show(opA p.1 p.2).size=37
   unfold opA;rw[List.size_toArray];exact OpR.len (h32 p hp)) eZ
  have e:((l.map fun p=>Value.agg (opA p.1 p.2)).flatMap fun v=>v.cells.toList).toArray=sJ l:=by
   unfold sJ;rw[List.flatMap_map]
   rfl
  rw[e]at h;exact h
 unfold execOp;simp only[ho,Sem.run_bind,run_buildSlice W 48 53 l.length _ (sJ l) ie _ Tryz.underlying48 hie hzz (by rw[hsz];omega) (by rw[hsz];omega) hf,Result.andThen_ok,Sem.run_pure]
def ksF(f:Nat):List Int:=[(f:Int) %2,(f:Int)/2%2,(f:Int)/4%4,(f:Int)/16%4,(f:Int)/64]
def qM(D:List UInt8):List OpV:=[((⟨1,⟨#[97]⟩,D,⟨#[]⟩,0,[]⟩:OpR),(.slice none 0 0:Value)),((⟨3,⟨#[97]⟩,z0,⟨#[]⟩,0,[]⟩:OpR),(.slice none 0 0:Value)),((⟨1,⟨#[98]⟩,D,⟨#[]⟩,0,[]⟩:OpR),(.slice none 0 0:Value))]
theorem DG{D:List UInt8}(h:D.length=32):∀p∈qM D,p.1.dig.length=32:=by
 intro p hp;unfold qM at hp;simp only[List.mem_cons,List.not_mem_nil,or_false]at hp;rcases hp with rfl|rfl|rfl
 all_goals first|exact h|rfl
theorem AW(D:List UInt8):∀p∈qM D,p.2.oneCell'=true:=by
 intro p hp;unfold qM at hp;simp only[List.mem_cons,List.not_mem_nil,or_false]at hp;rcases hp with rfl|rfl|rfl
 all_goals rfl
theorem pQ{w1 w2 w3:World}{b:Nat}{D:List UInt8}(h:Below w2.heap.size w2 w3)(hx:w1.heap[b]?=some (.cells (D.map lG).toArray 33 (0,0)))(hb:Below w1.heap.size w1 w2):w3.rangeAt b 0 (D.map lG):=by
 have h2:=(hb.block _ (lH hx)).trans hx;exact oF ((h.block _ (lH h2)).trans h2)
def Bx(D1 D2:List UInt8)(cl:OpV)(n f kb:Nat):List OpV:=[((⟨1,⟨#[97]⟩,D1,⟨#[]⟩,0,[]⟩:OpR),(.slice none 0 0:Value)),((⟨6,⟨#[]⟩,z0,⟨#[]⟩,(n:Int),(ksF f).drop 0⟩:OpR),(.slice (some ⟨kb,0,none⟩) 5 5:Value)),cl,((⟨4,⟨#[]⟩,z0,⟨#[]⟩,0,[]⟩:OpR),(.slice none 0 0:Value)),((⟨8,⟨#[]⟩,z0,⟨#[]⟩,0,[]⟩:OpR),(.slice none 0 0:Value)),((⟨4,⟨#[]⟩,z0,⟨#[]⟩,0,[]⟩:OpR),(.slice none 0 0:Value)),((⟨1,⟨#[99]⟩,D2,⟨#[]⟩,0,[]⟩:OpR),(.slice none 0 0:Value)),((⟨7,⟨#[]⟩,z0,⟨#[]⟩,0,(ksF f).drop 1⟩:OpR),(.slice (some ⟨kb,1,none⟩) 4 4:Value)),((⟨8,⟨#[]⟩,z0,⟨#[]⟩,0,[]⟩:OpR),(.slice none 0 0:Value)),((⟨4,⟨#[]⟩,z0,⟨#[]⟩,0,[]⟩:OpR),(.slice none 0 0:Value)),((⟨5,⟨#[]⟩,z0,⟨#[]⟩,0,[]⟩:OpR),(.slice none 0 0:Value)),((⟨4,⟨#[]⟩,z0,⟨#[]⟩,0,[]⟩:OpR),(.slice none 0 0:Value))]
theorem Ar{f:Nat}(h:f≤256):∀k∈ksF f,-9223372036854775808≤k∧k≤9223372036854775807:=by
 intro k hk;unfold ksF at hk;simp only[List.mem_cons,List.not_mem_nil,or_false]at hk;omega
theorem Mr{D1 D2:List UInt8}{cl:OpV}(h1:D1.length=32)(h2:D2.length=32)(hc:cl∈qM D2)(n f kb:Nat):∀p∈Bx D1 D2 cl n f kb,p.1.dig.length=32:=by
 intro p hp;unfold Bx at hp;simp only[List.mem_cons,List.not_mem_nil,or_false]at hp;rcases hp with rfl|rfl|rfl|rfl|rfl|rfl|rfl|rfl|rfl|rfl|rfl|rfl
 all_goals first|exact h1|exact h2|exact DG h2 _ hc|rfl
theorem Mt{D1 D2:List UInt8}{cl:OpV}(hc:cl∈qM D2)(n f kb:Nat):∀p∈Bx D1 D2 cl n f kb,p.2.oneCell'=true:=by
 intro p hp;unfold Bx at hp;simp only[List.mem_cons,List.not_mem_nil,or_false]at hp;rcases hp with rfl|rfl|rfl|rfl|rfl|rfl|rfl|rfl|rfl|rfl|rfl|rfl
 all_goals first|exact AW D2 _ hc|rfl
theorem JU{D:List UInt8}{cl:OpV}(hc:cl∈qM D)(W:World):IntsIn W cl.2 cl.1.keep:=by
 unfold qM at hc;simp only[List.mem_cons,List.not_mem_nil,or_false]at hc;rcases hc with rfl|rfl|rfl
 all_goals exact qD W
theorem Cs{D:List UInt8}(h:D.length=32){cl:OpV}(hc:cl∈qM D):cl.1.Fits:=by
 unfold qM at hc;simp only[List.mem_cons,List.not_mem_nil,or_false]at hc;rcases hc with rfl|rfl|rfl
 all_goals exact Co (by first|exact h|rfl) (sM rfl) (sM rfl) aA aA aA
theorem JV{D1 D2:List UInt8}{cl:OpV}(hc:cl∈qM D2)(n:Nat){f kb:Nat}{W:World}(hk:W.heap[kb]?=some (.cells ((ksF f).map (Value.int .i64)).toArray 3 (0,0)))(hf:f≤256:=by omega):∀p∈Bx D1 D2 cl n f kb,IntsIn W p.2 p.1.keep:=by
 intro p hp;unfold Bx at hp;simp only[List.mem_cons,List.not_mem_nil,or_false]at hp;rcases hp with rfl|rfl|rfl|rfl|rfl|rfl|rfl|rfl|rfl|rfl|rfl|rfl
 all_goals first
  |exact qD W
  |exact JU hc W
  |exact sK 0 hk (Ar hf) 5 iT aA
  |exact sK 1 hk (Ar hf) 4 (by show 5-1≤4;decide) aA
theorem Lg{D1 D2:List UInt8}{cl:OpV}(h1:D1.length=32)(h2:D2.length=32)(hc:cl∈qM D2){n f:Nat}(hn:n≤10)(hf:f≤256)(kb:Nat):∀o∈(Bx D1 D2 cl n f kb).map (·.1),o.Fits:=by
 intro o ho;obtain⟨p,hp,rfl⟩:=List.mem_map.1 ho;unfold Bx at hp;simp only[List.mem_cons,List.not_mem_nil,or_false]at hp;rcases hp with rfl|rfl|rfl|rfl|rfl|rfl|rfl|rfl|rfl|rfl|rfl|rfl
 all_goals first
  |exact Cs h2 hc
  |exact Co (by first|exact h1|exact h2|rfl) (sM rfl) fQ aA aA (by first|decide|(show 5≤1000;decide)|(show 4≤1000;decide))
def AX(D1 D2:List UInt8)(cl:OpV)(n f kb:Nat):List Mf:=[((⟨⟨#[97]⟩,D1,false,0,[]⟩:ActR),(.slice none 0 0:Value)),((⟨cl.1.name,D2,cl.1.kind==3,(n:Int),(ksF f).drop 0⟩:ActR),(.slice (some ⟨kb,0,none⟩) 5 5:Value)),((⟨⟨#[97]⟩,D2,false,0,[]⟩:ActR),(.slice none 0 0:Value))]
theorem Mu{D1 D2:List UInt8}(h1:D1.length=32)(h2:D2.length=32)(cl:OpV)(n f kb:Nat):∀p∈AX D1 D2 cl n f kb,p.1.dig.length=32:=by
 intro p hp;unfold AX at hp;simp only[List.mem_cons,List.not_mem_nil,or_false]at hp;rcases hp with rfl|rfl|rfl
 all_goals first|exact h1|exact h2
theorem Mv{D1 D2:List UInt8}(cl:OpV)(n f kb:Nat):∀p∈AX D1 D2 cl n f kb,p.2.oneCell'=true:=by
 intro p hp;unfold AX at hp;simp only[List.mem_cons,List.not_mem_nil,or_false]at hp;rcases hp with rfl|rfl|rfl
 all_goals rfl
theorem JW{D1 D2:List UInt8}(cl:OpV)(n:Nat){f kb:Nat}{W:World}(hk:W.heap[kb]?=some (.cells ((ksF f).map (Value.int .i64)).toArray 3 (0,0)))(hf:f≤256):∀p∈AX D1 D2 cl n f kb,IntsIn W p.2 p.1.keep:=by
 intro p hp;unfold AX at hp;simp only[List.mem_cons,List.not_mem_nil,or_false]at hp;rcases hp with rfl|rfl|rfl
 all_goals first
  |exact qD W
  |exact sK 0 hk (Ar hf) 5 iT aA
theorem Lh{D1 D2:List UInt8}{cl:OpV}(h1:D1.length=32)(h2:D2.length=32)(hc:cl.1.Fits){n f:Nat}(hn:n≤10)(kb:Nat):∀o∈(AX D1 D2 cl n f kb).map (·.1),o.Fits:=by
 intro o ho;obtain⟨p,hp,rfl⟩:=List.mem_map.1 ho;unfold AX at hp;simp only[List.mem_cons,List.not_mem_nil,or_false]at hp;rcases hp with rfl|rfl|rfl
 ·exact⟨h1,sM rfl,(by show 1≤140737488351232;decide),(by show 0*8≤140737488351232;decide)⟩
 ·exact⟨h2,by unfold Ef;show _≤(n:Int)∧(n:Int)≤_;omega,hc.2.2.2.1,by show 5*8≤_;decide⟩
 ·exact⟨h2,sM rfl,(by show 1≤140737488351232;decide),(by show 0*8≤140737488351232;decide)⟩
def CJ(D1 D2:List UInt8)(n f kb:Nat)(z:Int):List OpV:=[((⟨1,⟨#[97]⟩,D1,⟨#[]⟩,0,[]⟩:OpR),(.slice none 0 0:Value)),((⟨9,⟨#[116,109,112,47,114,101,102]⟩,z0,⟨#[111,108,100]⟩,0,[]⟩:OpR),(.slice none 0 0:Value)),((⟨9,⟨#[114,101,102,115,47,113]⟩,z0,⟨#[120]⟩,0,[]⟩:OpR),(.slice none 0 0:Value)),((⟨10,⟨#[116,109,112,47,114,101,102]⟩,z0,⟨#[]⟩,0,[]⟩:OpR),(.slice none 0 0:Value)),((⟨11,⟨#[]⟩,z0,⟨#[]⟩,0,[]⟩:OpR),(.slice none 0 0:Value)),((⟨6,⟨#[]⟩,z0,⟨#[]⟩,(n:Int),(ksF f).drop 0⟩:OpR),(.slice (some ⟨kb,0,none⟩) 5 5:Value)),((⟨z,⟨#[97]⟩,D2,⟨#[]⟩,0,[]⟩:OpR),(.slice none 0 0:Value)),((⟨8,⟨#[]⟩,z0,⟨#[]⟩,0,[]⟩:OpR),(.slice none 0 0:Value)),((⟨4,⟨#[]⟩,z0,⟨#[]⟩,0,[]⟩:OpR),(.slice none 0 0:Value)),((⟨1,⟨#[100]⟩,D1,⟨#[]⟩,0,[]⟩:OpR),(.slice none 0 0:Value)),((⟨5,⟨#[]⟩,z0,⟨#[]⟩,0,[]⟩:OpR),(.slice none 0 0:Value)),((⟨4,⟨#[]⟩,z0,⟨#[]⟩,0,[]⟩:OpR),(.slice none 0 0:Value))]
theorem Mw{D1 D2:List UInt8}(h1:D1.length=32)(h2:D2.length=32)(n f kb:Nat)(z:Int):∀p∈CJ D1 D2 n f kb z,p.1.dig.length=32:=by
 intro p hp;unfold CJ at hp;simp only[List.mem_cons,List.not_mem_nil,or_false]at hp;rcases hp with rfl|rfl|rfl|rfl|rfl|rfl|rfl|rfl|rfl|rfl|rfl|rfl
 all_goals first|exact h1|exact h2|rfl
def MW(W9:World)(D1 D2:List UInt8)(n f kb:Nat)(z:Int)(γ:Nat×Nat)(j:Nat)(W:World):Prop:=
 Below W9.heap.size W9 W∧(1≤j→W.heap[γ.1]?=some (.cells #[.int .i64 5,.int .i64 1] 3 (0,0)))∧(2≤j→W.heap[γ.2]?=some (.cells (sJ (CJ D1 D2 n f kb z)) 53 (0,0)))
theorem JX{D1 D2:List UInt8}(n:Nat){f kb:Nat}(z:Int){W:World}(hk:W.heap[kb]?=some (.cells ((ksF f).map (Value.int .i64)).toArray 3 (0,0)))(hf:f≤256):∀p∈CJ D1 D2 n f kb z,IntsIn W p.2 p.1.keep:=by
 intro p hp;unfold CJ at hp;simp only[List.mem_cons,List.not_mem_nil,or_false]at hp;rcases hp with rfl|rfl|rfl|rfl|rfl|rfl|rfl|rfl|rfl|rfl|rfl|rfl
 all_goals first
  |exact qD W
  |exact sK 0 hk (Ar hf) 5 iT aA
theorem Li{D1 D2:List UInt8}(h1:D1.length=32)(h2:D2.length=32){n f:Nat}(hn:n≤10)(hf:f≤256)(kb:Nat){z:Int}(hz:z=5∨z=1):∀o∈(CJ D1 D2 n f kb z).map (·.1),o.Fits:=by
 intro o ho;obtain⟨p,hp,rfl⟩:=List.mem_map.1 ho;unfold CJ at hp;simp only[List.mem_cons,List.not_mem_nil,or_false]at hp;rcases hp with rfl|rfl|rfl|rfl|rfl|rfl|rfl|rfl|rfl|rfl|rfl|rfl
 all_goals exact Co (by first|exact h1|exact h2|rfl) fQ fQ aA aA (by first|decide|(show 5≤1000;decide))
theorem Lj{W:World}{b:Nat}{o p:Obj}(h:W.heap[b]?=some o):(W.alloc p).heap[b]?=some o:=(((Below.refl W.heap.size W).alloc (Nat.le_refl _) p).block b (lH h)).trans h
section
variable {ds:List (List Nat)} {W9 W:World} {D1 D2:List UInt8} {n f kb:Nat} {z:Int} {γ:Nat×Nat} {L:Nat→Bool}
theorem H9(h:Chn ds [9,23] (MW W9 D1 D2 n f kb z γ) L W):Below W9.heap.size W9 W:=by
 obtain⟨j,hj,-⟩:=h.st;exact hj.1
theorem M5{k:Nat}(h:Chn ds [9,23] (MW W9 D1 D2 n f kb z γ) L W)(h9:L 9=true)(hk:∀i,k≤i→i< [9,23].length→L ([9,23].getD i 0)=false):1≤k:=by
 rcases Nat.eq_zero_or_pos k with rfl|hp
 ·have:=hk 0 (Nat.le_refl _) aA;rw[show [9,23].getD 0 0=9 from rfl,h9]at this;cases this
 ·exact hp
end
theorem Ia(w:World)(hG:CstW w):Calls Tryz.prog 28 #[] w fun e w'=>e=.returned (.bool true)∧Below w.heap.size w w':=by
 have HG:=hZ hG;have hsu:=AV 32 ⟨#[120]⟩ w hG aA
 have hsv:=fun W (h:CstW W)=>AV 32 ⟨#[121]⟩ W h aA
 obtain⟨D1,hD1⟩:∃D,Hz 32 ⟨#[120]⟩=D:=⟨_,rfl⟩
 obtain⟨D2,hD2⟩:∃D,Hz 32 ⟨#[121]⟩=D:=⟨_,rfl⟩
 have hl1:D1.length=32:=by rw[←hD1];exact Cq _ _
 have hl2:D2.length=32:=by rw[←hD2];exact Cq _ _
 rw[hD1]at hsu;rw[hD2]at hsv;have HSV:=hZ hsv
 have HL1:=hZ hl1;have HL2:=hZ hl2
 have hI1:=lX hl1;have hI2:=lX hl2
 have ho1:=nW D1;have ho2:=nW D2
 have hz1:=nE hl1;have hz2:=nE hl2
 have hJ1:=oM hl1;have hJ2:=oM hl2
 have hU:=nD;clear hG hD1 hD2 hl1 hl2 hsv;go_enter Tryz.func28,Tryz.ntmps28;go_wp2_with fail;refine hsu.mono ?_;rintro e w1 ⟨rfl,hb1⟩;have HB1:=hZ hb1
 have hsv:=HSV.out w1 (HG.out.below hb1);clear hb1 hsu;go_wp2_with fail;refine hsv.mono ?_;rintro e w2 ⟨rfl,hb2⟩;have hb2':=HB1.out.trans (hb2.mono HB1.out.size)
 obtain⟨b1,hb1e⟩:∃b,w2.heap.size=b:=⟨_,rfl⟩
 obtain⟨W1,hW1⟩:∃W,w2.alloc (.cells z32 33)=W:=⟨_,rfl⟩
 obtain⟨b2,hb2e⟩:∃b,W1.heap.size=b:=⟨_,rfl⟩
 obtain⟨W2,hW2⟩:∃W,W1.alloc (.cells z32 33)=W:=⟨_,rfl⟩
 obtain⟨Wa,hWa⟩:∃W,setBlk W2 b1 (.cells (D1.map lG).toArray 33 (0,0))=W:=⟨_,rfl⟩
 obtain⟨W3,hW3⟩:∃W,setBlk Wa b2 (.cells (D2.map lG).toArray 33 (0,0))=W:=⟨_,rfl⟩
 have hbW1:Below w2.heap.size w2 W1:=aQ;have hbW2:Below W1.heap.size W1 W2:=bE
 have hx1:W1.heap[b1]?=some (.cells z32 33 (0,0)):=by rw[←hW1,←hb1e];exact lP _ _
 have hx1':W2.heap[b1]?=some (.cells z32 33 (0,0)):=(hbW2.block _ (lH hx1)).trans hx1;have hx2:W2.heap[b2]?=some (.cells z32 33 (0,0)):=by rw[←hW2,←hb2e];exact lP _ _
 have hne:b1≠b2:=by have:=lH hx1;omega
 have hya:Wa.heap[b1]?=some (.cells (D1.map lG).toArray 33 (0,0)):=by rw[←hWa];exact lM (lH hx1')
 have hxa:Wa.heap[b2]?=some (.cells z32 33 (0,0)):=by rw[←hWa,mS (fun e=>hne e.symm)];exact hx2
 have hy1:W3.heap[b1]?=some (.cells (D1.map lG).toArray 33 (0,0)):=by rw[←hW3,mS hne];exact hya
 have hy2:W3.heap[b2]?=some (.cells (D2.map lG).toArray 33 (0,0)):=by rw[←hW3];exact lM (lH hxa)
 have hbb:Below w2.heap.size w2 W3:=by
  have h:=hbW1.trans (hbW2.mono hbW1.size);rw[←hW3,←hWa];refine(h.setBlk (by rw[hb1e];exact Nat.le_refl _)).setBlk ?_;rw[←hb2e];exact hbW1.size
 have HB3:=hZ (hb2'.trans (hbb.mono hb2'.size));have HX1:=hZ hx1'
 have HX2:=hZ hxa;have HY1:=hZ hy1
 have HY2:=hZ hy2;have HWA:=hZ hWa
 have HW3:=hZ hW3;have HA1:Hid (w2.alloc (.cells #[.int .u8 0,.int .u8 0,.int .u8 0,.int .u8 0,.int .u8 0,.int .u8 0,.int .u8 0,.int .u8 0,.int .u8 0,.int .u8 0,.int .u8 0,.int .u8 0,.int .u8 0,.int .u8 0,.int .u8 0,.int .u8 0,.int .u8 0,.int .u8 0,.int .u8 0,.int .u8 0,.int .u8 0,.int .u8 0,.int .u8 0,.int .u8 0,.int .u8 0,.int .u8 0,.int .u8 0,.int .u8 0,.int .u8 0,.int .u8 0,.int .u8 0,.int .u8 0] 33)=W1):=hZ hW1
 have HA2:Hid (W1.alloc (.cells #[.int .u8 0,.int .u8 0,.int .u8 0,.int .u8 0,.int .u8 0,.int .u8 0,.int .u8 0,.int .u8 0,.int .u8 0,.int .u8 0,.int .u8 0,.int .u8 0,.int .u8 0,.int .u8 0,.int .u8 0,.int .u8 0,.int .u8 0,.int .u8 0,.int .u8 0,.int .u8 0,.int .u8 0,.int .u8 0,.int .u8 0,.int .u8 0,.int .u8 0,.int .u8 0,.int .u8 0,.int .u8 0,.int .u8 0,.int .u8 0,.int .u8 0,.int .u8 0] 33)=W2):=hZ hW2;clear hb2 hb2' hbW1 hbW2 hx1 hx1' hx2 hne hya hxa hy1 hy2 hbb hW1 hW2 hWa hW3 HSV HB1 hsv;go_wp2_with (first|rw[HA1.out]|rw[HA2.out]|(refine wpList_store_row rfl _ _ _ rfl b1 (D1.map lG).toArray rfl rfl 33 z32 HX1.out hI1 hz1 ho1 ?_;rw[lZ HX1.out,HWA.out])|(refine wpList_store_row rfl _ _ _ rfl b2 (D2.map lG).toArray rfl rfl 33 z32 HX2.out hI2 hz2 ho2 ?_;rw[lZ HX2.out,HW3.out]));clear HA1 HA2 HX1 HX2 HWA HW3 hb1e hb2e hz1 hz2 ho1 ho2;go_loopw [3] (fun nv wr=>∃n:Nat,(1:Int)≤n∧(n:Int)≤10∧nv=.int .i64 n∧Hid (Below W3.heap.size W3 wr)) (fun nv _=>10-(intOf nv).toNat)
 case atStart=>exact⟨1,aA,aA,rfl,hZ (Below.refl _ _)⟩
 case round=>
  obtain⟨n,hn1,hn2,rfl,HBN⟩:=hrel;by_cases hlt:(n:Int)≤9
  ·go_wp2_with fail
   obtain⟨wi,hwi⟩:∃V,V=wr:=⟨_,rfl⟩
   go_loopw [4] (fun fv wr2=>∃f:Nat,(f:Int)≤256∧fv=.int .i64 f∧Hid (Below wi.heap.size wi wr2)) (fun fv _=>256-(intOf fv).toNat)
   case atStart=>exact⟨0,aA,rfl,hZ (by rw[hwi];exact Below.refl _ _)⟩
   case round=>
    rw[←hwi]at HBN;clear hwi;obtain⟨f,hf,rfl,HBF⟩:=hrel;by_cases hltf:(f:Int)<256
    ·have hbr:=HBN.out.trans (HBF.out.mono HBN.out.size);have hr1:=oF ((hbr.block _ (lH HY1.out)).trans HY1.out)
     have hr2:=oF ((hbr.block _ (lH HY2.out)).trans HY2.out)
     obtain⟨r,hr⟩:∃r:Nat,(f:Int) %3=r:=⟨f%3,aC⟩
     have hr3:(r:Int)<3:=aC;have hr0:(0:Int)≤(r:Int):=aC
     obtain⟨cl,hcl⟩:∃c,(qM D2)[r]?=some c:=⟨_,List.getElem?_eq_getElem (show r<3 by omega)⟩
     have hclm:=List.mem_of_getElem? hcl
     obtain⟨WK,hWK⟩:∃V,wr.alloc (.cells ((ksF f).map (Value.int .i64)).toArray 3)=V:=⟨_,rfl⟩
     obtain⟨W4,hW4⟩:∃V,WK.alloc (.cells (sJ (qM D2)) 53)=V:=⟨_,rfl⟩
     obtain⟨W5,hW5⟩:∃V,W4.alloc (.cells (opA cl.1 cl.2) 53)=V:=⟨_,rfl⟩
     have hbk:Below wr.heap.size wr WK:=by rw[←hWK];exact(Below.refl _ _).alloc (Nat.le_refl _) _
     have hb4:Below WK.heap.size WK W4:=bB;have hb5:Below W4.heap.size W4 W5:=aM
     have hxk:WK.heap[wr.heap.size]?=some (.cells ((ksF f).map (Value.int .i64)).toArray 3 (0,0)):=by rw[←hWK];exact lP _ _
     have hx4:W4.heap[WK.heap.size]?=some (.cells (sJ (qM D2)) 53 (0,0)):=jE;have hx5:W5.heap[W4.heap.size]?=some (.cells (opA cl.1 cl.2) 53 (0,0)):=cJ
     have h3W:=DG HL2.out;have hcl32:=h3W cl hclm
     have hclk:=AW D2 cl hclm
     have hclr:W4.rangeAt WK.heap.size (r*37) (cl.1.cells cl.2):=fun j u hj=>by
      have hj37:j<37:=by have:=(List.getElem?_eq_some_iff.1 hj).1;rw[OpR.len hcl32]at this;exact this
      rw[lF hx4];unfold sJ;rw[List.getElem?_toArray,Al (f:=fun p:OpV=>p.1.cells p.2) (qM D2) (fun x hx=>OpR.len (kv:=x.2) (h3W x hx)) r j cl hcl hj37];exact hj
     have hb45:=hb4.trans (hb5.mono hb4.size);have hbk5:=hbk.trans (hb45.mono hbk.size)
     have hK2:=pQ hbk HY2.out (HBN.out.trans (HBF.out.mono HBN.out.size));have HRK2:=hZ hK2
     have HRC:=hZ hclr;have HXK:=hZ ((hb45.block _ (lH hxk)).trans hxk)
     have HX5:=hZ hx5;have hoi:=Ak (kv:=cl.2) hcl32
     have hoi2:=KR (kv:=cl.2) hcl32;have hou:Tryz.prog.underlying 53=some _:=Tryz.underlying53
     have ho1:(opA cl.1 cl.2).all (·.oneCell')=true:=OpR.one hclk;have HOZ:Hid ((37:Nat)=(opA cl.1 cl.2).size):=hZ (by unfold opA;rw[List.size_toArray,OpR.len hcl32])
     have HCL:=hZ hclm;have HW4:=hZ hW4
     have HW5:=hZ hW5;have HB5:=hZ hbk5
     have HWK:Hid (wr.alloc (.cells #[.int .i64 ((f:Int) %2),.int .i64 ((f:Int)/2%2),.int .i64 ((f:Int)/4%4),.int .i64 ((f:Int)/16%4),.int .i64 ((f:Int)/64)] 3)=WK):=hZ hWK;have hkk:∀p∈qM D2,p.2.oneCell'=true:=AW D2
     have HR1:=hZ hr1;have HR2:=hZ hr2
     have HBR:=hZ hbr;clear hbr hr1 hr2 hWK hW4 hW5 hbk hb4 hb5 hxk hx4 hx5 hclm hclr hb45 hbk5 hK2 hcl;go_wp2_with (first|rw[HWK.out]|(refine wpList_load_mid rfl _ _ rfl b2 0 rfl (D2.map lG) _ HRK2.out hU rfl hJ2 ?_;simp only[Act.put,List.setIfInBounds_toArray,List.set_cons_succ,List.set_cons_zero];refine vJ rfl _ _ _ rfl 1 ⟨#[97]⟩ D2 rfl rfl rfl HL2.out ?_;refine mL rfl _ _ rfl 3 ⟨#[97]⟩ rfl rfl ?_;refine wpList_load_mid rfl _ _ rfl b2 0 rfl (D2.map lG) _ HRK2.out hU rfl hJ2 ?_;simp only[Act.put,List.setIfInBounds_toArray,List.set_cons_succ,List.set_cons_zero];refine vJ rfl _ _ _ rfl 1 ⟨#[98]⟩ D2 rfl rfl rfl HL2.out ?_;simp only[Act.put,List.setIfInBounds_toArray,List.set_cons_succ,List.set_cons_zero];refine sL rfl (qM D2) h3W hkk _ 3 rfl rfl (fun i=>[34,35,37].getD i 0) aA aA rfl (fun i h=>match i,h with|0,_=>rfl|1,_=>rfl|2,_=>rfl|i+3,h=>absurd h (Nat.not_lt.2 (Nat.le_add_left _ _))) ?_;rw[HW4.out];simp only[Act.put,List.setIfInBounds_toArray,List.set_cons_succ,List.set_cons_zero])|refine wpList_load_mid rfl _ _ rfl WK.heap.size (r*37) rfl (cl.1.cells cl.2) _ HRC.out hou rfl hoi ?_|(refine lO rfl _ _ _ rfl _ (opA cl.1 cl.2) _ rfl rfl rfl hoi2 HOZ.out ho1 ?_;rw[HW5.out]));clear HRK2 HRC hoi hoi2 ho1 HOZ HW4 HW5 HWK hkk h3W hr hr3 hr0;have hkb:wr.heap.size<W5.heap.size:=lH HXK.out
     obtain⟨kb,hkb2⟩:∃b,wr.heap.size=b:=⟨_,rfl⟩
     obtain⟨cb,hcb2⟩:∃b,W4.heap.size=b:=⟨_,rfl⟩
     have hXK:W5.heap[kb]?=some (.cells ((ksF f).map (Value.int .i64)).toArray 3 (0,0)):=by rw[←hkb2];exact HXK.out
     have hX5:W5.heap[cb]?=some (.cells (opA cl.1 cl.2) 53 (0,0)):=by rw[←hcb2];exact HX5.out
     have hB5:Below wi.heap.size wi W5:=HBF.out.trans (HB5.out.mono HBF.out.size);have HXK2:=hZ hXK
     have HX52:=hZ hX5;have HB52:=hZ hB5
     obtain⟨W6,hW6⟩:∃V,(W5.drewN 1).alloc (.cells (sJ (Bx D1 D2 cl n f kb)) 53)=V:=⟨_,rfl⟩
     have hd1:Below W5.heap.size W5 (W5.drewN 1):=⟨rfl,rfl,rfl,Nat.le_refl _,fun _ _=>rfl⟩
     have hb6:Below W5.heap.size W5 W6:=by rw[←hW6];exact hd1.alloc hd1.size _
     have hx6:W6.heap[W5.heap.size]?=some (.cells (sJ (Bx D1 D2 cl n f kb)) 53 (0,0)):=by rw[←hW6];exact lP _ _
     have hD1:=pQ hd1 HY1.out (HBN.out.trans (hB5.mono HBN.out.size));have hD2:=pQ hd1 HY2.out (HBN.out.trans (hB5.mono HBN.out.size))
     have hcr:(W5.drewN 1).rangeAt cb 0 (cl.1.cells cl.2):=fun j u hj=>by
      rw[Nat.zero_add,lF (show(W5.drewN 1).heap[cb]?=_ from hX5)];unfold opA;rw[List.getElem?_toArray];exact hj
     have HD1:=hZ hD1;have HD2:=hZ hD2
     have HCR:=hZ hcr;have hoi:=Ak (kv:=cl.2) hcl32
     have h32:=Mr HL1.out HL2.out HCL.out n f kb;have hkk:=Mt (D1:=D1) HCL.out n f kb
     have hki:=JV (D1:=D1) HCL.out n ((hb6.block _ (lH hXK)).trans hXK);have hfit:=Lg HL1.out HL2.out HCL.out (show n≤10 by omega) (show f≤256 by omega) kb
     have hbw6:=HBN.out.trans ((hB5.trans (hb6.mono hB5.size)).mono HBN.out.size)
     have hpl:Calls Tryz.prog 5 #[.int .i64 1000,.slice (some ⟨W5.heap.size,0,none⟩) 12 12] W6 fun e w'=>e=.returned (.bool true)∧Below W6.heap.size W6 w':=
      rP W6 (HG.out.below (HB3.out.trans (hbw6.mono HB3.out.size))).err 1000 aA aA (some ⟨W5.heap.size,0,none⟩) 12 ((Bx D1 D2 cl n f kb).map (·.1)) (Am hx6 h32 hki 12) (show 12≤1360000000000 by decide) hfit
     have HW6:=hZ hW6;have HB6:=hZ hb6
     clear hkb hXK hX5 hB5 hW6 hd1 hb6 hx6 hD1 hD2 hcr hki hfit hbw6 HXK HX5 HB5;rw[hkb2,hcb2];refine lT 18 mC aE ?_;simp only[List.take_succ_cons,List.take_zero,List.drop_succ_cons,List.drop_zero]
     try simp only[Act.put,List.setIfInBounds_toArray,List.set_cons_succ,List.set_cons_zero]
     refine EB rfl _ _ rfl b1 0 rfl (D1.map lG) _ HD1.out hU rfl hJ1 ?_
     try simp only[Act.put,List.setIfInBounds_toArray,List.set_cons_succ,List.set_cons_zero]
     refine DF rfl _ _ _ rfl 1 ⟨#[97]⟩ D1 rfl rfl rfl HL1.out ?_;refine Le rfl _ rfl ?_;refine Le rfl _ rfl ?_
     try simp only[Act.put,List.setIfInBounds_toArray,List.set_cons_succ,List.set_cons_zero]
     refine JT rfl _ _ _ rfl 6 (n:Int) ((ksF f).drop 0) (some ⟨kb,0,none⟩) 5 5 rfl rfl rfl ?_;refine EB rfl _ _ rfl cb 0 rfl (cl.1.cells cl.2) _ HCR.out hou rfl hoi ?_;refine wX rfl _ rfl 4 rfl ?_;refine wX rfl _ rfl 8 rfl ?_;refine wX rfl _ rfl 4 rfl ?_
     try simp only[Act.put,List.setIfInBounds_toArray,List.set_cons_succ,List.set_cons_zero]
     refine EB rfl _ _ rfl b2 0 rfl (D2.map lG) _ HD2.out hU rfl hJ2 ?_
     try simp only[Act.put,List.setIfInBounds_toArray,List.set_cons_succ,List.set_cons_zero]
     refine DF rfl _ _ _ rfl 1 ⟨#[99]⟩ D2 rfl rfl rfl HL2.out ?_;refine Le rfl _ rfl ?_
     try simp only[Act.put,List.setIfInBounds_toArray,List.set_cons_succ,List.set_cons_zero]
     still_step
     try simp only[Act.put,List.setIfInBounds_toArray,List.set_cons_succ,List.set_cons_zero]
     refine Lf rfl _ _ rfl 7 ((ksF f).drop 1) (some ⟨kb,1,none⟩) 4 4 rfl rfl ?_;refine wX rfl _ rfl 8 rfl ?_;refine wX rfl _ rfl 4 rfl ?_;refine wX rfl _ rfl 5 rfl ?_;refine wX rfl _ rfl 4 rfl ?_;refine wpStill_nil ?_
     try simp only[Act.put,List.setIfInBounds_toArray,List.set_cons_succ,List.set_cons_zero]
     refine sL rfl (Bx D1 D2 cl n f kb) h32 hkk _ 12 rfl rfl (fun i=>[44,47,48,49,50,51,53,56,57,58,59,60].getD i 0) aA aA rfl (fun i h=>match i,h with|0,_=>rfl|1,_=>rfl|2,_=>rfl|3,_=>rfl|4,_=>rfl|5,_=>rfl|6,_=>rfl|7,_=>rfl|8,_=>rfl|9,_=>rfl|10,_=>rfl|11,_=>rfl|i+12,h=>absurd h (Nat.not_lt.2 (Nat.le_add_left _ _))) ?_;rw[HW6.out]
     try simp only[Act.put,List.setIfInBounds_toArray,List.set_cons_succ,List.set_cons_zero]
     go_wp2_with fail;refine hpl.mono ?_;rintro e w7 ⟨rfl,hb7⟩;have hb57:=HB6.out.trans (hb7.mono HB6.out.size)
     have hbi7:=HB52.out.trans (hb57.mono HB52.out.size);have hbn7:=HBN.out.trans (hbi7.mono HBN.out.size)
     obtain⟨W8,hW8⟩:∃V,w7.alloc (.cells (Ch (AX D1 D2 cl n f kb)) 59)=V:=⟨_,rfl⟩
     have hb8:Below w7.heap.size w7 W8:=jF;have hx8:W8.heap[w7.heap.size]?=some (.cells (Ch (AX D1 D2 cl n f kb)) 59 (0,0)):=by rw[←hW8];exact lP _ _
     have hbn8:=hbn7.trans (hb8.mono hbn7.size);have hxk7:=(hb57.block _ (lH HXK2.out)).trans HXK2.out
     have hxk8:=(hb8.block _ (lH hxk7)).trans hxk7;have hxc7:=(hb57.block _ (lH HX52.out)).trans HX52.out
     have hE1:=pQ (Below.refl _ w7) HY1.out hbn7;have hE2:=pQ (Below.refl _ w7) HY2.out hbn7
     have d0:w7.cell? ⟨cb,0,none⟩=some (.int .i64 cl.1.kind):=(lF hxc7).trans rfl;have d1:w7.cell? ⟨cb,1,none⟩=some (.string cl.1.name):=(lF hxc7).trans rfl
     have ha32:=Mu HL1.out HL2.out cl n f kb;have hakv:=Mv (D1:=D1) (D2:=D2) cl n f kb
     have hafit:=Lh HL1.out HL2.out (Cs HL2.out HCL.out) (show n≤10 by omega) kb (f:=f);have haki:∀p∈AX D1 D2 cl n f kb,IntsIn W8 p.2 p.1.keep:=JW cl n hxk8 aC
     have hsafe:Calls Tryz.prog 6 #[.slice (some ⟨w7.heap.size,0,none⟩) 3 3,.slice (some ⟨kb,0,none⟩) 5 5] W8 fun e w'=>e=.returned (.bool true)∧Below W8.heap.size W8 w':=
      JC W8 (HG.out.below (HB3.out.trans (hbn8.mono HB3.out.size))).err (some ⟨w7.heap.size,0,none⟩) 3 ((AX D1 D2 cl n f kb).map (·.1)) (K2 hx8 ha32 haki 3) (show 3≤8800000000000 by decide) hafit (some ⟨kb,0,none⟩) 5 ((ksF f).drop 0) (sK 0 hxk8 (Ar aC) 5 iT aA) (by show 5*8≤_;decide)
     have HB58:=hZ (hb57.trans (hb8.mono hb57.size));have HE1:=hZ hE1
     have HE2:=hZ hE2;have HW8:=hZ hW8
     have HBI8:=hZ (hbi7.trans (hb8.mono hbi7.size));have HBI7:=hZ hbi7
     clear hpl hb7 hb57 hbi7 hbn7 hb8 hx8 hbn8 hxk7 hxk8 hxc7 hE1 hE2 hafit haki hW8 h32 hkk hoi hou;go_wp2_with (first|(refine pP rfl ?_;refine wpList_load_mid rfl _ _ rfl b1 0 rfl (D1.map lG) _ HE1.out hU rfl hJ1 ?_)|(refine pP rfl ?_;refine wpList_load_mid rfl _ _ rfl b2 0 rfl (D2.map lG) _ HE2.out hU rfl hJ2 ?_)|(refine pP rfl ?_;refine zD rfl _ _ rfl _ D1 rfl rfl HL1.out ?_)|(refine pP rfl ?_;refine zD rfl _ _ rfl _ D2 rfl rfl HL2.out ?_)|(refine pP rfl ?_;refine Ci rfl _ _ _ _ _ rfl _ D2 _ _ ((ksF f).drop 0) _ _ _ rfl rfl rfl rfl rfl HL2.out ?_)|(refine pP rfl ?_;refine FT rfl (AX D1 D2 cl n f kb) ha32 hakv _ 3 rfl rfl (fun i=>[67,76,78].getD i 0) aA aA rfl (fun i h=>match i,h with|0,_=>rfl|1,_=>rfl|2,_=>rfl|i+3,h=>absurd h (Nat.not_lt.2 (Nat.le_add_left _ _))) ?_;rw[HW8.out];simp only[Act.put,List.setIfInBounds_toArray,List.set_cons_succ,List.set_cons_zero]));refine hsafe.mono ?_;rintro e w9 ⟨rfl,hb9⟩;have HBI9:=hZ (HBI8.out.trans (hb9.mono HBI8.out.size))
     have HB59:=hZ (HB58.out.trans (hb9.mono HB58.out.size));clear hsafe hb9 ha32 hakv d0 d1 hcl32 hclk HE1 HE2 HD1 HD2 HCR;by_cases h5:(f:Int) %8=5
     ·go_wp2_with fail
      obtain⟨r8,hr8⟩:∃r:Nat,(f:Int)/8%2=r:=⟨f/8%2,aC⟩
      have hr82:(r8:Int)<2:=aC;have hr80:(0:Int)≤(r8:Int):=aC
      obtain⟨z,hz⟩:∃z,([5,1]:List Int)[r8]?=some z:=⟨_,List.getElem?_eq_getElem (show r8<2 by omega)⟩
      have hzb:z=5∨z=1:=by
       have:=List.mem_of_getElem? hz;simpa using this
      have HZ:=hZ hz;have HZB:=hZ hzb
      have hbn9:=HBN.out.trans (HBI9.out.mono HBN.out.size);have HBN9:=hZ hbn9
      have hw8:IntKind.i64.wrap ((f:Int)/8)=(f:Int)/8:=xK aC aC;have ht2:((f:Int)/8).tmod 2=r8:=by rw[Int.tmod_eq_emod_of_nonneg aC];exact hr8
      have h32m:=Mw HL1.out HL2.out n f kb z;clear hz hzb hbn9;have hI0:Chn [[],[0],[],[],[],[],[],[],[6,7],[],[],[10],[11],[9,12],[13],[],[14,15],[],[],[],[19],[],[],[1,2,3,4,5,8,16,17,18,20,21,22],[23,0,1,2,3,4,5,6,7,8,9,10,11,12,13,14,15,16,17,18,19,20,21,22,23]] [9,23] (MW w9 D1 D2 n f kb z (0,0)) (fun _=>false) w9.drew:=Chn.start ⟨⟨rfl,rfl,rfl,Nat.le_refl _,fun _ _=>rfl⟩,fun h=>absurd h aA,fun h=>absurd h aA⟩
      refine lQ (fun γ:Nat×Nat=>[.agg (D1.map lG).toArray,.agg (opA ⟨1,⟨#[97]⟩,D1,⟨#[]⟩,0,[]⟩ (.slice none 0 0)),.agg (opA ⟨9,⟨#[116,109,112,47,114,101,102]⟩,z0,⟨#[111,108,100]⟩,0,[]⟩ (.slice none 0 0)),.agg (opA ⟨9,⟨#[114,101,102,115,47,113]⟩,z0,⟨#[120]⟩,0,[]⟩ (.slice none 0 0)),.agg (opA ⟨10,⟨#[116,109,112,47,114,101,102]⟩,z0,⟨#[]⟩,0,[]⟩ (.slice none 0 0)),.agg (opA ⟨11,⟨#[]⟩,z0,⟨#[]⟩,0,[]⟩ (.slice none 0 0)),.int .i64 n,.slice (some ⟨kb,0,none⟩) 5 5,.agg (opA ⟨6,⟨#[]⟩,z0,⟨#[]⟩,(n:Int),((ksF f).drop 0)⟩ (.slice (some ⟨kb,0,none⟩) 5 5)),.slice (some ⟨γ.1,0,none⟩) 2 2,.int .i64 f,.int .i64 ((f:Int)/8),.int .i64 r8,.pointer (some ⟨γ.1,r8,none⟩),.int .i64 z,.agg (D2.map lG).toArray,.agg (opA ⟨z,⟨#[97]⟩,D2,⟨#[]⟩,0,[]⟩ (.slice none 0 0)),.agg (opA ⟨8,⟨#[]⟩,z0,⟨#[]⟩,0,[]⟩ (.slice none 0 0)),.agg (opA ⟨4,⟨#[]⟩,z0,⟨#[]⟩,0,[]⟩ (.slice none 0 0)),.agg (D1.map lG).toArray,.agg (opA ⟨1,⟨#[100]⟩,D1,⟨#[]⟩,0,[]⟩ (.slice none 0 0)),.agg (opA ⟨5,⟨#[]⟩,z0,⟨#[]⟩,0,[]⟩ (.slice none 0 0)),.agg (opA ⟨4,⟨#[]⟩,z0,⟨#[]⟩,0,[]⟩ (.slice none 0 0)),.slice (some ⟨γ.2,0,none⟩) 12 12,.slice (some ⟨γ.2,0,none⟩) 12 12]) (fun L γ W=>Chn [[],[0],[],[],[],[],[],[],[6,7],[],[],[10],[11],[9,12],[13],[],[14,15],[],[],[],[19],[],[],[1,2,3,4,5,8,16,17,18,20,21,22],[23,0,1,2,3,4,5,6,7,8,9,10,11,12,13,14,15,16,17,18,19,20,21,22,23]] [9,23] (MW w9 D1 D2 n f kb z γ) L W)
       [[],[0],[],[],[],[],[],[],[6,7],[],[],[10],[11],[9,12],[13],[],[14,15],[],[],[],[19],[],[],[1,2,3,4,5,8,16,17,18,20,21,22],[23,0,1,2,3,4,5,6,7,8,9,10,11,12,13,14,15,16,17,18,19,20,21,22,23]] 114 (0,0) mC rfl aE (fun _=>rfl) hI0 ?_ ?_
      ·refine⟨?_,?_,?_,?_,?_,?_,?_,?_,?_,?_,?_,?_,?_,?_,?_,?_,?_,?_,?_,?_,?_,?_,?_,?_,?_,rfl⟩
       all_goals intro L γ W ev hL hd hW hc hf hg he h0
       ·have e1:ev (.tmp 1)=.pointer (some ⟨b1,0,none⟩):=h0 1 rfl;clear he h0 hc hg;have hlv:=run_loadVar_mid (P:=Tryz.prog) W b1 0 33 _ _ (pQ (H9 hW) HY1.out HBN9.out) hU rfl hJ1
        refine .inl ⟨rfl,.inl ⟨_,W,?_,.still (hW.upd 0 aA hd) rfl⟩⟩;unfold execOp;simp only[e1,Instr.loadAt,Instr.sureAddr,Sem.run_bind,Sem.run_pure,Result.andThen_ok,hlv]
        try rfl
       ·have e87:ev (.tmp 87)=.agg (D1.map lG).toArray:=he 0 aA _ 87 rfl rfl;have hcc:=hc
        clear he h0 hc hg;exact .inl ⟨rfl,.inl ⟨_,W,zQ _ _ _ rfl 1 _ D1 (hcc _) (hcc _) e87 HL1.out,.still (hW.upd 1 aA hd) rfl⟩⟩
       ·have hcc:=hc;clear he h0 hc hg;exact .inl ⟨rfl,.inl ⟨_,W,Cr _ _ _ rfl 9 _ _ (hcc _) (hcc _) (hcc _),.still (hW.upd 2 aA hd) rfl⟩⟩
       ·have hcc:=hc;clear he h0 hc hg;exact .inl ⟨rfl,.inl ⟨_,W,Cr _ _ _ rfl 9 _ _ (hcc _) (hcc _) (hcc _),.still (hW.upd 3 aA hd) rfl⟩⟩
       ·have hcc:=hc;clear he h0 hc hg;exact .inl ⟨rfl,.inl ⟨_,W,JS _ _ rfl 10 _ (hcc _) (hcc _),.still (hW.upd 4 aA hd) rfl⟩⟩
       ·have hcc:=hc;clear he h0 hc hg;exact .inl ⟨rfl,.inl ⟨_,W,yG _ rfl 11 (hcc _),.still (hW.upd 5 aA hd) rfl⟩⟩
       ·have e3:ev (.tmp 3)=.int .i64 n:=h0 3 rfl;clear he h0 hc hf hg;exact flS rfl aD (hW.upd 6 aA hd) rfl
       ·have e5:ev (.tmp 5)=.slice (some ⟨kb,0,none⟩) 5 5:=h0 5 rfl;clear he h0 hc hf hg;exact eQ
       ·have e93:ev (.tmp 93)=.int .i64 n:=he 6 aA _ 93 rfl rfl;have e94:ev (.tmp 94)=.slice (some ⟨kb,0,none⟩) 5 5:=he 7 aA _ 94 rfl rfl
        have hcc:=hc;clear he h0 hc hg;exact .inl ⟨rfl,.inl ⟨_,W,H6 _ _ _ rfl 6 _ ((ksF f).drop 0) _ _ _ (hcc _) e93 e94,.still (hW.upd 8 aA hd) rfl⟩⟩
       ·have hcc:=hc;clear he h0 hc hg;have hF:=hW.at 0 aA hL (.inl rfl)
        refine .inl ⟨rfl,.inl ⟨_,W.alloc (.cells #[.int .i64 5,.int .i64 1] 3),aD,(W.heap.size,γ.2),hW.done (F':=MW w9 D1 D2 n f kb z (W.heap.size,γ.2)) aA 0 aA hL (.inl rfl) hd ⟨hF.1.alloc hF.1.size _,fun _=>lP _ _,fun h=>absurd h aA⟩,rfl,fun j hj=>?_⟩⟩;have hj2:j≠9∧j≠13:=⟨fun e=>cS,fun e=>(by subst e;have h9:=hW.cl 13 hj 9 aA;rw[hL]at h9;cases h9)⟩
        match j,hj2 with
        |0,_=>rfl
        |1,_=>rfl
        |2,_=>rfl
        |3,_=>rfl
        |4,_=>rfl
        |5,_=>rfl
        |6,_=>rfl
        |7,_=>rfl
        |8,_=>rfl
        |10,_=>rfl
        |11,_=>rfl
        |12,_=>rfl
        |14,_=>rfl
        |15,_=>rfl
        |16,_=>rfl
        |17,_=>rfl
        |18,_=>rfl
        |19,_=>rfl
        |20,_=>rfl
        |21,_=>rfl
        |22,_=>rfl
        |23,_=>rfl
        |24,_=>rfl
        |9,h=>exact absurd rfl h.1
        |13,h=>exact absurd rfl h.2
        |n+25,_=>rfl
       ·have e4:ev (.tmp 4)=.int .i64 f:=h0 4 rfl;clear he h0 hc hf hg;exact gN
       ·have e97:ev (.tmp 97)=.int .i64 f:=he 10 aA _ 97 rfl rfl;have hcc:=hc
        clear he h0 hc hf hg;exact gM
       ·have e98:ev (.tmp 98)=.int .i64 ((f:Int)/8):=he 11 aA _ 98 rfl rfl;have hcc:=hc
        clear he h0 hc hf hg;exact eN
       ·have e96:ev (.tmp 96)=.slice (some ⟨γ.1,0,none⟩) 2 2:=he 9 aA _ 96 rfl rfl;have e99:ev (.tmp 99)=.int .i64 r8:=he 12 aA _ 99 rfl rfl
        clear he h0 hc hf hg;exact flS rfl aD (hW.upd 13 aA hd) rfl
       ·have e100:ev (.tmp 100)=.pointer (some ⟨γ.1,r8,none⟩):=he 13 aA _ 100 rfl rfl;clear he h0 hc hg;obtain⟨k,hk,-,-,hk1⟩:=hW.st;have h9:L 9=true:=hW.cl 13 (hd 13 aA) 9 aA
        have hk0:1≤k:=M5 hW h9 hk1
        have cc:W.cell? ⟨γ.1,r8,none⟩=some (.int .i64 z):=by
         rw[lF (hk.2.1 hk0)];have h9:=HZ.out
         rw[show(#[Value.int .i64 5,Value.int .i64 1]:Array Value)=(([5,1]:List Int).map (Value.int .i64)).toArray from rfl,List.getElem?_toArray,List.getElem?_map,h9]
         rfl
        exact flS rfl aD (hW.upd 14 aA hd) rfl
       ·have e2:ev (.tmp 2)=.pointer (some ⟨b2,0,none⟩):=h0 2 rfl;clear he h0 hc hg;have hlv:=run_loadVar_mid (P:=Tryz.prog) W b2 0 33 _ _ (pQ (H9 hW) HY2.out HBN9.out) hU rfl hJ2
        refine .inl ⟨rfl,.inl ⟨_,W,?_,.still (hW.upd 15 aA hd) rfl⟩⟩;unfold execOp;simp only[e2,Instr.loadAt,Instr.sureAddr,Sem.run_bind,Sem.run_pure,Result.andThen_ok,hlv]
        try rfl
       ·have e101:ev (.tmp 101)=.int .i64 z:=he 14 aA _ 101 rfl rfl;have e102:ev (.tmp 102)=.agg (D2.map lG).toArray:=he 15 aA _ 102 rfl rfl
        have hcc:=hc;clear he h0 hc hg;exact .inl ⟨rfl,.inl ⟨_,W,zQ _ _ _ rfl z _ D2 e101 (hcc _) e102 HL2.out,.still (hW.upd 16 aA hd) rfl⟩⟩
       ·have hcc:=hc;clear he h0 hc hg;exact .inl ⟨rfl,.inl ⟨_,W,yG _ rfl 8 (hcc _),.still (hW.upd 17 aA hd) rfl⟩⟩
       ·have hcc:=hc;clear he h0 hc hg;exact .inl ⟨rfl,.inl ⟨_,W,yG _ rfl 4 (hcc _),.still (hW.upd 18 aA hd) rfl⟩⟩
       ·have e1:ev (.tmp 1)=.pointer (some ⟨b1,0,none⟩):=h0 1 rfl;clear he h0 hc hg;have hlv:=run_loadVar_mid (P:=Tryz.prog) W b1 0 33 _ _ (pQ (H9 hW) HY1.out HBN9.out) hU rfl hJ1
        refine .inl ⟨rfl,.inl ⟨_,W,?_,.still (hW.upd 19 aA hd) rfl⟩⟩;unfold execOp;simp only[e1,Instr.loadAt,Instr.sureAddr,Sem.run_bind,Sem.run_pure,Result.andThen_ok,hlv]
        try rfl
       ·have e106:ev (.tmp 106)=.agg (D1.map lG).toArray:=he 19 aA _ 106 rfl rfl;have hcc:=hc
        clear he h0 hc hg;exact .inl ⟨rfl,.inl ⟨_,W,zQ _ _ _ rfl 1 _ D1 (hcc _) (hcc _) e106 HL1.out,.still (hW.upd 20 aA hd) rfl⟩⟩
       ·have hcc:=hc;clear he h0 hc hg;exact .inl ⟨rfl,.inl ⟨_,W,yG _ rfl 5 (hcc _),.still (hW.upd 21 aA hd) rfl⟩⟩
       ·have hcc:=hc;clear he h0 hc hg;exact .inl ⟨rfl,.inl ⟨_,W,yG _ rfl 4 (hcc _),.still (hW.upd 22 aA hd) rfl⟩⟩
       ·have e88:ev (.tmp 88)=.agg (opA ⟨1,⟨#[97]⟩,D1,⟨#[]⟩,0,[]⟩ (.slice none 0 0)):=he 1 aA _ 88 rfl rfl;have e89:ev (.tmp 89)=.agg (opA ⟨9,⟨#[116,109,112,47,114,101,102]⟩,z0,⟨#[111,108,100]⟩,0,[]⟩ (.slice none 0 0)):=he 2 aA _ 89 rfl rfl
        have e90:ev (.tmp 90)=.agg (opA ⟨9,⟨#[114,101,102,115,47,113]⟩,z0,⟨#[120]⟩,0,[]⟩ (.slice none 0 0)):=he 3 aA _ 90 rfl rfl;have e91:ev (.tmp 91)=.agg (opA ⟨10,⟨#[116,109,112,47,114,101,102]⟩,z0,⟨#[]⟩,0,[]⟩ (.slice none 0 0)):=he 4 aA _ 91 rfl rfl
        have e92:ev (.tmp 92)=.agg (opA ⟨11,⟨#[]⟩,z0,⟨#[]⟩,0,[]⟩ (.slice none 0 0)):=he 5 aA _ 92 rfl rfl;have e95:ev (.tmp 95)=.agg (opA ⟨6,⟨#[]⟩,z0,⟨#[]⟩,(n:Int),((ksF f).drop 0)⟩ (.slice (some ⟨kb,0,none⟩) 5 5)):=he 8 aA _ 95 rfl rfl
        have e103:ev (.tmp 103)=.agg (opA ⟨z,⟨#[97]⟩,D2,⟨#[]⟩,0,[]⟩ (.slice none 0 0)):=he 16 aA _ 103 rfl rfl;have e104:ev (.tmp 104)=.agg (opA ⟨8,⟨#[]⟩,z0,⟨#[]⟩,0,[]⟩ (.slice none 0 0)):=he 17 aA _ 104 rfl rfl
        have e105:ev (.tmp 105)=.agg (opA ⟨4,⟨#[]⟩,z0,⟨#[]⟩,0,[]⟩ (.slice none 0 0)):=he 18 aA _ 105 rfl rfl;have e107:ev (.tmp 107)=.agg (opA ⟨1,⟨#[100]⟩,D1,⟨#[]⟩,0,[]⟩ (.slice none 0 0)):=he 20 aA _ 107 rfl rfl
        have e108:ev (.tmp 108)=.agg (opA ⟨5,⟨#[]⟩,z0,⟨#[]⟩,0,[]⟩ (.slice none 0 0)):=he 21 aA _ 108 rfl rfl;have e109:ev (.tmp 109)=.agg (opA ⟨4,⟨#[]⟩,z0,⟨#[]⟩,0,[]⟩ (.slice none 0 0)):=he 22 aA _ 109 rfl rfl
        clear he h0 hc hg;have hF:=hW.at 1 aA hL (.inr (hW.cl 13 (hW.cl 14 (hW.cl 16 (hd 16 aA) 14 aA) 13 aA) 9 aA))
        refine .inl ⟨rfl,.inl ⟨_,W.alloc (.cells (sJ (CJ D1 D2 n f kb z)) 53),Mq (CJ D1 D2 n f kb z) h32m _ 12 rfl rfl (fun i=>[88,89,90,91,92,95,103,104,105,107,108,109].getD i 0) aA aA rfl (fun i h=>match i,h with|0,_=>e88|1,_=>e89|2,_=>e90|3,_=>e91|4,_=>e92|5,_=>e95|6,_=>e103|7,_=>e104|8,_=>e105|9,_=>e107|10,_=>e108|11,_=>e109|i+12,h=>absurd h (Nat.not_lt.2 (Nat.le_add_left _ _))),(γ.1,W.heap.size),hW.done (F':=MW w9 D1 D2 n f kb z (γ.1,W.heap.size)) aA 1 aA hL (.inr (hW.cl 13 (hW.cl 14 (hW.cl 16 (hd 16 aA) 14 aA) 13 aA) 9 aA)) hd ⟨hF.1.alloc hF.1.size _,fun _=>(Lj (hF.2.1 (Nat.le_refl _))),fun _=>lP _ _⟩,rfl,fun j hj=>?_⟩⟩;have hj2:j≠23∧j≠24:=⟨fun e=>cS,fun e=>(by subst e;have h9:=hW.cl 24 hj 23 aA;rw[hL]at h9;cases h9)⟩
        match j,hj2 with
        |0,_=>rfl
        |1,_=>rfl
        |2,_=>rfl
        |3,_=>rfl
        |4,_=>rfl
        |5,_=>rfl
        |6,_=>rfl
        |7,_=>rfl
        |8,_=>rfl
        |9,_=>rfl
        |10,_=>rfl
        |11,_=>rfl
        |12,_=>rfl
        |13,_=>rfl
        |14,_=>rfl
        |15,_=>rfl
        |16,_=>rfl
        |17,_=>rfl
        |18,_=>rfl
        |19,_=>rfl
        |20,_=>rfl
        |21,_=>rfl
        |22,_=>rfl
        |23,h=>exact absurd rfl h.1
        |24,h=>exact absurd rfl h.2
        |n+25,_=>rfl
       ·have e110:ev (.tmp 110)=.slice (some ⟨γ.2,0,none⟩) 12 12:=he 23 aA _ 110 rfl rfl;clear he h0 hc hf hg;exact flS rfl aD (hW.upd 24 aA hd) rfl
      intro γ L WB hL hW
      have hF:=hW.fin (fun c hc=>hL c (by
       have h9:c=9∨c=23:=bM;show c<25
       omega))
      have hF2:MW w9 D1 D2 n f kb z γ 2 WB:=hF
      obtain⟨q2,hq2⟩:∃q,γ.2=q:=⟨_,rfl⟩
      have hx9:=hF2.2.2 (Nat.le_refl _);rw[hq2]at hx9;have hb9B:=hF2.1
      have hb5B:=HB59.out.trans (hb9B.mono HB59.out.size);have hbnB:=HBN9.out.trans (hb9B.mono HBN9.out.size)
      have hkiM:=JX (D1:=D1) (D2:=D2) n z ((hb5B.block _ (lH HXK2.out)).trans HXK2.out) (show f≤256 by omega);have hfitM:=Li HL1.out HL2.out (show n≤10 by omega) (show f≤256 by omega) kb HZB.out
      have hpl2:Calls Tryz.prog 5 #[.int .i64 1000,.slice (some ⟨q2,0,none⟩) 12 12] WB fun e w'=>e=.returned (.bool true)∧Below WB.heap.size WB w':=
       rP WB (HG.out.below (HB3.out.trans (hbnB.mono HB3.out.size))).err 1000 aA aA (some ⟨q2,0,none⟩) 12 ((CJ D1 D2 n f kb z).map (·.1)) (Am hx9 h32m hkiM 12) (show 12≤1360000000000 by decide) hfitM
      have HBIB:=hZ (HBI9.out.trans (hb9B.mono HBI9.out.size));clear hL hI0 hF hF2 hx9 hb9B hb5B hbnB hkiM hfitM hW h32m;simp only[nX,Act.put,List.setIfInBounds_toArray,List.set_cons_succ,List.set_cons_zero];rw[hq2];go_wp2_with fail;refine hpl2.mono ?_;rintro e wC ⟨rfl,hbC⟩;have HBIC:=hZ (HBIB.out.trans (hbC.mono HBIB.out.size))
      clear hpl2 hbC;go_wp2_with fail;exact⟨⟨f+1,aC,aG,HBIC⟩,cN⟩
     ·have h5b:((f:Int) %8==5)=false:=beq_eq_false_iff_ne.2 h5;go_wp2_with fail;exact⟨⟨f+1,aC,aG,HBI9⟩,cN⟩
    ·go_wp2_with fail;exact⟨⟨n+1,aC,aC,aG,hZ (HBN.out.trans (HBF.out.mono HBN.out.size))⟩,cN⟩
  ·go_wp2_with fail;go_ret;exact⟨rfl,HB3.out.trans (HBN.out.mono HB3.out.size)⟩
theorem CK(w:World)(hG:CstW w):Calls Tryz.prog 7 #[] w fun e w'=>e=.returned (.bool true)∧Below w.heap.size w w':=by
 have HG:=hZ hG;have hc:=JN w hG.err
 clear hG;go_enter Tryz.func7,Tryz.ntmps7;go_wp2_with fail;refine hc.mono ?_;rintro e w1 ⟨rfl,hb1⟩;have HB1:=hZ hb1
 clear hc hb1;have hc:=Ia w1 (HG.out.below HB1.out)
 go_wp2_with fail;refine hc.mono ?_;rintro e w2 ⟨rfl,hb2⟩;have HB2:=hZ (HB1.out.trans (hb2.mono HB1.out.size))
 clear hc hb2;have hc:=Ld w2 (HG.out.below HB2.out)
 go_wp2_with fail;refine hc.mono ?_;rintro e w3 ⟨rfl,hb3⟩;have HB3:=hZ (HB2.out.trans (hb3.mono HB2.out.size))
 clear hc hb3;have hc:=JP w3 (HG.out.below HB3.out).err
 go_wp2_with fail;refine hc.mono ?_;rintro e w4 ⟨rfl,hb4⟩;have HB4:=hZ (HB3.out.trans (hb4.mono HB3.out.size))
 clear hc hb4;have hc:=Ho w4 (HG.out.below HB4.out).err
 go_wp2_with fail;refine hc.mono ?_;rintro e w5 ⟨rfl,hb5⟩;have HB5:=hZ (HB4.out.trans (hb5.mono HB4.out.size))
 clear hc hb5;go_wp2_with fail;go_ret;exact⟨rfl,HB5.out⟩
end Go.Proofs.YtdkedmngeahjiaaGreatDoor
