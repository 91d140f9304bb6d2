import Derived.Test.YtdkedmngeahjiaaGreatDoorRfFull
import Derived.Test.YtdkedmngeahjiaaGreatDoorM33
import Derived.Test.YtdkedmngeahjiaaGreatDoorM22
set_option maxRecDepth 100000
set_option maxHeartbeats 25600000
namespace Go.Proofs.YtdkedmngeahjiaaGreatDoor
open Go Go.RowKit
def qI(a:Nat):Obj:=.cells #[.pointer (some ⟨a,0,none⟩)] 92 (0,0)
structure Rf (w:World) (S P:Nat→Prop) (rb a:Nat) (w1:World) (n:Nat) (m:DM):Prop where
 st:St w S P a w1 n m
 box:w1.heap[rb]?=some (qI a)
 pb:P rb
section
variable {w w1 w2:World} {S P:Nat→Prop} {rb a n n':Nat} {m m':DM}
theorem Rf.step(h:Rf w S P rb a w1 n m)(hs:St w S P a w2 n' m')(hk:SameP P w1 w2):Rf w S P rb a w2 n' m':=⟨hs,(hk rb h.pb).trans h.box,h.pb⟩
theorem Rf.bel(h:Rf w S P rb a w1 n m)(hb:Below w1.heap.size w1 w2):Rf w S P rb a w2 n m:=h.step (h.st.bel hb P (fun b hb=>.inl hb)) (h.st.same hb)
theorem Rf.more(h:Rf w S P rb a w1 n m)(hb:Below w1.heap.size w1 w2)(Q:Nat→Prop)(hp:∀b,P b→Q b)(hQ:∀b,Q b→P b∨(w1.heap.size≤b∧b<w2.heap.size)):Rf w S Q rb a w2 n m:=
 ⟨h.st.bel hb Q hQ,(h.st.same hb rb h.pb).trans h.box,hp _ h.pb⟩
theorem Rf.cell(h:Rf w S P rb a w1 n m):w1.cell? ⟨rb,0,none⟩=some (.pointer (some ⟨a,0,none⟩)):=by rw[lF h.box];rfl
end
theorem StPost.eq{w w1 w':World}{S P:Nat→Prop}{a n:Nat}{m m':DM}{c:DCall}{e:Ending}{y:Int}{v:Value}(hp:StPost w S P a w1 n m c e w')(he:m.op c=(m',y))(hv:nG y=v):e=.returned v∧St w S P a w' (n+1) m'∧SameP P w1 w':=by
 unfold StPost at hp;rw[he,hv]at hp;exact hp
theorem SameP.trans{P:Nat→Prop}{w1 w2 w3:World}(h:SameP P w1 w2)(h2:SameP P w2 w3):SameP P w1 w3:=fun b hb=>(h2 b hb).trans (h b hb)
theorem nK{y:Int}(h:y≠0):nG y=.iface 71 (.int .i64 y):=if_neg h
theorem Lu(s:ByteArray){y:Int}(h:y≠0):nT s y=.iface 132 (.agg #[.string s,.iface 71 (.int .i64 y)]):=if_neg h
def Aw(w:World)(S P:Nat→Prop)(a n:Nat)(w1:World)(r:DM×Int)(e:Ending)(w':World):Prop:=e=.returned (nG r.2)∧St w S P a w' (n+2) r.1∧SameP P w1 w'
theorem CA{w w1:World}{S P:Nat→Prop}{rb a n:Nat}{m:DM}(h:Rf w S P rb a w1 n m)(hn:n+2≤4000000000):
  Calls Tryz.prog 46 #[.pointer (some ⟨rb,0,none⟩)] w1 (Aw w S P a n w1 (qF m)):=by
 have H0:=hZ h;have c0:=h.cell
 unfold qF Aw;clear h;by_cases hy:(m.op (.remove handR)).2=0
 ·obtain⟨mj,h1⟩:∃mj,m.op (.remove handR)=(mj,0):=⟨_,cC⟩
  have HOP:=hZ h1;rw[lN _ h1];clear hy h1;go_enter Tryz.func46,Tryz.ntmps46;go_wp2_with fail;refine(sI H0.out.st handR aA aC).mono ?_;intro e w8 hp;obtain⟨rfl,hs8,hk8⟩:=hp.eq HOP.out (show nG 0=.nilIface from rfl);have H8:=hZ (H0.out.step hs8 hk8)
  have HK8:=hZ hk8;have c8:=H8.out.cell
  clear hp hs8 hk8 c0;go_wp2_with fail;refine(uN H8.out.st aC).mono ?_;rintro e w9 ⟨rfl,hs9,hk9⟩;have HS9:=hZ hs9
  have HK9:=hZ (HK8.out.trans hk9);clear hs9 hk9;go_wp2_with fail;go_ret;exact⟨rfl,HS9.out,HK9.out⟩
 ·obtain⟨y,hyy⟩:∃y,(m.op (.remove handR)).2=y:=⟨_,rfl⟩
  rw[hyy]at hy
  obtain⟨mj,h1⟩:∃mj,m.op (.remove handR)=(mj,y):=⟨_,bU⟩
  have HOP:=hZ h1;rw[nU _ h1 hy];have HV:=hZ (nK hy)
  clear hy h1 hyy;go_enter Tryz.func46,Tryz.ntmps46;go_wp2_with fail;refine(sI H0.out.st handR aA aC).mono ?_;intro e w8 hp;obtain⟨rfl,hs8,hk8⟩:=hp.eq HOP.out HV.out;have HS8:=hZ hs8
  have HK8:=hZ hk8;clear hp hs8 hk8 c0;go_wp2_with fail;go_ret;exact⟨by rw[HV.out];rfl,HS8.out.more aC,HK8.out⟩
def IJ:ByteArray:=⟨#[100,101,108,101,116,101]⟩
def Ax:ByteArray:=⟨#[103,101,116]⟩
def pS:ByteArray:=⟨#[115,101,116]⟩
def CB:ByteArray:=⟨#[108,105,115,116]⟩
def xM:ByteArray:=⟨#[111,112,101,110]⟩
def uU(m:DM)(s:List UInt8):DM×Int:=match nO s with
 |none=>(m,31)
 |some u=>xQ m (nR u)
def wY(m:DM)(s:List UInt8):List UInt8×Int:=match nO s with
 |none=>(zeroD,31)
 |some u=>DW m u
def tX(m:DM)(s D:List UInt8):DM×Int:=match nO s with
 |none=>(m,31)
 |some u=>qR m (nR u) (nA D)
def RfPost(w:World)(S P:Nat→Prop)(a n:Nat)(w1:World)(r:DM×Int)(e:Ending)(w':World):Prop:=(∃t,e=.returned (nT t r.2))∧St w S P a w' n r.1∧SameP P w1 w'
theorem wI(u:List UInt8):(⟨#[114,101,102,115,47]⟩:ByteArray)++⟨u.toArray⟩=nR u:=by
 refine ByteArray.ext ?_;rw[ByteArray.data_append];refine Array.ext' ?_;rw[Array.toList_append]
 rfl
theorem pY(u:List UInt8):(nR u).size=5+u.length:=by
 show(refHead++u).length=_;rw[List.length_append]
 rfl
theorem EI{w w1:World}{S P:Nat→Prop}{rb a n:Nat}{m:DM}(h:Rf w S P rb a w1 n m)(hn:n+2≤4000000000)(s:ByteArray)(hs:(s.size:Int)≤140737488355328):
  Calls Tryz.prog 24 #[.pointer (some ⟨rb,0,none⟩),.string s] w1 (RfPost w S P a (n+2) w1 (uU m s.data.toList)):=by
 have hfu:=fun W:World=>rZ s hs W
 unfold vG at hfu;have H0:=hZ h
 unfold RfPost uU;clear h;have hfl:=fun u h=>(pD (s:=s.data.toList) (u:=u) h).2.1
 cases hf:nO s.data.toList with
 |none=>
  rw[hf]at hfu;have hfu2:∀W:World,Calls Tryz.prog 9 #[.string s] W fun e w'=>e=.returned (.tuple #[.string ⟨#[]⟩,.iface 132 (.agg #[.string rY,nJ 31])])∧Below W.heap.size W w':=hfu
  clear hfu hf hfl;go_enter Tryz.func24,Tryz.ntmps24;go_wp2_with (go_at_call 9;refine(hfu2 _).mono ?_;rintro e w2 ⟨rfl,hb2⟩;have HB2:=hZ hb2;clear hb2);go_ret;exact⟨⟨rY,rfl⟩,(H0.out.bel HB2.out).st.more aC,H0.out.st.same HB2.out⟩
 |some u=>
  rw[hf]at hfu;have hul:=hfl u hf
  have hfu2:∀W:World,Calls Tryz.prog 9 #[.string s] W fun e w'=>e=.returned (.tuple #[.string ⟨u.toArray⟩,.nilIface])∧Below W.heap.size W w':=hfu
  have happ:=wI u;have hsz:=pY u
  simp only;unfold xQ;generalize nR u=N at happ hsz⊢;have hus:(((⟨u.toArray⟩:ByteArray).size:Nat):Int)≤96:=dR
  generalize (⟨u.toArray⟩:ByteArray)=U at hfu2 happ hus;have HSZ:=hZ (show N.size≤maxLen by unfold maxLen;omega)
  clear hfu hf hfl hsz hul;by_cases hy:(m.op (.remove N)).2=0
  ·obtain⟨mj,h1⟩:∃mj,m.op (.remove N)=(mj,0):=⟨_,cC⟩
   have HOP:=hZ h1;rw[lN _ h1]
   obtain⟨y,hy2⟩:∃y,(mj.op .flush).2=y:=⟨_,rfl⟩
   obtain⟨mk,h2⟩:∃mk,mj.op .flush=(mk,y):=⟨_,by rw[←hy2]⟩
   have HOP2:=hZ h2;have htl:=fun W:World=>nQ IJ y W
   unfold IJ at htl;rw[h2];clear hy h1 hy2 h2;go_enter Tryz.func24,Tryz.ntmps24;go_wp2_with (go_at_call 9;refine(hfu2 _).mono ?_;rintro e w2 ⟨rfl,hb2⟩;have H2:=hZ (H0.out.bel hb2);have HK2:=hZ (H0.out.st.same hb2);have c2:=H2.out.cell;clear hb2);refine(sI H2.out.st N HSZ.out aC).mono ?_;intro e w8 hp;obtain⟨rfl,hs8,hk8⟩:=hp.eq HOP.out (show nG 0=.nilIface from rfl);have H8:=hZ (H2.out.step hs8 hk8)
   have HK8:=hZ (HK2.out.trans hk8);have c8:=H8.out.cell
   clear hp hs8 hk8 c2;go_wp2_with fail;refine(uN H8.out.st aC).mono ?_;intro e w9 hp;obtain⟨rfl,hs9,hk9⟩:=hp.eq HOP2.out rfl;have HS9:=hZ hs9
   have HK9:=hZ (HK8.out.trans hk9);clear hp hs9 hk9;go_wp2_with (go_at_call 34;refine(htl _).mono ?_;rintro e w10 ⟨rfl,rfl⟩);go_ret;exact⟨⟨_,rfl⟩,HS9.out,HK9.out⟩
  ·obtain⟨y,hyy⟩:∃y,(m.op (.remove N)).2=y:=⟨_,rfl⟩
   rw[hyy]at hy
   obtain⟨mj,h1⟩:∃mj,m.op (.remove N)=(mj,y):=⟨_,bU⟩
   have HOP:=hZ h1;rw[nU _ h1 hy];have HV:=hZ (nK hy)
   have htl:=fun W:World=>nQ IJ y W
   rw[HV.out]at htl;unfold IJ at htl;clear hy h1 hyy;go_enter Tryz.func24,Tryz.ntmps24;go_wp2_with (go_at_call 9;refine(hfu2 _).mono ?_;rintro e w2 ⟨rfl,hb2⟩;have H2:=hZ (H0.out.bel hb2);have HK2:=hZ (H0.out.st.same hb2);have c2:=H2.out.cell;clear hb2);refine(sI H2.out.st N HSZ.out aC).mono ?_;intro e w8 hp;obtain⟨rfl,hs8,hk8⟩:=hp.eq HOP.out HV.out;have HS8:=hZ hs8
   have HK8:=hZ (HK2.out.trans hk8);clear hp hs8 hk8 c2;go_wp2_with (go_at_call 34;refine(htl _).mono ?_;rintro e w10 ⟨rfl,rfl⟩);go_ret;exact⟨⟨_,rfl⟩,HS8.out.more aC,HK8.out⟩
end Go.Proofs.YtdkedmngeahjiaaGreatDoor
