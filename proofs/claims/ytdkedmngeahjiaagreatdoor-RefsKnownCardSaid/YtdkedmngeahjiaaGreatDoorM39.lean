import Derived.Test.YtdkedmngeahjiaaGreatDoorRefL
import Derived.Test.YtdkedmngeahjiaaGreatDoorM30
import Derived.Test.YtdkedmngeahjiaaGreatDoorM38
import Derived.Test.YtdkedmngeahjiaaGreatDoorFail
import Derived.Test.YtdkedmngeahjiaaGreatDoorUsed
import Derived.Test.YtdkedmngeahjiaaGreatDoorM20
set_option maxRecDepth 100000
set_option maxHeartbeats 25600000
namespace Go.Proofs.YtdkedmngeahjiaaGreatDoor
theorem aJ{p:Prop}(h:p:=by exact⟨by rw[HV.out];rfl,by first|exact G9 HB.out|exact G9 (G9 HB.out)⟩):p:=h
theorem aU{p:Prop}(h:p:=by clear hf;simp only[execOp,resolve,invoke,builtin,Sem.run_bind,Sem.run_pure,Result.andThen_ok,List.map_toArray,List.map_cons,List.map_nil,e152,e154,hr]):p:=h
theorem aW{p:Prop}(h:p:=by exact⟨by rw[HDO.out];rfl,by rw[HDO.out];exact HP7.out⟩):p:=h
theorem aX{p:Prop}(h:p:=by exact⟨by rw[HDO.out];rfl,by rw[HDO.out];exact HP1.out⟩):p:=h
theorem bL{p:Prop}(h:p:=by rw[htk];exact hq):p:=h
theorem bO{p:Prop}(h:p:=by rw[←href];exact Er m _):p:=h
theorem bV{p:Prop}(h:p:=by cases m;simp only at ha;rw[ha]):p:=h
theorem cA{p:Prop}(h:p:=by rw[ha];rfl):p:=h
theorem cE{p:Prop}(h:p:=by rw[←hN];exact HOK.out.nowN):p:=h
theorem cU{p:Prop}(h:p:=by have e:w.heap.size=r:=e;have:=HRL0.out;omega):p:=h
theorem dF{p:Prop}(h:p:=by have:j=0∨j=1∨j=2∨j=3∨j=4∨j=5∨j=6∨j=8:=aC;rcases this with rfl|rfl|rfl|rfl|rfl|rfl|rfl|rfl<;>decide):p:=h
theorem dO{p:Prop}(h:p:=by have:=hzz;have:=hW.size;show wr.heap.size≤(((W.drewN 1).setCell ⟨gf,q.2*2,none⟩ (.string (fl.cut kx).data)).setCell ⟨gf,q.2*2+1,none⟩ (.int .i64 (fl.cut kx).safe)).heap.size;omega):p:=h
theorem dP{p:Prop}(h:p:=by have:=hzz;have:=hW.size;show wr.heap.size≤(((W.drewN 1).setCell ⟨gf,q.2*2,none⟩ (.string (fl.cut 0).data)).setCell ⟨gf,q.2*2+1,none⟩ (.int .i64 (fl.cut 0).safe)).heap.size;omega):p:=h
theorem dV{p:Prop}(h:p:=by have:=(List.getElem?_eq_some_iff.1 hjt).1;have e:m.now.length=N:=HN.out;omega):p:=h
theorem dZ{p:Prop}(h:p:=by have hff:=hf 157;clear hf;go_simp<;>rfl):p:=h
theorem eE{p:Prop}(h:p:=by exact flS rfl aD (hW.upd 7 aA aA (fun e=>aO)) rfl):p:=h
theorem eF{p:Prop}(h:p:=by exact flS rfl aD (hW.upd 5 aA aA (fun e=>aO)) rfl):p:=h
theorem eG{p:Prop}(h:p:=by exact flS rfl aD (hW.upd 4 aA aA (fun e=>aO)) rfl):p:=h
theorem eH{p:Prop}(h:p:=by exact flS rfl aD (hW.upd 3 aA aA (fun e=>aO)) rfl):p:=h
theorem eI{p:Prop}(h:p:=by exact flS rfl aD (hW.upd 2 aA aA (fun e=>aO)) rfl):p:=h
theorem eJ{p:Prop}(h:p:=by exact flS rfl aD (hW.upd 1 aA aA (fun e=>aO)) rfl):p:=h
theorem eK{p:Prop}(h:p:=by exact flS rfl aD (hW.upd 0 aA aA (fun e=>aO)) rfl):p:=h
theorem fL{p:Prop}(h:p:=by have:=HL.out;omega):p:=h
theorem fR{p:Prop}(h:p:=by rw[nV]at hx;cases hx):p:=h
theorem fZ{p:Prop}(h:p:=by rw[←hoff];rfl):p:=h
theorem gD{p:Prop}(h:p:=by rw[if_pos aC]):p:=h
theorem gG{p:Prop}(h:p:=by exact flS rfl aD (hW.upd 8 aA aA (fun _=>hd 7 aA)) rfl):p:=h
theorem gW{p:Prop}(h:p:=by have:=(HS3.out.raw).keep;rwa[show(m.tick).keep=m.keep from rfl]at this):p:=h
theorem hY{p:Prop}(h:p:=by rwa[mB (Ne.symm h2)]at hy):p:=h
theorem iA{p:Prop}(h:p:=by rwa[mB (Ne.symm h2)]at hx):p:=h
theorem iB{p:Prop}(h:p:=by rw[ho];exact Bool.false_ne_true):p:=h
theorem iC{p:Prop}(h:p:=by rw[hact];show(m.files.set _ _).length≤n+1;rw[List.length_set];omega):p:=h
theorem iL{p:Prop}(h:p:=by rw[←hu,Array.getElem?_toList]):p:=h
theorem iU{p:Prop}(h:p:=by rw[hz1];exact Nat.le_refl _):p:=h
theorem jC{p:Prop}(h:p:=by rw[hz];exact Nat.le_refl _):p:=h
theorem jW{p:Prop}(h:p:=by exact flS rfl aD (hW.upd 9 aA aA aA) rfl):p:=h
theorem jX{p:Prop}(h:p:=by exact flS rfl aD (hW.upd 8 aA aA aA) rfl):p:=h
theorem jY{p:Prop}(h:p:=by exact flS rfl aD (hW.upd 5 aA aA aA) rfl):p:=h
theorem jZ{p:Prop}(h:p:=by exact flS rfl aD (hW.upd 4 aA aA aA) rfl):p:=h
theorem kC{p:Prop}(h:p:=by exact flS rfl aD (hW.upd 3 aA aA aA) rfl):p:=h
theorem kD{p:Prop}(h:p:=by exact flS rfl aD (hW.upd 2 aA aA aA) rfl):p:=h
theorem kE{p:Prop}(h:p:=by exact flS rfl aD (hW.upd 1 aA aA aA) rfl):p:=h
theorem kG{p:Prop}(h:p:=by exact flS rfl aD (hW.upd 0 aA aA aA) rfl):p:=h
theorem kK{p:Prop}(h:p:=by rw[HPL.out];exact hown):p:=h
theorem kL{p:Prop}(h:p:=by have e:w.heap.size=gf:=e;have:=HLT.out gf hgS2;omega):p:=h
theorem kQ{p:Prop}(h:p:=by clear hf;go_simp<;>rfl):p:=h
theorem kV{p:Prop}(h:p:=by rw[←hT];exact HRN.out):p:=h
open Go Go.RowKit Go.Maps Go.WideAt Go.WideShapes
abbrev KK(S:Nat→Prop)(w:World)(v:Value)(l:List Fil):Prop:=RowS 180 2 xL S w v l
abbrev Do(S:Nat→Prop)(w:World)(v:Value)(l:List ROp):Prop:=RowS 175 4 oE S w v l
def wD(m:DM)(fv nv sv pv kv:Value):Array Value:=#[.bool m.off,.int .i64 m.room,fv,nv,sv,pv,.int .i64 m.armed,kv]
structure RefRaw (w:World) (r:Nat) (m:DM) (S:Nat→Prop) (fv nv sv pv kv:Value) (ro:List ROp):Prop where
 head:w.heap[r]?=some (.cells (wD m fv nv sv pv kv) 167 (0,0))
 sr:S r
 files:KK S w fv m.files
 now:oB S w nv m.now
 safe:oB S w sv m.safe
 pend:Do S w pv ro
 pendE:m.pend=ro.map ROp.dop
 opsF:∀o∈ro,(o.file:Int)≤9223372036854775807
 keep:IntsOwn S w kv m.keep
 lt:∀b,S b→b<w.heap.size
structure RefAt (w:World) (r n:Nat) (m:DM) (S:Nat→Prop):Prop where
 raw:∃fv nv sv pv kv ro,RefRaw w r m S fv nv sv pv kv ro
 ok:m.Ok n
 filesN:m.files.length≤n
def TKeep(S:Nat→Prop)(w w':World)(B:TypeId→Prop):Prop:=∀b cur T,S b→w.heap[b]?=some (.cells cur T (0,0))→¬B T→w'.heap[b]?=w.heap[b]?
section
variable {α:Type} {T sz:Nat} {cl:α→Array Value} {S:Nat→Prop} {w w' w2:World} {v:Value} {B C:TypeId→Prop}
theorem RowS.keepT{xs:List α}(h:RowS T sz cl S w v xs)(hk:TKeep S w w' B)(hT:¬B T):RowS T sz cl S w' v xs:=h.keep (fun b cur hb hc=>hk b cur T hb hc hT)
theorem IntsOwn.keepT{ks:List Int}(h:IntsOwn S w v ks)(hk:TKeep S w w' B)(hT:¬B 3):IntsOwn S w' v ks:=h.keep (fun b cs hb hc=>hk b cs _ hb hc hT) (fun _ h=>h)
theorem TKeep.set{r i:Nat}{hd:Array Value}{D:TypeId}{x:Value}(hr:w.heap[r]?=some (.cells hd D (0,0))):TKeep S w (w.setCell ⟨r,i,none⟩ x) (fun t=>t=D):=fun b cur T' hb hc hT=>by
 refine Below.heap_setCell _ _ _ _ fun e=>?_
 have e:b=r:=e;subst e;rw[hr]at hc;cases hc;exact hT rfl
theorem TKeep.below(hl:∀b,S b→b<w.heap.size)(hb:Below w.heap.size w w'):TKeep S w w' (fun _=>False):=fun b _ _ hS _ _=>hb.block b (hl b hS)
theorem TKeep.trans(h:TKeep S w w' B)(k:TKeep S w' w2 C):TKeep S w w2 (fun t=>B t∨C t):=fun b cur T' hb hc hT=>by
 have h1:=h b cur T' hb hc (fun x=>hT (.inl x));exact(k b cur T' hb (h1.trans hc) (fun x=>hT (.inr x))).trans h1
theorem TKeep.mono(h:TKeep S w w' B)(hs:∀t,B t→C t):TKeep S w w' C:=fun b cur T' hb hc hT=>h b cur T' hb hc (fun x=>hT (hs _ x))
theorem TKeep.same(h:w'.heap=w.heap):TKeep S w w' B:=fun b _ _ _ _ _=>by rw[h]
end
section
variable {w w':World} {r n:Nat} {m:DM} {S:Nat→Prop} {fv nv sv pv kv:Value} {ro:List ROp}
theorem RefRaw.cells(h:RefRaw w r m S fv nv sv pv kv ro):w.cell? ⟨r,0,none⟩=some (.bool m.off)∧w.cell? ⟨r,1,none⟩=some (.int .i64 m.room)∧w.cell? ⟨r,2,none⟩=some fv∧w.cell? ⟨r,3,none⟩=some nv∧
  w.cell? ⟨r,4,none⟩=some sv∧w.cell? ⟨r,5,none⟩=some pv∧w.cell? ⟨r,6,none⟩=some (.int .i64 m.armed)∧w.cell? ⟨r,7,none⟩=some kv:=by
 have e:=fun i=>lF (i:=i) h.head
 exact⟨e 0,e 1,e 2,e 3,e 4,e 5,e 6,e 7⟩
theorem RefRaw.frame(h:RefRaw w r m S fv nv sv pv kv ro)(hb:∀b,S b→w'.heap[b]?=w.heap[b]?)(hz:w.heap.size≤w'.heap.size):RefRaw w' r m S fv nv sv pv kv ro:=
 {h with
  head:=(hb _ h.sr).trans h.head
  files:=h.files.keep (fun b _ hS _=>hb b hS)
  now:=h.now.keep (fun b _ hS _=>hb b hS)
  safe:=h.safe.keep (fun b _ hS _=>hb b hS)
  pend:=h.pend.keep (fun b _ hS _=>hb b hS)
  keep:=h.keep.keep (fun b _ hS _=>hb b hS) (fun _ h=>h)
  lt:=fun b hS=>Nat.lt_of_lt_of_le (h.lt b hS) hz}
theorem RefRaw.sup{S':Nat→Prop}(h:RefRaw w r m S fv nv sv pv kv ro)(hs:∀b,S b→S' b)(hl:∀b,S' b→b<w.heap.size):RefRaw w r m S' fv nv sv pv kv ro:=
 {h with sr:=hs _ h.sr,files:=h.files.sup hs,now:=h.now.sup hs,safe:=h.safe.sup hs,pend:=h.pend.sup hs,keep:=⟨h.keep.1,fun b hb=>hs b (h.keep.2 b hb)⟩,lt:=hl}
theorem RefAt.frame(h:RefAt w r n m S)(hb:∀b,S b→w'.heap[b]?=w.heap[b]?)(hz:w.heap.size≤w'.heap.size):RefAt w' r n m S:=by
 obtain⟨⟨fv,nv,sv,pv,kv,ro,h1⟩,h2,h3⟩:=h;exact⟨⟨fv,nv,sv,pv,kv,ro,h1.frame hb hz⟩,h2,h3⟩
theorem RefAt.lt(h:RefAt w r n m S):∀b,S b→b<w.heap.size:=by
 obtain⟨⟨fv,nv,sv,pv,kv,ro,h1⟩,h2,h3⟩:=h;exact h1.lt
theorem RefAt.below(h:RefAt w r n m S)(hb:Below w.heap.size w w'):RefAt w' r n m S:=h.frame (fun b hS=>hb.block b (h.lt b hS)) hb.size
theorem RefAt.off{T:Nat→Prop}(h:RefAt w r n m S)(hb:Off T w w')(hd:∀b,S b→¬T b):RefAt w' r n m S:=h.frame (fun b hS=>hb.block b (h.lt b hS) (hd b hS)) hb.size
theorem RefAt.more{n':Nat}(h:RefAt w r n m S)(hn:n≤n'):RefAt w r n' m S:=⟨h.raw,h.ok.mono hn,Nat.le_trans h.filesN hn⟩
theorem RefAt.sup{S':Nat→Prop}(h:RefAt w r n m S)(hs:∀b,S b→S' b)(hl:∀b,S' b→b<w.heap.size):RefAt w r n m S':=by
 obtain⟨⟨fv,nv,sv,pv,kv,ro,h1⟩,h2,h3⟩:=h;exact⟨⟨fv,nv,sv,pv,kv,ro,h1.sup hs hl⟩,h2,h3⟩
end
def nM(r n:Nat)(m:DM)(S:Nat→Prop)(w w':World):Prop:=RefAt w' r n m (mU S w w')∧Off S w w'
section
variable {w w':World} {r n:Nat} {m m':DM} {S:Nat→Prop} {fv nv sv pv kv nv' sv' pv' kv':Value} {ro ro':List ROp} {B:TypeId→Prop}
theorem RefRaw.nowG(h:RefRaw w r m S fv nv sv pv kv ro)(hk:TKeep S w w' B)(hB:¬B 177):oB (mU S w w') w' nv m.now:=(h.now.keepT hk hB).sup pJ
theorem RefRaw.safeG(h:RefRaw w r m S fv nv sv pv kv ro)(hk:TKeep S w w' B)(hB:¬B 177):oB (mU S w w') w' sv m.safe:=(h.safe.keepT hk hB).sup pJ
theorem RefRaw.pendG(h:RefRaw w r m S fv nv sv pv kv ro)(hk:TKeep S w w' B)(hB:¬B 175):Do (mU S w w') w' pv ro:=(h.pend.keepT hk hB).sup pJ
theorem RefRaw.filesG(h:RefRaw w r m S fv nv sv pv kv ro)(hk:TKeep S w w' B)(hB:¬B 180):KK (mU S w w') w' fv m.files:=(h.files.keepT hk hB).sup pJ
theorem RefRaw.keepG(h:RefRaw w r m S fv nv sv pv kv ro)(hk:TKeep S w w' B)(hB:¬B 3):IntsOwn (mU S w w') w' kv m.keep:=⟨(h.keep.keepT hk hB).1,fun b hb=>.inl (h.keep.2 b hb)⟩
theorem RefRaw.growLt(h:RefRaw w r m S fv nv sv pv kv ro)(hz:w.heap.size≤w'.heap.size):∀b,mU S w w' b→b<w'.heap.size:=by
 rintro b (hb|⟨_,hb⟩)
 ·exact Nat.lt_of_lt_of_le (h.lt b hb) hz
 ·exact hb
theorem RefRaw.headSet(h:RefRaw w r m S fv nv sv pv kv ro)(i:Nat)(x:Value)(hx:(wD m fv nv sv pv kv).setIfInBounds i x=wD m' fv nv' sv' pv' kv'):(w.setCell ⟨r,i,none⟩ x).heap[r]?=some (.cells (wD m' fv nv' sv' pv' kv') 167 (0,0)):=by
 rw[lY h.head,hx];exact lM (lH h.head)
theorem RefRaw.setOff(h:RefRaw w r m S fv nv sv pv kv ro)(i:Nat)(x:Value):Off S w (w.setCell ⟨r,i,none⟩ x):=(Off.refl S w).setCell _ _ (fun _=>h.sr)
theorem RefRaw.setKeep(h:RefRaw w r m S fv nv sv pv kv ro)(i:Nat)(x:Value):TKeep S w (w.setCell ⟨r,i,none⟩ x) (fun t=>t=167):=TKeep.set h.head
theorem RefRaw.set(h:RefRaw w r m S fv nv sv pv kv ro)(i:Nat)(x:Value)(hx:(wD m fv nv sv pv kv).setIfInBounds i x=wD m' fv nv sv pv kv)(e1:m'.files=m.files)(e2:m'.now=m.now)(e3:m'.safe=m.safe)(e4:m'.pend=m.pend)(e5:m'.keep=m.keep):
  RefRaw (w.setCell ⟨r,i,none⟩ x) r m' (mU S w (w.setCell ⟨r,i,none⟩ x)) fv nv sv pv kv ro:=by
 have hk:=h.setKeep i x;exact⟨h.headSet i x hx,.inl h.sr,by rw[e1];exact h.filesG hk aA,by rw[e2];exact h.nowG hk aA,by rw[e3];exact h.safeG hk aA,h.pendG hk aA,by rw[e4];exact h.pendE,h.opsF,by rw[e5];exact h.keepG hk aA,h.growLt bD⟩
end
theorem MQ(x:Int):(DM.new x).Ok 0 where
 now:=List.Pairwise.nil
 safe:=List.Pairwise.nil
 nowI:=fun p hp=>kN
 safeI:=fun p hp=>kN
 pendI:=fun k i hp=>kN
 file:=fun f hf=>by cases hf
 nowN:=Nat.le_refl _
 safeN:=Nat.le_refl _
 room:=by
  show(min (max x 0) 268435456).toNat≤268435456;omega
 arm0:=Int.le_refl _
 arm1:=by show(0:Int)≤_;decide
 keepI:=fun k hk=>iN
theorem G4(w:World)(x:Int)(h1:-9223372036854775808≤x)(h2:x≤9223372036854775807):
  Calls Tryz.prog 55 #[.int .i64 x] w fun e w'=>∃r,e=.returned (.pointer (some ⟨r,0,none⟩))∧RefAt w' r 0 (DM.new x) (fun b=>w.heap.size≤b∧b<w'.heap.size)∧Below w.heap.size w w':=by
 go_enter Tryz.func55,Tryz.ntmps55;go_wp2_with fail;go_ret
 have hr:((DM.new x).room:Int)=min (max x 0) 268435456:=by
  show(((min (max x 0) 268435456).toNat:Nat):Int)=_;omega
 refine⟨w.heap.size,rfl,⟨⟨.slice none 0 0,.slice none 0 0,.slice none 0 0,.slice none 0 0,.slice none 0 0,[],?_⟩,MQ x,Nat.le_refl _⟩,(Below.refl _ _).alloc (Nat.le_refl _) _⟩;refine⟨?_,⟨Nat.le_refl _,cO⟩,RowS.nil _ _,RowS.nil _ _,RowS.nil _ _,RowS.nil _ _,rfl,fun o ho=>kO,Ab _ _,fun b hb=>hb.2⟩;rw[lP];unfold wD;rw[hr]
 rfl
theorem CG{w:World}{r n:Nat}{m:DM}{S:Nat→Prop}(h:RefAt w r n m S):
  Calls Tryz.prog 64 #[.pointer (some ⟨r,0,none⟩)] w fun e w'=>e=.returned (.tuple #[])∧nM r n m.revive S w w':=by
 obtain⟨⟨fv,nv,sv,pv,kv,ro,h⟩,h2,h3⟩:=h;have c0:=h.cells.1
 have f0:w.frozen? ⟨r,0,none⟩=false:=lI h.head;have H:=hZ h
 clear h;go_enter Tryz.func64,Tryz.ntmps64;go_wp2_with fail;go_end0;exact⟨rfl,⟨⟨fv,nv,sv,pv,kv,ro,H.out.set (m':=m.revive) 0 (.bool false) rfl rfl rfl rfl rfl rfl⟩,{h2 with},h3⟩,H.out.setOff _ _⟩
theorem Eo(s:ByteArray)(w:World):Calls Tryz.prog 185 #[.string s] w fun e w'=>e=.returned (.bool (oA s))∧w=w':=by
 by_cases h1:(1:Int)≤(s.size:Int)
 ·by_cases h2:(s.size:Int)≤200
  ·go_enter Tryz.func185,Tryz.ntmps185;go_wp2_with fail;go_ret;exact⟨by unfold oA;rw[decide_eq_true aC,decide_eq_true aC];rfl,rfl⟩
  ·go_enter Tryz.func185,Tryz.ntmps185;go_wp2_with fail;go_ret;exact⟨by unfold oA;rw[decide_eq_true aC,decide_eq_false aC];rfl,rfl⟩
 ·go_enter Tryz.func185,Tryz.ntmps185;go_wp2_with fail;go_ret;exact⟨by unfold oA;rw[decide_eq_false aC];rfl,rfl⟩
theorem yC{fs:List Fil}:∀{t:Tab} {i:Nat} {p:Bs×Nat},t[i]?=some p→lU fs (t.take (i+1))=lU fs (t.take i)+fs[p.2]!.data.size
 |[],i,p,h=>aK
 |q::r,0,p,h=>by
  cases h;simp[lU]
 |q::r,i+1,p,h=>by
  rw[List.take_succ_cons,List.take_succ_cons,lU,lU,yC (t:=r) h];omega
theorem vC(fs:List Fil):∀(t:Tab) (i:Nat),lU fs (t.take i)≤lU fs t
 |[],i=>by rw[List.take_nil];exact Nat.le_refl _
 |q::r,0=>by rw[List.take_zero];exact Nat.zero_le _
 |q::r,i+1=>by
  rw[List.take_succ_cons,lU,lU];have:=vC fs r i
  omega
theorem get!_at{fs:List Fil}{i:Nat}(h:i<fs.length):fs[i]?=some fs[i]!:=by
 rw[List.getElem?_eq_getElem h,List.getElem!_eq_getElem?_getD,List.getElem?_eq_getElem h]
 rfl
theorem FF{w:World}{r n:Nat}{m:DM}{S:Nat→Prop}(h:RefAt w r n m S)(hn:n*m.room≤4611686018427387904)(hn2:n≤2000000000000):
  Calls Tryz.prog 186 #[.pointer (some ⟨r,0,none⟩)] w fun e w'=>e=.returned (.int .i64 m.used)∧∃q,w'=w.drewN q:=by
 obtain⟨⟨fv,nv,sv,pv,kv,ro,h⟩,hok,hfn⟩:=h;obtain⟨c0,-,c2,c3,-⟩:=h.cells;have hrl:=h.lt r h.sr
 obtain⟨p,c,rfl⟩:=h.now.form;obtain⟨fp,fc,rfl⟩:=h.files.form;have hle:=sA m.files m.room m.now (fun p hp=>(hok.file _ (get!_mem (hok.nowI p hp))).2)
 have hle2:lU m.files m.now≤4611686018427387904:=Nat.le_trans hle (Nat.le_trans (Nat.mul_le_mul_right _ hok.nowN) hn)
 obtain⟨N,hN⟩:∃N,m.now.length=N:=⟨_,rfl⟩
 obtain⟨F,hF⟩:∃F,m.files.length=F:=⟨_,rfl⟩
 have hNn:N≤2000000000000:=by rw[←hN];exact Nat.le_trans hok.nowN hn2
 have hNi:(N:Int)≤2000000000000:=aC;rw[hN]at c3;rw[hF]at c2;have H:=hZ h
 have HOK:=hZ hok;have HN:=hZ hN
 have HF:=hZ hF;have HL2:=hZ hle2
 clear h hok hN hF hle hle2
 cases ho:m.off with
 |true=>
  have e:m.used=0:=gJ;have HE:=hZ e
  rw[ho]at c0;clear e;have hz:(0:Int)<(N:Int)∨¬(0:Int)<(N:Int):=Decidable.em _
  rcases hz with hz|hz
  all_goals
   go_enter Tryz.func186,Tryz.ntmps186;go_wp2_with fail;go_loopw [3,4] (fun nv' iv wr=>nv'=.int .i64 0∧iv=.int .i64 0∧wr=w) (fun _ _ _=>0)
   case atStart=>exact⟨rfl,rfl,rfl⟩
   case round=>
    obtain⟨rfl,rfl,rfl⟩:=hrel;go_wp2_with fail;go_ret;exact⟨by rw[HE.out];rfl,0,rfl⟩
 |false=>
  have e:m.used=lU m.files m.now:=gJ;have HE:=hZ e
  rw[ho]at c0;have C0:=hZ c0
  have C2:=hZ c2;have C3:=hZ c3
  clear e c0 c2 c3;go_enter Tryz.func186,Tryz.ntmps186;go_wp2_with fail;go_loopw [3,4] (fun nv' iv wr=>∃(i x:Nat),i≤N∧iv=.int .i64 i∧nv'=.int .i64 x∧Hid (x=lU m.files (m.now.take i))∧Hid (∃z,wr=w.drewN z)) (fun _ iv _=>N-(intOf iv).toNat)
  case atStart=>exact⟨0,0,Nat.zero_le _,rfl,rfl,hZ rfl,hZ ⟨0,rfl⟩⟩
  case round=>
   obtain⟨i,x,hi,rfl,rfl,hx,hz⟩:=hrel;have hh:wr.heap=w.heap:=by obtain⟨z,hz⟩:=hz.out;rw[hz];rfl
   have hcc:∀b j,wr.cell? ⟨b,j,none⟩=w.cell? ⟨b,j,none⟩:=fun b j=>lK (by rw[hh])
   have c0:=(hcc r 0).trans C0.out;have c2:=(hcc r 2).trans C2.out
   have c3:=(hcc r 3).trans C3.out;by_cases hlt:(i:Int)<(N:Int)
   ·obtain⟨q,hq⟩:∃q,m.now[i]?=some q:=⟨_,List.getElem?_eq_getElem (i:=i) eB⟩
    have hqF:=HOK.out.nowI q (List.mem_of_getElem? hq);obtain⟨g,cur,rfl,hgS,-,hc⟩:=H.out.now.cell sO hq;obtain⟨g2,cur2,rfl,hgS2,-,hc2⟩:=H.out.files.cell vL (get!_at hqF);have d1:wr.cell? ⟨g,i*2+1,none⟩=some (.int .i64 q.2):=(hcc _ _).trans (hc 1 aA)
    have d2:wr.cell? ⟨g2,q.2*2,none⟩=some (.string m.files[q.2]!.data):=(hcc _ _).trans (hc2 0 aA);have hqi:(q.2:Int)<(F:Int):=by have:=HF.out;omega
    have hq0:(0:Int)≤(q.2:Int):=aC;have htk:=yC (fs:=m.files) hq
    have hxl:lU m.files (m.now.take (i+1))≤4611686018427387904:=Nat.le_trans (vC _ _ _) HL2.out;rw[htk,←hx.out]at hxl;generalize m.files[q.2]!.data=D at d2 htk hxl;have hsum:(x:Int)+(D.size:Int)≤4611686018427387904:=aC
    have hD0:(0:Int)≤(D.size:Int):=aC;have HX2:=hZ (show x+D.size=lU m.files (m.now.take (i+1)) by rw[htk,←hx.out])
    clear hq hqF hc hc2 hgS hgS2 htk hxl hx hh hcc;go_wp2_with fail;refine pF 18 mC aE ?_;simp only[List.take_succ_cons,List.take_zero,List.drop_succ_cons,List.drop_zero]
    repeat (go_big_quiet_step (fail))
    refine wpQuiet_nil ?_;go_wp2_with fail
    case roundEnd=>exact⟨⟨i+1,x+D.size,aC,aG,by rw[Int.natCast_add],HX2,hZ (by obtain⟨z,hz⟩:=hz.out;exact⟨z+1,by rw[hz,World.drewN_drewN]⟩)⟩,cN⟩
   ·obtain rfl:i=N:=by omega
    have HX:=hZ (show x=lU m.files m.now by have:=hx.out;rwa[List.take_of_length_le bA]at this);clear hh hcc;go_wp2_with fail;go_ret;exact⟨by rw[HE.out,←HX.out];rfl,hz.out⟩
theorem FG{w:World}{r n:Nat}{m:DM}{S:Nat→Prop}(h:RefAt w r n m S)(s:ByteArray)(hn:n≤2000000000000):
  Calls Tryz.prog 67 #[.pointer (some ⟨r,0,none⟩),.string s] w fun e w'=>e=.returned (.tuple #[.string (m.reads s).1,.int .i64 (m.reads s).2])∧∃q,w'=w.drewN q:=by
 obtain⟨⟨fv,nv,sv,pv,kv,ro,h⟩,hok,hfn⟩:=h;obtain⟨c0,-,c2,c3,-⟩:=h.cells
 cases ho:m.off with
 |true=>
  have e:m.reads s=(⟨#[]⟩,27):=by unfold DM.reads;rw[ho];rfl
  rw[e];rw[ho]at c0;go_enter Tryz.func67,Tryz.ntmps67;go_wp2_with fail;go_ret2;exact⟨rfl,0,rfl⟩
 |false=>
  obtain⟨p,c,rfl⟩:=h.now.form;obtain⟨fp,fc,rfl⟩:=h.files.form;have hat:=wK h.now s (Nat.le_trans hok.nowN aC)
  rw[ho]at c0
  cases hg:lS m.now s.data.toList with
  |none=>
   have e:m.reads s=(⟨#[]⟩,10):=cL;rw[e];rw[rJ hg]at hat;clear h hok;go_enter Tryz.func67,Tryz.ntmps67;go_wp2_with fail;refine hat.mono ?_;rintro e w1 ⟨rfl,hx⟩;subst hx;go_wp2_with fail;go_ret2;exact⟨rfl,0,rfl⟩
  |some i=>
   have e:m.reads s=(m.files[i]!.data,0):=cL;rw[e];obtain⟨j,hj,hjt⟩:=qK hg;rw[hj]at hat;have hiF:=hok.nowI _ (mW hg)
   obtain⟨g,cur,rfl,hgS,-,hc⟩:=h.now.cell sO hjt;obtain⟨g2,cur2,rfl,hgS2,-,hc2⟩:=h.files.cell vL (get!_at hiF);have d1:w.cell? ⟨g,j*2+1,none⟩=some (.int .i64 i):=hc 1 aA
   have d2:w.cell? ⟨g2,i*2,none⟩=some (.string m.files[i]!.data):=hc2 0 aA;have hjn:(j:Int)<(m.now.length:Int):=by have:=(List.getElem?_eq_some_iff.1 hjt).1;omega
   have hji:¬(j:Int)<0:=aC;have hj0:(0:Int)≤(j:Int):=aC
   have hii:(i:Int)<(m.files.length:Int):=by have:i<m.files.length:=hiF;omega
   have hi0:(0:Int)≤(i:Int):=aC;have HAT:=hZ hat
   generalize m.files[i]!.data=D at d2⊢;generalize m.now.length=N at c3 hjn HAT⊢;generalize m.files.length=F at c2 hii⊢;clear h hok hc hc2 hgS hgS2 hat hj hjt hiF hg;go_enter Tryz.func67,Tryz.ntmps67;go_wp2_with fail;refine HAT.out.mono ?_;rintro e w1 ⟨rfl,hx⟩;subst hx;go_wp2_with fail;refine pF 15 mC aE ?_;simp only[List.take_succ_cons,List.take_zero,List.drop_succ_cons,List.drop_zero]
   repeat (go_big_quiet_step (fail))
   refine wpQuiet_nil ?_;go_wp2_with fail;go_ret2;exact⟨rfl,1,rfl⟩
structure GathT (w wr:World) (ov:Value) (out:List ByteArray):Prop where
 row:OwnTexts w.heap.size wr ov out
 bel:Below w.heap.size w wr
theorem GathT.app{w wr w1:World}{ov v':Value}{out:List ByteArray}{x:ByteArray}{tmp:Obj}(h:GathT w wr ov out)(hown':w1.ownsRow w.heap.size 9 1 v' (out.length+1) (out.map tJ++[.string x]))(hg:(wr.alloc tmp).grownBy w1 ov.ownBlock):GathT w w1 v' (out++[x]):=by
 refine⟨by unfold OwnTexts;rw[List.length_append,List.map_append];exact hown',?_⟩;refine h.bel.trans (((Below.refl w.heap.size wr).alloc h.bel.size tmp).grown hg (by rw[World.size_alloc];have:=h.bel.size;omega) fun j ej=>?_);rcases h.row.2 with⟨rfl,_⟩|⟨g,cap,cur,rfl,hb',_,_⟩
 ·simp[Value.ownBlock]at ej
 ·obtain rfl:g=j:=by simpa[Value.ownBlock]using ej
  exact hb'
theorem Cb(p:Bs×Nat)(h:ByteArray):mY h p=true↔h.data.toList=p.1.take h.data.toList.length:=by
 unfold mY Lib.hasPrefix;rw[List.isPrefixOf_iff_prefix,List.prefix_iff_eq_take]
theorem FH(p:Bs×Nat)(k:Nat):((mP p).extract 0 k).data.toList=p.1.take k:=by
 rw[ByteArray.data_extract];show(p.1.toArray.extract 0 k).toList=_
 simp
theorem KM{p:Bs×Nat}{h:ByteArray}(_h1:h.size≤(mP p).size)(h2:(mP p).extract 0 h.size=h):mY h p=true:=by
 rw[Cb];have e:=FH p h.size
 rw[h2]at e;exact e
theorem Mb{p:Bs×Nat}{h:ByteArray}(_h1:h.size≤(mP p).size)(h2:¬(mP p).extract 0 h.size=h):mY h p=false:=by
 rw[←Bool.not_eq_true,Cb];intro e;refine h2 (ByteArray.ext (Array.toList_inj.1 ?_));rw[FH];exact e.symm
theorem G5{p:Bs×Nat}{h:ByteArray}(h1:¬h.size≤(mP p).size):mY h p=false:=by
 rw[←Bool.not_eq_true,Cb];intro e;have e2:=congrArg List.length e
 rw[List.length_take]at e2;have e3:h.data.toList.length=h.size:=rfl
 have e4:p.1.length=(mP p).size:=by show _=p.1.toArray.size;rw[List.size_toArray]
 omega
theorem FI{w:World}{r n:Nat}{m:DM}{S:Nat→Prop}(h:RefAt w r n m S)(hd:ByteArray)(hn:n≤2000000000000)(hnm:∀p∈m.now,(mP p).size≤140737488355328)(hhd:hd.size≤140737488355328):
  Calls Tryz.prog 65 #[.pointer (some ⟨r,0,none⟩),.string hd] w fun e w'=>∃u,e=.returned (.tuple #[u,.int .i64 (if m.off then 27 else 0)])∧GathT w w' u (m.lists hd):=by
 obtain⟨⟨fv,nv,sv,pv,kv,ro,h⟩,hok,hfn⟩:=h;obtain⟨c0,-,-,c3,-⟩:=h.cells
 cases ho:m.off with
 |true=>
  have e:m.lists hd=[]:=gF;rw[e];rw[ho]at c0;go_enter Tryz.func65,Tryz.ntmps65;go_wp2_with fail;go_ret2;exact⟨_,rfl,⟨World.ownsRow_nil _ _ _ _,Below.refl _ _⟩⟩
 |false=>
  obtain⟨p,c,rfl⟩:=h.now.form;have e:m.lists hd=(m.now.filter (mY hd)).map mP:=gF
  rw[ho]at c0
  obtain⟨N,hN⟩:∃N,m.now.length=N:=⟨_,rfl⟩
  rw[hN]at c3;have hNn:N≤2000000000000:=by rw[←hN];exact Nat.le_trans hok.nowN hn
  have hNi:(N:Int)≤2000000000000:=aC;have HE:=hZ e
  have HN:=hZ hN;have HNM:=hZ hnm
  have H:=hZ h;have C3:=hZ c3
  have hrl:=h.lt r h.sr;have hhi:(hd.size:Int)≤140737488355328:=aC
  clear h hok e hnm hN c3;obtain⟨i0,hi,hz0,hz1,hz2⟩:=info_parts CP;go_enter Tryz.func65,Tryz.ntmps65;go_wp2_with fail;go_loopw [6,7] (fun ov iv wr=>∃i:Nat,i≤N∧iv=.int .i64 i∧Hid (GathT w wr ov (((m.now.take i).filter (mY hd)).map mP))) (fun _ iv _=>N-(intOf iv).toNat)
  case atStart=>exact⟨0,Nat.zero_le _,rfl,hZ ⟨World.ownsRow_nil _ _ _ _,Below.refl _ _⟩⟩
  case round=>
   obtain⟨i,hi',rfl,HGt⟩:=hrel;have c3:=(HGt.out.bel.cell (p:=⟨r,3,none⟩) hrl).trans C3.out
   by_cases hlt:(i:Int)<(N:Int)
   ·obtain⟨q,hq⟩:∃q,m.now[i]?=some q:=⟨_,List.getElem?_eq_getElem (i:=i) eB⟩
    obtain⟨g,cur,rfl,hgS,-,hc⟩:=H.out.now.cell sO hq;have d0:wr.cell? ⟨g,i*2,none⟩=some (.string (mP q)):=(HGt.out.bel.cell (p:=⟨g,i*2,none⟩) (H.out.lt g hgS)).trans (hc 0 aA)
    have hqs:=HNM.out q (List.mem_of_getElem? hq);have hqi:((mP q).size:Int)≤140737488355328:=aC
    have htk:m.now.take (i+1)=m.now.take i++[q]:=by
     obtain⟨h1,rfl⟩:=List.getElem?_eq_some_iff.1 hq;exact jQ
    have htd:((m.now.take (i+1)).filter (mY hd)).map mP=((m.now.take i).filter (mY hd)).map mP++(if mY hd q then [mP q]else []):=by
     rw[htk,List.filter_append,List.map_append]
     congr 1
     cases hh:mY hd q with
     |true=>rw[List.filter_cons_of_pos hh,if_pos rfl];rfl
     |false=>rw[List.filter_cons_of_neg (by rw[hh];exact Bool.false_ne_true),if_neg Bool.false_ne_true];rfl
    have hln:(((m.now.take i).filter (mY hd)).map mP).length≤i:=by
     rw[List.length_map];exact Nat.le_trans (List.length_filter_le _ _) fP
    have HT:=hZ htd;have hy:=KM (p:=q) (h:=hd)
    have hno:=Mb (p:=q) (h:=hd);have hsh:=G5 (p:=q) (h:=hd)
    have HY:=hZ (And.intro hy (And.intro hno hsh));generalize ((m.now.take i).filter (mY hd)).map mP=out at HGt hln HT;generalize mY hd q=hh at HT HY;clear hq hgS hc htk htd hqs hy hno hsh;generalize mP q=nm at d0 hqi HT HY;have hsz:=HGt.out.bel.size
    have hn0:(0:Int)≤(hd.size:Int):=aC;by_cases hle:(hd.size:Int)≤(nm.size:Int)
    ·by_cases heq:nm.extract 0 hd.size=hd
     ·obtain rfl:hh=true:=HY.out.1 aC heq;have HTE:=hZ (show((m.now.take (i+1)).filter (mY hd)).map mP=out++[nm]from HT.out)
      have hrow:=HGt.out.row;unfold OwnTexts at hrow;have HO:=hZ hrow
      clear hrow HT HY;go_wp2_with (at_builtin;refine wpList_append_own _ rfl _ _ 31 rfl w.heap.size 9 i0 (.string ⟨#[]⟩) 1 16 Tryz.underlying31 hi hz0 hz1 hz2 rfl aA _ _ _ rfl (HO.out.alloc _) ⟨wr.heap.size,0,none⟩ 1 1 [.string nm] rfl rfl (fun i u h=>BI i u h) iH cT aC cO ?_;intro v' w1 hown' hgrow _;have HA:=hZ (HGt.out.app hown' hgrow);clear hown' hgrow);go_roundw
      case rel=>exact⟨i+1,aC,aG,hZ (by rw[HTE.out];exact HA.out)⟩
      case measure=>simp[intOf];omega
     ·obtain rfl:hh=false:=HY.out.2.1 aC heq;have HTE:=hZ (show((m.now.take (i+1)).filter (mY hd)).map mP=out from HT.out.trans (List.append_nil _))
      have hb:=wJ heq;clear HT HY;go_wp2_with fail
      case roundEnd=>exact⟨⟨i+1,aC,aG,hZ (by rw[HTE.out];exact HGt.out)⟩,cN⟩
    ·obtain rfl:hh=false:=HY.out.2.2 aC;have HTE:=hZ (show((m.now.take (i+1)).filter (mY hd)).map mP=out from HT.out.trans (List.append_nil _))
     clear HT HY;go_wp2_with fail
     case roundEnd=>exact⟨⟨i+1,aC,aG,hZ (by rw[HTE.out];exact HGt.out)⟩,cN⟩
   ·obtain rfl:i=N:=by omega
    have hG:=HGt.out;rw[List.take_of_length_le bA,←HE.out]at hG;have HG2:=hZ hG
    clear hG HGt;go_wp2_with fail;go_ret2;exact⟨_,rfl,HG2.out⟩
theorem Nh:(Tryz.prog.info? 3).map (fun i=>(i.zero,i.size,i.bytes))=some (some (.int .i64 0),1,8):=aE
structure GathI (w wr:World) (ov:Value) (out:List Int):Prop where
 row:wr.ownsRow w.heap.size 3 1 ov out.length (out.map (Value.int .i64))
 bel:Below w.heap.size w wr
theorem GathI.app{w wr w1:World}{ov v':Value}{out:List Int}{x:Int}{tmp:Obj}(h:GathI w wr ov out)(hown':w1.ownsRow w.heap.size 3 1 v' (out.length+1) (out.map (Value.int .i64)++[.int .i64 x]))(hg:(wr.alloc tmp).grownBy w1 ov.ownBlock):GathI w w1 v' (out++[x]):=by
 refine⟨by rw[List.length_append,List.map_append];exact hown',?_⟩;refine h.bel.trans (((Below.refl w.heap.size wr).alloc h.bel.size tmp).grown hg (by rw[World.size_alloc];have:=h.bel.size;omega) fun j ej=>?_);rcases h.row.2 with⟨rfl,_⟩|⟨g,cap,cur,rfl,hb',_,_⟩
 ·simp[Value.ownBlock]at ej
 ·obtain rfl:g=j:=by simpa[Value.ownBlock]using ej
  exact hb'
theorem Aj{S:Nat→Prop}{w:World}{kv:Value}{ks:List Int}(h:IntsRd S w kv ks)(hl:ks.length≤17592186044416):
  Calls Tryz.prog 121 #[kv] w fun e w'=>∃u,e=.returned u∧GathI w w' u ks:=by
 obtain⟨p,c,rfl,-,hk⟩:=h
 obtain⟨N,hN⟩:∃N,ks.length=N:=⟨_,rfl⟩
 rw[hN]at hl⊢;have hNi:(N:Int)≤17592186044416:=aC
 have HK:=hZ hk;have HN:=hZ hN
 clear hk hN hl;obtain⟨i0,hi,hz0,hz1,hz2⟩:=info_parts Nh;go_enter Tryz.func121,Tryz.ntmps121;go_wp2_with fail;go_loopw [3,4] (fun ov iv wr=>∃i:Nat,i≤N∧iv=.int .i64 i∧Hid (GathI w wr ov (ks.take i))) (fun _ iv _=>N-(intOf iv).toNat)
 case atStart=>exact⟨0,Nat.zero_le _,rfl,hZ ⟨World.ownsRow_nil _ _ _ _,Below.refl _ _⟩⟩
 case round=>
  obtain⟨i,hi',rfl,HGt⟩:=hrel;have hsz:=HGt.out.bel.size
  by_cases hlt:(i:Int)<(N:Int)
  ·obtain⟨q,hq⟩:∃q,ks[i]?=some q:=⟨_,List.getElem?_eq_getElem (i:=i) eB⟩
   obtain⟨-,b,off,rfl,hc,hb,-⟩:=HK.out i q hq;have d0:wr.cell? ⟨b,off+i,none⟩=some (.int .i64 q):=(HGt.out.bel.cell (p:=⟨b,off+i,none⟩) hb).trans hc
   have htk:ks.take (i+1)=ks.take i++[q]:=by
    obtain⟨h1,rfl⟩:=List.getElem?_eq_some_iff.1 hq;exact jQ
   have hln:(ks.take i).length≤i:=fP;have HT:=hZ htk
   generalize ks.take i=out at HGt hln HT;have HO:=hZ HGt.out.row
   clear hq hc hb htk;go_wp2_with (at_builtin;refine wpList_append_own _ rfl _ _ 51 rfl w.heap.size 3 i0 (.int .i64 0) 1 8 Tryz.underlying51 hi hz0 hz1 hz2 rfl aA _ _ _ rfl (HO.out.alloc _) ⟨wr.heap.size,0,none⟩ 1 1 [.int .i64 q] rfl rfl (fun i u h=>BI i u h) iH cT aC cO ?_;intro v' w1 hown' hgrow _;have HA:=hZ (HGt.out.app hown' hgrow);clear hown' hgrow);go_roundw
   case rel=>exact⟨i+1,aC,aG,hZ (by rw[HT.out];exact HA.out)⟩
   case measure=>simp[intOf];omega
  ·obtain rfl:i=N:=by omega
   have hG:=HGt.out;rw[List.take_of_length_le bA]at hG;have HG2:=hZ hG
   clear hG HGt;go_wp2_with fail;go_ret;exact⟨_,rfl,HG2.out⟩
theorem GathI.own{S:Nat→Prop}{w w1 w2:World}{u:Value}{ks:List Int}(h:GathI w1 w2 u ks)(hz:w.heap.size≤w1.heap.size):IntsOwn (mU S w w2) w2 u ks:=by
 have hr:=h.row;refine⟨⟨hr.1,?_⟩,fun b hb=>?_⟩
 ·rcases hr.2 with h2|⟨g,cap,cur,h1,h2,h3⟩
  ·exact .inl h2
  ·exact .inr ⟨g,cap,cur,h1,Nat.zero_le _,h3⟩
 ·rcases hr.2 with⟨rfl,-⟩|⟨g,cap,cur,rfl,h2,h3,-⟩
  ·cases hb
  ·obtain rfl:g=b:=by simpa[Value.ownBlock]using hb
   exact .inr ⟨aC,lH h3⟩
theorem GathI.form{w1 w2:World}{u:Value}{ks:List Int}(h:GathI w1 w2 u ks):∃p c,u=.slice p ks.length c:=by
 rcases h.row.2 with⟨rfl,h2⟩|⟨g,cap,cur,rfl,-⟩
 ·exact⟨none,0,by rw[h2]⟩
 ·exact⟨_,_,rfl⟩
theorem tY{S:Nat→Prop}{w w1 w2:World}(hz:w1.heap.size≤w2.heap.size):∀b,mU S w w1 b→mU S w w2 b:=by
 rintro b (h|⟨h,h'⟩)
 ·exact .inl h
 ·exact .inr ⟨h,aC⟩
theorem G6{w:World}{r n:Nat}{m:DM}{S:Nat→Prop}(h:RefAt w r n m S)(x:Int)(kv:Value)(ks:List Int)(hk:IntsRd S w kv ks)(hl:ks.length*8≤140737488355328)(hx:x≤9223372036854775807):
  Calls Tryz.prog 122 #[.pointer (some ⟨r,0,none⟩),.int .i64 x,kv] w fun e w'=>e=.returned (.tuple #[])∧nM r n (m.arm x ks) S w w':=by
 obtain⟨⟨fv,nv,sv,pv,kv0,ro,h⟩,hok,hfn⟩:=h;obtain⟨c0,-,c2,c3,-,-,c6,c7⟩:=h.cells;have f6:w.frozen? ⟨r,6,none⟩=false:=lI h.head
 have hmx:(max x 0:Int)=max x 0:=rfl;have h1:=h.set (m':={m with armed:=max x 0}) 6 (.int .i64 (max x 0)) rfl rfl rfl rfl rfl rfl
 have hk1:IntsRd S (w.setCell ⟨r,6,none⟩ (.int .i64 (max x 0))) kv ks:=hk.keep bD (fun _ h _=>h) (fun b hb hS=>Below.heap_setCell _ _ _ _ (fun e=>by
  have e:b=r:=e;subst e;rcases hS with hS|⟨cs,fz,hS⟩
  ·exact hS h.sr
  ·rw[h.head]at hS;cases hS))
 have HC:=hZ (Aj hk1 aC);have H:=hZ h
 have H1:=hZ h1
 have hki:∀k∈ks,-9223372036854775808≤k∧k≤9223372036854775807:=fun k hk'=>by
  obtain⟨p,c,-,-,hh⟩:=hk;obtain⟨j,hj⟩:=List.getElem?_of_mem hk';exact(hh j k hj).1
 have hok2:(m.arm x ks).Ok n:={hok with arm0:=(by show(0:Int)≤max x 0;omega),arm1:=(by show max x 0≤9223372036854775807;omega),keepI:=hki}
 clear h h1 hk hk1;go_enter Tryz.func122,Tryz.ntmps122;go_wp2_with fail;refine HC.out.mono ?_;rintro e w2 ⟨u,rfl,hg⟩;obtain⟨up,uc,hu⟩:=hg.form
 obtain⟨w1,hw1⟩:∃w1,w.setCell ⟨r,6,none⟩ (.int .i64 (max x 0))=w1:=⟨_,rfl⟩
 have hz1:w1.heap.size=w.heap.size:=by rw[←hw1];exact World.size_setCell _ _ _
 rw[hw1]at H1 hg;have h2:=H1.out.frame (w':=w2) (fun b hb=>hg.bel.block b (H1.out.lt b hb)) hg.bel.size
 have f7:w2.frozen? ⟨r,7,none⟩=false:=lI h2.head;have c7:w2.cell? ⟨r,7,none⟩=some kv0:=lF h2.head
 have HG:=hZ hg;have H2:=hZ h2
 have HW1:=hZ hw1;clear hg h2 hw1;rw[hu];go_wp2_with fail;rw[←hu];go_end0;have h2:=H2.out
 have hoff:Off S w w2:=by
  have o1:Off S w w1:=by rw[←HW1.out];exact(Off.refl S w).setCell _ _ (fun _=>H.out.sr)
  exact o1.below HG.out.bel iU
 have hg1:∀b,mU S w w1 b→S b:=by
  rintro b (hb|⟨hb,hb2⟩)
  ·exact hb
  ·omega
 have hk2:=h2.setKeep 7 u;have hz2:(w2.setCell ⟨r,7,none⟩ u).heap.size=w2.heap.size:=World.size_setCell _ _ _
 have hgg:∀b,mU (mU S w w1) w2 (w2.setCell ⟨r,7,none⟩ u) b→mU S w (w2.setCell ⟨r,7,none⟩ u) b:=by
  rintro b (hb|⟨hb,hb2⟩)
  ·exact .inl (hg1 b hb)
  ·omega
 have hne:∀b,u.ownBlock=some b→b≠r:=fun b hb e=>by
  have:=(HG.out.own (S:=S) (w:=w) iU).2 b hb;rcases HG.out.row.2 with⟨rfl,-⟩|⟨g,cap,cur,rfl,h2',h3,-⟩
  ·cases hb
  ·obtain rfl:g=b:=by simpa[Value.ownBlock]using hb
   subst e;have:=H.out.lt _ H.out.sr
   omega
 have hown:IntsOwn (mU S w (w2.setCell ⟨r,7,none⟩ u)) (w2.setCell ⟨r,7,none⟩ u) u ks:=by
  have ho:=HG.out.own (S:=S) (w:=w) iU;refine⟨uK (S:=fun b=>u.ownBlock=some b) ho.1 (fun b hb=>hb) (fun b cs hb _=>Below.heap_setCell _ _ _ _ (hne b hb)),fun b hb=>?_⟩;rcases ho.2 b hb with h|⟨h,h'⟩
  ·exact .inl h
  ·exact .inr ⟨h,by rw[hz2];exact h'⟩
 refine⟨rfl,⟨⟨fv,nv,sv,pv,u,ro,⟨h2.headSet 7 u rfl,.inl H.out.sr,(h2.filesG hk2 aA).sup hgg,(h2.nowG hk2 aA).sup hgg,(h2.safeG hk2 aA).sup hgg,(h2.pendG hk2 aA).sup hgg,H.out.pendE,H.out.opsF,hown,?_⟩⟩,hok2,hfn⟩,hoff.setCell _ _ (fun _=>H.out.sr)⟩;rintro b (hb|⟨_,hb⟩)
 ·rw[hz2];exact Nat.lt_of_lt_of_le (H.out.lt b hb) hoff.size
 ·exact hb
def mV(o:ROp)(s:ByteArray):DCall:=
 if o.kind=1 then .create o.name else if o.kind=2 then .write o.name s else if o.kind=3 then .sync o.name else if o.kind=4 then .rename o.old o.name else if o.kind=5 then .remove o.name else .flush
theorem G7{P:Program}{f:FuncId}{args:Array Value}{W:World}{a x:Nat}{v:Value}(h:Calls P f args (W.drewN (a+x)) fun e w'=>e=.returned v∧∃q,w'=(W.drewN (a+x)).drewN q):Calls P f args (W.drewN (a+x)) fun e w''=>e=.returned v∧∃n,w''=W.drewN (a+n):=
 h.mono fun _ _ ⟨he,q,hq⟩=>⟨he,x+q,by rw[hq,World.drewN_drewN,Nat.add_assoc]⟩
theorem G8{P:Program}{f:FuncId}{args:Array Value}{W:World}{a x:Nat}{v:Value}(h:Calls P f args (W.drewN (a+x)) fun e w'=>e=.returned v∧w'=W.drewN (a+x)):Calls P f args (W.drewN (a+x)) fun e w''=>e=.returned v∧∃n,w''=W.drewN (a+n):=
 h.mono fun _ _ ⟨he,hq⟩=>⟨he,x,hq⟩
theorem G9{B:Nat}{w W:World}{q:Nat}(h:Below B w W):Below B w (W.drewN q):=⟨h.os,h.tape,h.output,h.size,h.block⟩
theorem qV{w:World}{r n:Nat}{m:DM}{S:Nat→Prop}(h:RefAt w r n m S)(o:ROp)(s:ByteArray)(hk1:1≤o.kind)(hk2:o.kind≤6)(hn:n*m.room≤4611686018427387904)(hn2:n≤2000000000000)(hs:s.size≤140737488355328):
  Calls Tryz.prog 156 #[.pointer (some ⟨r,0,none⟩),.agg (oE o),.string s] w fun e w'=>e=.returned (.int .i64 (m.refused (mV o s)))∧Below w.heap.size w w':=by
 obtain⟨kind,old,name,file⟩:=o;have hk1:1≤kind:=hk1
 have hk2:kind≤6:=hk2;have hb0:=(Below.refl w.heap.size w).alloc (Nat.le_refl _) (.cells #[.int .i64 kind,.string old,.string name,.int .i64 file] 175)
 have h1:=h.below hb0;have hbx:=lP w (.cells #[.int .i64 kind,.string old,.string name,.int .i64 file] 175)
 have HB:=hZ hb0;have hu:=fun q:Nat=>FF (h1.below (w':=(w.alloc (.cells #[.int .i64 kind,.string old,.string name,.int .i64 file] 175)).drewN q) ⟨rfl,rfl,rfl,Nat.le_refl _,fun _ _=>rfl⟩) hn hn2
 show Calls _ _ #[.pointer (some ⟨r,0,none⟩),.agg #[.int .i64 kind,.string old,.string name,.int .i64 file],.string s] w _;generalize hW:w.alloc (.cells #[.int .i64 kind,.string old,.string name,.int .i64 file] 175)=W at h1 hbx HB hu;obtain⟨⟨fv,nv,sv,pv,kv,ro,h2⟩,hok,hfn⟩:=h1;obtain⟨-,d1,-,d3,-⟩:=h2.cells;have c0:W.cell? ⟨w.heap.size,0,none⟩=some (.int .i64 kind):=lF hbx
 have c1:W.cell? ⟨w.heap.size,1,none⟩=some (.string old):=lF hbx;have c2:W.cell? ⟨w.heap.size,2,none⟩=some (.string name):=lF hbx
 obtain⟨p,c,rfl⟩:=h2.now.form;have hat:=fun(x:ByteArray) (q:Nat)=>wK (w:=W.drewN q) (h2.now.keep (fun _ _ _ _=>rfl)) x (Nat.le_trans hok.nowN aC)
 have hat2:∀(x:ByteArray) (q:Nat),Calls Tryz.prog 124 #[.slice p m.now.length c,.string x] (W.drewN q) fun e w'=>e=.returned (.int .i64 (zT m.now x.data.toList))∧w'=W.drewN q:=fun x q=>(hat x q).mono (fun e w' hp=>⟨hp.1,hp.2.symm⟩)
 have hrt:=fun(x:ByteArray) (q:Nat)=>Eo x (W.drewN q)
 have HAT:=hZ hat2;have HU:=hZ hu
 have HR:=hZ hrt
 have hused:(m.used:Int)≤4611686018427387904:=by
  have hle:=sA m.files m.room m.now (fun p hp=>(hok.file _ (get!_mem (hok.nowI p hp))).2);have hle2:lU m.files m.now≤4611686018427387904:=Nat.le_trans hle (Nat.le_trans (Nat.mul_le_mul_right _ hok.nowN) hn)
  unfold DM.used;split<;>omega
 obtain⟨N,hN⟩:∃N,m.now.length=N:=⟨_,rfl⟩
 rw[hN]at d3 HAT;have hroomi:(m.room:Int)≤268435456:=by have:=hok.room;omega
 clear h h2 hat hat2 hrt hu hok hbx;have hway:kind=1∨kind=2∨kind=3∨kind=4∨kind=5∨kind=6:=aC
 rcases hway with rfl|rfl|rfl|rfl|rfl|rfl
 ·cases hr:oA name with
  |false=>
   have HV:=hZ (show m.refused (mV ⟨1,old,name,file⟩ s)=8 by show(if oA name then _ else(8:Int))=8;rw[hr];rfl);have HR2:=HR.out name
   rw[hr]at HR2;have HR:=hZ (fun(x:ByteArray) (q:Nat)=>HR2 q)
   clear HR2 hr;go_enter Tryz.func156,Tryz.ntmps156;go_wp2_with fail;go_quiet ((go_at_call 124;exact Calls.quiet_of_same (HAT.out name _)));rename_i nq;go_wp2_with fail;refine(HR.out name _).mono ?_;rintro e w1 ⟨rfl,hx⟩;subst hx;go_wp2_with fail;go_ret;exact aJ
  |true=>
   have HR2:=HR.out name;rw[hr]at HR2;have HR:=hZ (fun(x:ByteArray) (q:Nat)=>HR2 q)
   clear HR2;have hat1:=HAT.out name
   cases hg:lS m.now name.data.toList with
   |none=>
    have HV:=hZ (show m.refused (mV ⟨1,old,name,file⟩ s)=0 by show(if oA name then(if(lS m.now name.data.toList).isSome then(11:Int)else 0)else 8)=0;rw[hr,hg];rfl);rw[rJ hg]at hat1;have HAT:=hZ (fun(x:ByteArray) (q:Nat)=>hat1 q)
    clear hat1 hg hr;go_enter Tryz.func156,Tryz.ntmps156;go_wp2_with fail;go_quiet ((go_at_call 124;exact Calls.quiet_of_same (HAT.out name _)));rename_i nq;go_wp2_with fail;refine(HR.out name _).mono ?_;rintro e w1 ⟨rfl,hx⟩;subst hx;go_wp2_with fail;go_ret;exact aJ
   |some i=>
    have HV:=hZ (show m.refused (mV ⟨1,old,name,file⟩ s)=11 by show(if oA name then(if(lS m.now name.data.toList).isSome then(11:Int)else 0)else 8)=11;rw[hr,hg];rfl);obtain⟨j,hj,-⟩:=qK hg;rw[hj]at hat1;have hj0:(0:Int)≤(j:Int):=aC
    have HAT:=hZ (fun(x:ByteArray) (q:Nat)=>hat1 q);clear hat1 hg hr hj;go_enter Tryz.func156,Tryz.ntmps156;go_wp2_with fail;go_quiet ((go_at_call 124;exact Calls.quiet_of_same (HAT.out name _)));rename_i nq;go_wp2_with fail;refine(HR.out name _).mono ?_;rintro e w1 ⟨rfl,hx⟩;subst hx;go_wp2_with fail;go_ret;exact aJ
 ·have hat1:=HAT.out name
  cases hg:lS m.now name.data.toList with
  |none=>
   have HV:=hZ (show m.refused (mV ⟨2,old,name,file⟩ s)=10 by show(if(lS m.now name.data.toList).isSome then _ else(10:Int))=10;rw[hg];rfl);rw[rJ hg]at hat1;have HAT:=hZ (fun(x:ByteArray) (q:Nat)=>hat1 q)
   clear hat1 hg;go_enter Tryz.func156,Tryz.ntmps156;go_wp2_with fail;go_quiet ((go_at_call 124;exact Calls.quiet_of_same (HAT.out name _)));rename_i nq;go_wp2_with fail;go_ret;exact aJ
  |some i=>
   obtain⟨j,hj,-⟩:=qK hg;rw[hj]at hat1;have hj1:¬(j:Int)<0:=aC
   have HAT:=hZ (fun(x:ByteArray) (q:Nat)=>hat1 q);have hus:=hused
   have huz:(0:Int)≤(m.used:Int):=aC;have hss:(s.size:Int)≤140737488355328:=aC
   have hss0:(0:Int)≤(s.size:Int):=aC;have hsum:(m.used:Int)+(s.size:Int)≤4611826755916743232:=aC
   have hrd:∀q,((W.drewN q).cell? ⟨r,1,none⟩)=some (.int .i64 m.room):=fun _=>d1
   have HG:=hZ hg;clear hat1 hg hj;have hle:(m.room:Int)<(m.used:Int)+(s.size:Int)∨¬(m.room:Int)<(m.used:Int)+(s.size:Int):=Decidable.em _
   rcases hle with hle|hle
   ·have HV:=hZ (show m.refused (mV ⟨2,old,name,file⟩ s)=28 by show(if(lS m.now name.data.toList).isSome then(if m.used+s.size>m.room then(28:Int)else 0)else 10)=28;rw[HG.out];show(if m.used+s.size>m.room then(28:Int)else 0)=28;rw[if_pos aC]);generalize m.used=U at hus huz hsum hle HU;generalize m.room=R at d1 hrd hle hroomi;go_enter Tryz.func156,Tryz.ntmps156;go_wp2_with fail;go_quiet ((go_at_call 124;exact Calls.quiet_of_same (HAT.out name _)));rename_i nq;go_wp2_with fail;go_quiet ((go_at_call 186;exact G7 (HU.out (nq+_))));rename_i nr;go_wp2_with fail;go_ret;exact aJ
   ·have HV:=hZ (show m.refused (mV ⟨2,old,name,file⟩ s)=0 by show(if(lS m.now name.data.toList).isSome then(if m.used+s.size>m.room then(28:Int)else 0)else 10)=0;rw[HG.out];show(if m.used+s.size>m.room then(28:Int)else 0)=0;rw[if_neg aC]);generalize m.used=U at hus huz hsum hle HU;generalize m.room=R at d1 hrd hle hroomi;go_enter Tryz.func156,Tryz.ntmps156;go_wp2_with fail;go_quiet ((go_at_call 124;exact Calls.quiet_of_same (HAT.out name _)));rename_i nq;go_wp2_with fail;go_quiet ((go_at_call 186;exact G7 (HU.out (nq+_))));rename_i nr;go_wp2_with fail;go_ret;exact aJ
 ·have hat1:=HAT.out name
  cases hg:lS m.now name.data.toList with
  |none=>
   have HV:=hZ (show m.refused (mV ⟨3,old,name,file⟩ s)=10 by show(if(lS m.now name.data.toList).isSome then(0:Int)else 10)=10;rw[hg];rfl);rw[rJ hg]at hat1;have HAT:=hZ (fun(x:ByteArray) (q:Nat)=>hat1 q)
   clear hat1 hg;go_enter Tryz.func156,Tryz.ntmps156;go_wp2_with fail;go_quiet ((go_at_call 124;exact Calls.quiet_of_same (HAT.out name _)));rename_i nq;go_wp2_with fail;go_ret;exact aJ
  |some i=>
   have HV:=hZ (show m.refused (mV ⟨3,old,name,file⟩ s)=0 by show(if(lS m.now name.data.toList).isSome then(0:Int)else 10)=0;rw[hg];rfl);obtain⟨j,hj,-⟩:=qK hg;rw[hj]at hat1;have hj1:¬(j:Int)<0:=aC
   have HAT:=hZ (fun(x:ByteArray) (q:Nat)=>hat1 q);clear hat1 hg hj;go_enter Tryz.func156,Tryz.ntmps156;go_wp2_with fail;go_quiet ((go_at_call 124;exact Calls.quiet_of_same (HAT.out name _)));rename_i nq;go_wp2_with fail;go_ret;exact aJ
 ·have hat1:=HAT.out old
  cases hg:lS m.now old.data.toList with
  |none=>
   have HV:=hZ (show m.refused (mV ⟨4,old,name,file⟩ s)=10 by show(if(lS m.now old.data.toList).isSome then _ else(10:Int))=10;rw[hg];rfl);rw[rJ hg]at hat1;have HAO:=hZ hat1
   clear hat1 hg;go_enter Tryz.func156,Tryz.ntmps156;go_wp2_with fail;go_quiet ((go_at_call 124;exact Calls.quiet_of_same (HAT.out name _)));rename_i nq;go_wp2_with fail;go_quiet ((go_at_call 124;exact G8 (HAO.out (nq+_))));rename_i nr;go_wp2_with fail;go_ret;exact aJ
  |some i=>
   obtain⟨j,hj,-⟩:=qK hg;rw[hj]at hat1;have hj1:¬(j:Int)<0:=aC
   have HAO:=hZ hat1;have HR2:=HR.out name
   cases hr:oA name with
   |false=>
    have HV:=hZ (show m.refused (mV ⟨4,old,name,file⟩ s)=8 by show(if(lS m.now old.data.toList).isSome then(if oA name then(0:Int)else 8)else 10)=8;rw[hg,hr];rfl);rw[hr]at HR2;have HR:=hZ HR2
    clear HR2 hr hg hj hat1;go_enter Tryz.func156,Tryz.ntmps156;go_wp2_with fail;go_quiet ((go_at_call 124;exact Calls.quiet_of_same (HAT.out name _)));rename_i nq;go_wp2_with fail;go_quiet ((go_at_call 124;exact G8 (HAO.out (nq+_))));rename_i nr;go_wp2_with fail;refine(HR.out _).mono ?_;rintro e w1 ⟨rfl,hx⟩;subst hx;go_wp2_with fail;go_ret;exact aJ
   |true=>
    have HV:=hZ (show m.refused (mV ⟨4,old,name,file⟩ s)=0 by show(if(lS m.now old.data.toList).isSome then(if oA name then(0:Int)else 8)else 10)=0;rw[hg,hr];rfl);rw[hr]at HR2;have HR:=hZ HR2
    clear HR2 hr hg hj hat1;go_enter Tryz.func156,Tryz.ntmps156;go_wp2_with fail;go_quiet ((go_at_call 124;exact Calls.quiet_of_same (HAT.out name _)));rename_i nq;go_wp2_with fail;go_quiet ((go_at_call 124;exact G8 (HAO.out (nq+_))));rename_i nr;go_wp2_with fail;refine(HR.out _).mono ?_;rintro e w1 ⟨rfl,hx⟩;subst hx;go_wp2_with fail;go_ret;exact aJ
 ·have hat1:=HAT.out name
  cases hg:lS m.now name.data.toList with
  |none=>
   have HV:=hZ (show m.refused (mV ⟨5,old,name,file⟩ s)=10 by show(if(lS m.now name.data.toList).isSome then(0:Int)else 10)=10;rw[hg];rfl);rw[rJ hg]at hat1;have HAT:=hZ (fun(x:ByteArray) (q:Nat)=>hat1 q)
   clear hat1 hg;go_enter Tryz.func156,Tryz.ntmps156;go_wp2_with fail;go_quiet ((go_at_call 124;exact Calls.quiet_of_same (HAT.out name _)));rename_i nq;go_wp2_with fail;go_ret;exact aJ
  |some i=>
   have HV:=hZ (show m.refused (mV ⟨5,old,name,file⟩ s)=0 by show(if(lS m.now name.data.toList).isSome then(0:Int)else 10)=0;rw[hg];rfl);obtain⟨j,hj,-⟩:=qK hg;rw[hj]at hat1;have hj1:¬(j:Int)<0:=aC
   have HAT:=hZ (fun(x:ByteArray) (q:Nat)=>hat1 q);clear hat1 hg hj;go_enter Tryz.func156,Tryz.ntmps156;go_wp2_with fail;go_quiet ((go_at_call 124;exact Calls.quiet_of_same (HAT.out name _)));rename_i nq;go_wp2_with fail;go_ret;exact aJ
 ·have HV:=hZ (show m.refused (mV ⟨6,old,name,file⟩ s)=0 from rfl);go_enter Tryz.func156,Tryz.ntmps156;go_wp2_with fail;go_quiet ((go_at_call 124;exact Calls.quiet_of_same (HAT.out name _)));rename_i nq;go_wp2_with fail;go_ret;exact aJ
structure FailW (wr:World) (r:Nat) (S:Nat→Prop) (t':Tab) (L:Nat→Bool) (γ:Value) (W:World):Prop where
 bel:L 15=false→Below wr.heap.size wr W
 one:L 12=true→L 15=false→oB (mU S wr W) W γ t'
 fin:L 15=true→∃W0,Below wr.heap.size wr W0∧oB (mU S wr W0) W0 γ t'∧W=W0.setCell ⟨r,4,none⟩ γ
 c15:L 15=true→∀j,j<15→L j=true
 c14:L 14=true→L 13=true
section
variable {wr W W':World} {r:Nat} {S:Nat→Prop} {t':Tab} {L:Nat→Bool} {γ u:Value}
theorem FailW.off(h:FailW wr r S t' L γ W){i:Nat}(hL:L i=false)(hi:i<15):L 15=false:=by
 cases hx:L 15 with
 |false=>rfl
 |true=>rw[h.c15 hx i hi]at hL;cases hL
theorem FailW.same(h:FailW wr r S t' L γ W){i:Nat}(hL:L i=false)(hi:i<15)(b j:Nat)(hb:b<wr.heap.size):W.cell? ⟨b,j,none⟩=wr.cell? ⟨b,j,none⟩:=lK ((h.bel (h.off hL hi)).block b hb)
theorem FailW.upd(h:FailW wr r S t' L γ W)(k:Nat)(h1:k≠12)(h2:k≠15)(h3:k=14→L 13=true):FailW wr r S t' (mQ L k) γ W:=
 ⟨fun hx=>h.bel iA,fun hx hy=>h.one (mZ hx (Ne.symm h1)) hY,fun hx=>h.fin (mZ hx (Ne.symm h2)),fun hx j hj=>by
  unfold mQ;rw[h.c15 (mZ hx (Ne.symm h2)) j hj]
  rfl,fun hx=>by
  by_cases e:k=14
  ·unfold mQ;rw[h3 e];rfl
  ·unfold mQ;rw[h.c14 (mZ hx (Ne.symm e))];rfl⟩
theorem FailW.called(h:FailW wr r S t' L γ W)(hL:L 12=false)(hg:oB (mU S W W') W' u t')(hb:Below W.heap.size W W'):FailW wr r S t' (mQ L 12) u W':=by
 have h15:=h.off hL aA;have hbel:=h.bel h15
 refine⟨fun _=>hbel.trans (hb.mono hbel.size),fun _ _=>?_,fun hx=>?_,fun hx=>?_,fun hx=>?_⟩
 ·refine hg.sup (fun b hb2=>?_);have hz:=hbel.size
  rcases hb2 with hb2|⟨hb2,hb3⟩
  ·exact .inl hb2
  ·exact .inr ⟨aC,hb3⟩
 ·have:=mZ hx aA;rw[h15]at this;cases this
 ·have:=mZ hx aA;rw[h15]at this;cases this
 ·exact(mB aA).trans (h.c14 (mZ hx aA))
theorem FailW.stored(h:FailW wr r S t' L γ W)(h15:L 15=false)(h12:L 12=true)(hall:∀j,j<15→L j=true):FailW wr r S t' (mQ L 15) γ (W.setCell ⟨r,4,none⟩ γ):=
 ⟨fun hx=>fR,fun _ hx=>fR,fun _=>⟨W,h.bel h15,h.one h12 h15,rfl⟩,fun _ j hj=>(by unfold mQ;rw[hall j hj];rfl),fun _=>(mB aA).trans (hall 13 aA)⟩
end
section
variable {w w':World} {r n:Nat} {m:DM} {S:Nat→Prop} {fv nv sv pv kv:Value} {ro:List ROp}
theorem RefRaw.newSafe(h:RefRaw w r m S fv nv sv pv kv ro){W0:World}{u:Value}{t:Tab}(hb:Below w.heap.size w W0)(hl:oB (mU S w W0) W0 u t):
  RefRaw (W0.setCell ⟨r,4,none⟩ u) r {m with safe:=t} (mU S w (W0.setCell ⟨r,4,none⟩ u)) fv nv u pv kv ro:=by
 have h0:=h.frame (fun b hS=>hb.block b (h.lt b hS)) hb.size;have hz:(W0.setCell ⟨r,4,none⟩ u).heap.size=W0.heap.size:=World.size_setCell _ _ _
 have hk:=h0.setKeep 4 u
 have hup:∀b,mU S W0 (W0.setCell ⟨r,4,none⟩ u) b→mU S w (W0.setCell ⟨r,4,none⟩ u) b:=by
  rintro b (hS|⟨h1,h2⟩)
  ·exact .inl hS
  ·omega
 refine⟨h0.headSet 4 u rfl,.inl h.sr,(h0.filesG hk aA).sup hup,(h0.nowG hk aA).sup hup,?_,(h0.pendG hk aA).sup hup,h.pendE,h.opsF,⟨(h0.keepG hk aA).1,fun b hS=>hup b ((h0.keepG hk aA).2 b hS)⟩,h.growLt (by rw[hz];exact hb.size)⟩;refine(hl.keep (fun b cur _ hc=>Below.heap_setCell _ _ _ _ (fun e=>?_))).sup (fun b hS=>?_)
 ·have e:b=r:=e;subst e;rw[h0.head]at hc;cases hc
 ·rcases hS with hS|⟨h1,h2⟩
  ·exact .inl hS
  ·exact .inr ⟨h1,by rw[hz];exact h2⟩
theorem IntsRd.sets{S:Nat→Prop}{w W0:World}{kv:Value}{ks:List Int}{r i:Nat}{x:Value}{hd:Array Value}{D:TypeId}(h:IntsRd S w kv ks)(hb:Below w.heap.size w W0)(hr:w.heap[r]?=some (.cells hd D (0,0)))(hD:D≠3)(hS:S r):IntsRd S (W0.setCell ⟨r,i,none⟩ x) kv ks:=
 h.keep (by rw[World.size_setCell];exact hb.size) (fun _ h _=>h) (fun b hlt hs=>(Below.heap_setCell _ _ _ _ (fun e=>by
  have e:b=r:=e;subst e;rcases hs with hs|⟨cs,fz,hs⟩
  ·exact hs hS
  ·rw[hr]at hs;cases hs;exact hD rfl)).trans (hb.block b hlt))
end
section
variable {w:World} {r:Nat} {m m':DM} {S:Nat→Prop} {fv nv sv pv kv nv' sv' pv' kv':Value} {ro ro':List ROp}
theorem RefRaw.put(h:RefRaw w r m S fv nv sv pv kv ro)(i:Nat)(x:Value)(hx:(wD m fv nv sv pv kv).setIfInBounds i x=wD m' fv nv' sv' pv' kv')(hn:oB S w nv' m'.now)(hs:oB S w sv' m'.safe)(hp:Do S w pv' ro')(hkp:IntsOwn S w kv' m'.keep)
  (e1:m'.files=m.files) (hpe:m'.pend=ro'.map ROp.dop) (hof:∀o∈ro',(o.file:Int)≤9223372036854775807):RefRaw (w.setCell ⟨r,i,none⟩ x) r m' S fv nv' sv' pv' kv' ro':=by
 have hk:=h.setKeep i x;exact⟨h.headSet i x hx,h.sr,by rw[e1];exact h.files.keepT hk aA,hn.keepT hk aA,hs.keepT hk aA,hp.keepT hk aA,hpe,hof,hkp.keepT hk aA,fun b hb=>by rw[World.size_setCell];exact h.lt b hb⟩
theorem RefRaw.putFile{gf F fc i:Nat}(h:RefRaw w r m S (.slice (some ⟨gf,0,none⟩) F fc) nv sv pv kv ro)(f:Fil)(hi:i<m.files.length):
  RefRaw ((w.setCell ⟨gf,i*2,none⟩ (.string f.data)).setCell ⟨gf,i*2+1,none⟩ (.int .i64 f.safe)) r {m with files:=m.files.set i f} S (.slice (some ⟨gf,0,none⟩) F fc) nv sv pv kv ro∧S gf∧
   TKeep S w ((w.setCell ⟨gf,i*2,none⟩ (.string f.data)).setCell ⟨gf,i*2+1,none⟩ (.int .i64 f.safe)) (fun t=>t=180):=by
 obtain⟨cur,h1,h2,h3⟩:=h.files.store vL hi (x:=f);have hgS:S gf:=h.files.2 gf rfl
 have e:(w.setCell ⟨gf,i*2,none⟩ (.string f.data)).setCell ⟨gf,i*2+1,none⟩ (.int .i64 f.safe)=setBlk w gf (.cells (EF cur (i*2) (xL f).toList) 180 (0,0)):=by
  rw[lY h1,mM (lH h1)]
  rfl
 rw[e]
 have hk:TKeep S w (setBlk w gf (.cells (EF cur (i*2) (xL f).toList) 180 (0,0))) (fun t=>t=180):=fun b cur' T' hb hc hT=>by
  refine mS fun e=>?_
  subst e;rw[h1]at hc;cases hc;exact hT rfl
 refine⟨⟨?_,h.sr,h3,h.now.keepT hk aA,h.safe.keepT hk aA,h.pend.keepT hk aA,h.pendE,h.opsF,h.keep.keepT hk aA,fun b hb=>by rw[pA];exact h.lt b hb⟩,hgS,hk⟩;exact(hk r _ _ h.sr h.head aA).trans h.head
end
def wE(m:DM)(ks:List Int)(i:Nat):Tab:=lJ (m.pend.take i) ks m.safe
def uT(m:DM)(ks:List Int)(i:Nat):List Fil:=mG ((lJ m.pend ks m.safe).take i) (ks.drop m.pend.length) m.files
theorem IB{m:DM}{n:Nat}(h:m.Ok n)(ks:List Int)(i:Nat):mF (wE m ks i)∧(∀p∈wE m ks i,p.2<m.files.length)∧(wE m ks i).length≤n:=by
 have hsub:∀o∈m.pend.take i,o∈m.pend:=fun o ho=>List.mem_of_mem_take ho
 refine⟨qB (Q:=mF) _ (fun o _ t ht=>rH o ht) ks _ h.safe,qB (Q:=fun t=>∀p∈t,p.2<m.files.length) _ (fun o ho t ht=>BE o ht (fun k i e=>h.pendI k i (e▸hsub o ho))) ks _ h.safeI,?_⟩;have h3:=rU (m.pend.take i) ks m.safe
 have h4:=h.safeN;have h5:(m.pend.take i).length≤m.pend.length:=by rw[List.length_take];exact Nat.min_le_right _ _
 unfold wE;omega
theorem qW{w:World}{r n:Nat}{m:DM}{S:Nat→Prop}(h:RefAt w r n m S)(kv:Value)(ks:List Int)(hk:IntsRd S w kv ks)(hn:n≤1000000000000):
  Calls Tryz.prog 125 #[.pointer (some ⟨r,0,none⟩),kv] w fun e w'=>e=.returned (.tuple #[])∧nM r n (m.fail ks) S w w':=by
 obtain⟨⟨fv,nv,sv,pv,kv0,ro,h⟩,hok,hfn⟩:=h;obtain⟨kp,kc,rfl,⟨hkc1,hkc2⟩,-⟩:=id hk
 obtain⟨L,hL⟩:∃L,ks.length=L:=⟨_,rfl⟩
 rw[hL]at hk hkc1⊢;obtain⟨pp,pc,rfl⟩:=h.pend.form
 obtain⟨P,hP⟩:∃P,ro.length=P:=⟨_,rfl⟩
 have hPm:m.pend.length=P:=by rw[h.pendE,List.length_map,hP]
 have hPn:P≤1000000000000:=by have:=hok.safeN;omega
 rw[hP]at h;have hLi:(L:Int)≤9223372036854775807:=by unfold maxLen at hkc2;omega
 have HL:=hZ hL;have HP:=hZ hP
 have HPM:=hZ hPm;have HOK:=hZ hok
 have H:=hZ h;have HK:=hZ hk
 clear h hk hL hP hPm hok;go_enter Tryz.func125,Tryz.ntmps125;go_wp2_with fail;go_loopw [4,5] (fun cv iv wr=>∃(i:Nat) (sv':Value),i≤P∧cv=.int .i64 i∧iv=.int .i64 i∧Hid (RefRaw wr r {m with safe:=wE m ks i} (mU S w wr) fv nv sv' (.slice pp P pc) kv0 ro)∧Hid (Off S w wr)∧Hid (IntsRd S wr (.slice kp L kc) ks)) (fun _ iv _=>P-(intOf iv).toNat)
 case atStart=>exact⟨0,sv,Nat.zero_le _,rfl,rfl,hZ (H.out.sup pJ (fun b hb=>hb.elim (H.out.lt b) (fun h=>h.2))),hZ (Off.refl S w),HK⟩
 case round=>
  obtain⟨i,sv',hi,rfl,rfl,HRW,HO,HKW⟩:=hrel;obtain⟨c0,-,c2,c3,c4,c5,c6,c7⟩:=HRW.out.cells;by_cases hlt:(i:Int)<(P:Int)
  ·obtain⟨o,ho⟩:∃o,ro[i]?=some o:=⟨_,List.getElem?_eq_getElem (i:=i) (by have:=HP.out;omega)⟩
   have hpo:m.pend[i]?=some o.dop:=by rw[H.out.pendE,List.getElem?_map,ho];rfl
   have hsn:=zF m.pend i o.dop hpo ks m.safe;have HSN:=hZ (show wE m ks (i+1)=if(ks.drop i).headD 0%2=1 then o.dop.act (wE m ks i)else wE m ks i from hsn)
   have hmt:=IB HOK.out ks i;obtain⟨g,cur,rfl,hgS,hgg,hc⟩:=HRW.out.pend.cell Ls ho;have D0:=hZ (show wr.cell? ⟨g,i*4,none⟩=some (.int .i64 o.kind)from hc 0 aA)
   have D1:=hZ (show wr.cell? ⟨g,i*4+1,none⟩=some (.string o.old)from hc 1 aA);have D2:=hZ (show wr.cell? ⟨g,i*4+2,none⟩=some (.string o.name)from hc 2 aA)
   have D3:=hZ (show wr.cell? ⟨g,i*4+3,none⟩=some (.int .i64 o.file)from hc 3 aA);have HOF:=hZ (H.out.opsF o (List.mem_of_getElem? ho))
   have HGL:=hZ (HRW.out.lt g hgS);have HRL:=hZ (HRW.out.lt r HRW.out.sr)
   have HTR:=hZ hmt.1;have HTL:=hZ (show(wE m ks i).length≤2000000000000 by omega)
   have HTI:=hZ (fun(p:Bs×Nat) (hp:p∈wE m ks i)=>show(p.2:Int)≤9223372036854775807 by have:=hmt.2.1 p hp;omega);clear hpo hsn hmt hgS hgg hc ho;have hski:∀(hno:(ks.drop i).headD 0%2≠1),wE m ks (i+1)=wE m ks i:=fun hno=>by rw[HSN.out,if_neg hno]
   by_cases hkl:(i:Int)<(L:Int)
   ·obtain⟨k,hkk⟩:∃k,ks[i]?=some k:=⟨_,List.getElem?_eq_getElem (i:=i) fL⟩
    have hhd:(ks.drop i).headD 0=k:=by
     rw[List.drop_eq_getElem_cons fL];exact(List.getElem?_eq_some_iff.1 hkk).2
    obtain⟨p',c',e',-,hrd⟩:=HKW.out;cases e';obtain⟨-,b,off,rfl,hkc,-⟩:=hrd i k hkk;rw[hhd]at hski HSN;clear hhd hrd hkk;by_cases hodd:k%2=1
    ·have hb1:(bits .and .i64 k 1==1)=true:=by rw[Au,hodd];rfl
     have HNX:=hZ (show wE m ks (i+1)=o.dop.act (wE m ks i) by rw[HSN.out,if_pos hodd]);clear hski;obtain⟨sp,sc,rfl⟩:=HRW.out.safe.form
     obtain⟨sn,hsn⟩:∃sn,(wE m ks i).length=sn:=⟨_,rfl⟩
     have HRW:Hid (RefRaw wr r {m with safe:=wE m ks i} (mU S w wr) fv nv (.slice sp sn sc) (.slice (some ⟨g,0,none⟩) P pc) kv0 ro):=hZ (by rw[←hsn];exact HRW.out);have c4:wr.cell? ⟨r,4,none⟩=some (.slice sp sn sc):=HRW.out.cells.2.2.2.2.1
     have C4:=hZ c4;have C5:=hZ c5
     clear hsn;generalize wE m ks i=T at HRW HTR HTL HTI HNX;go_wp2_with fail;have hI0:FailW wr r (mU S w wr) (o.dop.act T) (fun _=>false) undef wr.drew:=⟨fun _=>(Below.refl _ wr).drew,fun h=>aK,fun h=>aK,fun h=>aK,fun h=>aK⟩
     refine lQ (fun γ=>[.pointer (some ⟨r,0,none⟩),.pointer (some ⟨r,0,none⟩),.pointer (some ⟨r,0,none⟩),.pointer (some ⟨r,4,none⟩),.slice sp sn sc,.pointer (some ⟨r,0,none⟩),.pointer (some ⟨r,0,none⟩),.pointer (some ⟨r,5,none⟩),.slice (some ⟨g,0,none⟩) P pc,.int .i64 i,.pointer (some ⟨g,i*4,none⟩),.agg #[.int .i64 o.kind,.string o.old,.string o.name,.int .i64 o.file],γ,.pointer (some ⟨r,0,none⟩),.pointer (some ⟨r,4,none⟩),undef]) (FailW wr r (mU S w wr) (o.dop.act T))
      [[],[],[1],[2],[3],[],[5],[6],[7],[],[8,9],[10],[4,11],[0,0,1,2,3,4,5,6,7,8,9,10,11,12],[13,0,1,2,3,4,5,6,7,8,9,10,11,12],[14,12,12,0,1,2,3,4,5,6,7,8,9,10,11,12]] 118 undef mC rfl aE (fun _=>rfl) hI0 ?_ ?_
     ·refine⟨?_,?_,?_,?_,?_,?_,?_,?_,?_,?_,?_,?_,?_,?_,?_,?_,rfl⟩
      all_goals intro L γ W ev hL hd hW hc hf hg he h0
      ·have e0:ev (.tmp 0)=.pointer (some ⟨r,0,none⟩):=h0 0 rfl;clear he h0 hc hf hg;exact eK
      ·have e0:ev (.tmp 0)=.pointer (some ⟨r,0,none⟩):=h0 0 rfl;clear he h0 hc hf hg;exact eJ
      ·have e31:ev (.tmp 31)=.pointer (some ⟨r,0,none⟩):=he 1 aA _ 31 rfl rfl;clear he h0 hc hf hg;exact eI
      ·have e32:ev (.tmp 32)=.pointer (some ⟨r,0,none⟩):=he 2 aA _ 32 rfl rfl;clear he h0 hc hf hg;exact eH
      ·have e33:ev (.tmp 33)=.pointer (some ⟨r,4,none⟩):=he 3 aA _ 33 rfl rfl;have c:W.cell? ⟨r,4,none⟩=some (.slice sp sn sc):=(hW.same hL aA r 4 HRL.out).trans C4.out
       clear he h0 hc hf hg;exact eG
      ·have e0:ev (.tmp 0)=.pointer (some ⟨r,0,none⟩):=h0 0 rfl;clear he h0 hc hf hg;exact eF
      ·have e35:ev (.tmp 35)=.pointer (some ⟨r,0,none⟩):=he 5 aA _ 35 rfl rfl;clear he h0 hc hf hg;exact flS rfl aD (hW.upd 6 aA aA (fun e=>aO)) rfl
      ·have e36:ev (.tmp 36)=.pointer (some ⟨r,0,none⟩):=he 6 aA _ 36 rfl rfl;clear he h0 hc hf hg;exact eE
      ·have e37:ev (.tmp 37)=.pointer (some ⟨r,5,none⟩):=he 7 aA _ 37 rfl rfl;have c:W.cell? ⟨r,5,none⟩=some (.slice (some ⟨g,0,none⟩) P pc):=(hW.same hL aA r 5 HRL.out).trans C5.out
       clear he h0 hc hf hg;exact flS rfl aD (hW.upd 8 aA aA (fun e=>aO)) rfl
      ·have e5:ev (.tmp 5)=.int .i64 i:=h0 5 rfl;clear he h0 hc hf hg;exact flS rfl aD (hW.upd 9 aA aA (fun e=>aO)) rfl
      ·have e38:ev (.tmp 38)=.slice (some ⟨g,0,none⟩) P pc:=he 8 aA _ 38 rfl rfl;have e39:ev (.tmp 39)=.int .i64 i:=he 9 aA _ 39 rfl rfl
       clear he h0 hc hf hg;exact flS rfl aD (hW.upd 10 aA aA (fun e=>aO)) rfl
      ·have e40:ev (.tmp 40)=.pointer (some ⟨g,i*4,none⟩):=he 10 aA _ 40 rfl rfl;have d0:W.cell? ⟨g,i*4,none⟩=some (.int .i64 o.kind):=(hW.same hL aA g _ HGL.out).trans D0.out
       have d1:W.cell? ⟨g,i*4+1,none⟩=some (.string o.old):=(hW.same hL aA g _ HGL.out).trans D1.out;have d2:W.cell? ⟨g,i*4+2,none⟩=some (.string o.name):=(hW.same hL aA g _ HGL.out).trans D2.out
       have d3:W.cell? ⟨g,i*4+3,none⟩=some (.int .i64 o.file):=(hW.same hL aA g _ HGL.out).trans D3.out;clear he h0 hc hf hg;exact flS rfl aD (hW.upd 11 aA aA (fun e=>aO)) rfl
      ·have e34:ev (.tmp 34)=.slice sp sn sc:=he 4 aA _ 34 rfl rfl;have e41:ev (.tmp 41)=.agg #[.int .i64 o.kind,.string o.old,.string o.name,.int .i64 o.file]:=he 11 aA _ 41 rfl rfl
       clear he h0 hc hg;have hb:=hW.bel (hW.off hL aA)
       have hl:oB (mU S w wr) W (.slice sp sn sc) T:=HRW.out.safe.keep (fun b _ hS _=>hb.block b (HRW.out.lt b hS));refine .inl ⟨rfl,.inr (.inr ⟨157,#[.slice sp sn sc,.agg (oE o)],W,dZ,?_⟩)⟩;refine(Av hl (fun b hS=>Nat.lt_of_lt_of_le (HRW.out.lt b hS) hb.size) HTR.out o HTL.out HTI.out HOF.out).mono ?_;rintro e w' ⟨u,rfl,hg,hb2⟩
       exact⟨u,rfl,u,hW.called hL hg hb2,rfl,fun j hj=>by
        have hj2:j≠12:=fun e=>cS
        match j,hj2 with
        |0,_|1,_|2,_|3,_|4,_|5,_|6,_|7,_|8,_|9,_|10,_|11,_|13,_|14,_|15,_=>rfl
        |n+16,_=>rfl⟩
      ·have e30:ev (.tmp 30)=.pointer (some ⟨r,0,none⟩):=he 0 aA _ 30 rfl rfl;clear he h0 hc hf hg;exact flS rfl aD (hW.upd 13 aA aA (fun e=>aO)) rfl
      ·have e43:ev (.tmp 43)=.pointer (some ⟨r,0,none⟩):=he 13 aA _ 43 rfl rfl;clear he h0 hc hf hg;exact flS rfl aD (hW.upd 14 aA aA (fun _=>hd 13 aA)) rfl
      ·have e42:ev (.tmp 42)=γ:=he 12 aA _ 42 rfl rfl;have e44:ev (.tmp 44)=.pointer (some ⟨r,4,none⟩):=he 14 aA _ 44 rfl rfl
       clear he h0 hc hg;have h12:L 12=true:=hd 12 aA
       have hone:=hW.one h12 hL;obtain⟨up,uc,hu⟩:=hone.form;have hb:=hW.bel hL
       have cq:W.cell? ⟨r,4,none⟩=some (.slice sp sn sc):=(lK (hb.block r HRL.out)).trans C4.out;have cf:W.frozen? ⟨r,4,none⟩=false:=lI ((hb.block r HRL.out).trans HRW.out.head)
       have hfin:=hW.stored hL h12 (fun j hj=>by
        by_cases e:j=13
        ·subst e;exact hW.c14 (hd 14 aA)
        ·exact hd j (by have:j=0∨j=1∨j=2∨j=3∨j=4∨j=5∨j=6∨j=7∨j=8∨j=9∨j=10∨j=11∨j=12∨j=14:=aC;rcases this with rfl|rfl|rfl|rfl|rfl|rfl|rfl|rfl|rfl|rfl|rfl|rfl|rfl|rfl<;>decide))
       subst hu;refine .inl ⟨rfl,.inr (.inl ⟨W.setCell ⟨r,4,none⟩ (.slice up (o.dop.act T).length uc),?_,.still hfin rfl⟩)⟩;clear hf hone hfin hW;go_simp
     ·intro γ L' W hL' hW;simp only[nX,Act.put,List.setIfInBounds_toArray,List.set_cons_succ,List.set_cons_zero];obtain⟨W0,hb0,hl0,rfl⟩:=hW.fin (hL' 15 aA);have hnw:=HRW.out.newSafe hb0 hl0
      have hz0:(W0.setCell ⟨r,4,none⟩ γ).heap.size=W0.heap.size:=World.size_setCell _ _ _;have hoff:Off S w (W0.setCell ⟨r,4,none⟩ γ):=(HO.out.below hb0 HO.out.size).setCell _ _ (fun _=>H.out.sr)
      have HN1:=hZ (hnw.sup (S':=mU S w (W0.setCell ⟨r,4,none⟩ γ)) (fun b hb=>(sG HO.out.size (by rw[hz0];exact hb0.size) b).1 hb) (fun b hb=>hb.elim (fun hb=>Nat.lt_of_lt_of_le (H.out.lt b hb) hoff.size) (fun hb=>hb.2)));have HN2:=hZ hoff
      have HN3:=hZ (HKW.out.sets (i:=4) (x:=γ) hb0 HRW.out.head aA H.out.sr);clear hL' hW hnw hoff hb0 hl0 hI0;generalize W0.setCell ⟨r,4,none⟩ γ=W1 at HN1 HN2 HN3⊢;go_wp2_with fail
      case roundEnd=>exact⟨⟨i+1,γ,aC,aG,aG,hZ (by rw[HNX.out];exact HN1.out),HN2,HN3⟩,cN⟩
    ·have hb1:(bits .and .i64 k 1==1)=false:=by rw[Au,beq_eq_false_iff_ne];exact hodd
     have HNX:=hZ (hski hodd);clear hski;go_wp2_with fail
     case roundEnd=>exact⟨⟨i+1,sv',aC,aG,aG,hZ (by rw[HNX.out];exact HRW.out),HO,HKW⟩,cN⟩
   ·have hhd:(ks.drop i).headD 0=0:=by
     rw[List.drop_of_length_le fL]
     rfl
    have HNX:=hZ (hski (by rw[hhd];decide));clear hski hhd;go_wp2_with fail
    case roundEnd=>exact⟨⟨i+1,sv',aC,aG,aG,hZ (by rw[HNX.out];exact HRW.out),HO,HKW⟩,cN⟩
  ·obtain rfl:i=P:=by omega
   have ht:wE m ks i=lJ m.pend ks m.safe:=by
    unfold wE;rw[List.take_of_length_le (by rw[HPM.out];exact Nat.le_refl _)]
   have hmt:=IB HOK.out ks i;rw[ht]at hmt;obtain⟨sp,sc,rfl⟩:=HRW.out.safe.form;obtain⟨fp,fc,rfl⟩:=HRW.out.files.form
   obtain⟨N,hN⟩:∃N,(wE m ks i).length=N:=⟨_,rfl⟩
   obtain⟨F,hF⟩:∃F,m.files.length=F:=⟨_,rfl⟩
   have hNn:N≤1000000000000:=by rw[←hN,ht];exact Nat.le_trans hmt.2.2 hn
   have HR1:=hZ (show RefRaw wr r {m with safe:=lJ m.pend ks m.safe,files:=uT m ks 0} (mU S w wr) (.slice fp F fc) nv (.slice sp N sc) (.slice pp i pc) kv0 ro by
    have e1:uT m ks 0=m.files:=by unfold uT;rw[List.take_zero];rfl
    have h1:=HRW.out;rw[ht]at h1 hN;rw[e1,←hF,←hN];exact h1)
   have HT:=hZ (show(lJ m.pend ks m.safe).length=N by rw[←ht];exact hN);have HTI:=hZ hmt.2.1
   have HFF:=hZ hF;clear HRW ht hmt hN hF c0 c2 c3 c4 c6 c7;go_wp2_with fail;clear c5 hlt;go_loopw [4,6] (fun cv iv wr=>∃j:Nat,j≤N∧cv=.int .i64 ((i:Int)+(j:Int))∧iv=.int .i64 j∧Hid (RefRaw wr r {m with safe:=lJ m.pend ks m.safe,files:=uT m ks j} (mU S w wr) (.slice fp F fc) nv (.slice sp N sc) (.slice pp i pc) kv0 ro)∧Hid (Off S w wr)∧Hid (IntsRd S wr (.slice kp L kc) ks)) (fun _ iv _=>N-(intOf iv).toNat)
   case atStart=>exact⟨0,Nat.zero_le _,eZ,rfl,HR1,HO,HKW⟩
   case round=>
    obtain⟨j,hj,rfl,rfl,HRW,HO,HKW⟩:=hrel;clear HR1;obtain⟨c0,-,c2,c3,c4,c5,c6,c7⟩:=HRW.out.cells;by_cases hlt:(j:Int)<(N:Int)
    ·obtain⟨q,hq⟩:∃q,(lJ m.pend ks m.safe)[j]?=some q:=⟨_,List.getElem?_eq_getElem (i:=j) (by have:=HT.out;omega)⟩
     have hqF:q.2<m.files.length:=HTI.out q (List.mem_of_getElem? hq);have hlen:(uT m ks j).length=m.files.length:=nC _ _ _
     have hsn:uT m ks (j+1)=(uT m ks j).set q.2 ((uT m ks j)[q.2]!.cut ((ks.drop (i+j)).headD 0)):=by
      have:=yJ (lJ m.pend ks m.safe) j q hq (ks.drop m.pend.length) m.files;rw[List.drop_drop,HPM.out]at this;unfold uT;rw[HPM.out];exact this
     have hfo:∀f∈uT m ks j,f.safe≤f.data.size∧f.data.size≤m.room:=tS _ _ _ (fun p hp=>HTI.out p (List.mem_of_mem_take hp)) HOK.out.file;have hfl:=hfo _ (get!_mem (i:=q.2) (by rw[hlen];exact hqF))
     have hroom:=HOK.out.room;obtain⟨g,cur,rfl,hgS,hgg,hc⟩:=HRW.out.safe.cell sO hq;obtain⟨gf,cur2,rfl,hgS2,hgg2,hc2⟩:=HRW.out.files.cell vL (get!_at (show q.2<(uT m ks j).length by rw[hlen];exact hqF));have D1:=hZ (show wr.cell? ⟨g,j*2+1,none⟩=some (.int .i64 q.2)from hc 1 aA)
     have E0:=hZ (show wr.cell? ⟨gf,q.2*2,none⟩=some (.string (uT m ks j)[q.2]!.data)from hc2 0 aA);have E1:=hZ (show wr.cell? ⟨gf,q.2*2+1,none⟩=some (.int .i64 (uT m ks j)[q.2]!.safe)from hc2 1 aA)
     have HSN:=hZ hsn;have HFL:=hZ (show(uT m ks j)[q.2]!.safe≤(uT m ks j)[q.2]!.data.size∧(uT m ks j)[q.2]!.data.size≤268435456 from⟨hfl.1,Nat.le_trans hfl.2 hroom⟩)
     have HQL:=hZ (show q.2<(uT m ks j).length by rw[hlen];exact hqF);have hqi:(q.2:Int)<(F:Int):=by have:=HFF.out;omega
     have hq0:(0:Int)≤(q.2:Int):=aC;have HRL:=hZ (HRW.out.lt r HRW.out.sr)
     have HGL:=hZ (HRW.out.lt g hgS);have HGF:=hZ (HRW.out.lt gf hgS2)
     have C2:=hZ c2;have C4:=hZ c4
     clear hq hqF hlen hsn hfo hfl hroom hgS hgg hc hgS2 hgg2 hc2;generalize (uT m ks j)[q.2]! =fl at D1 E0 E1 HSN HFL;have HSZ:=hZ (show(fl.left ((ks.drop (i+j)).headD 0)).size≤268435456 from Nat.le_trans (KG fl ((ks.drop (i+j)).headD 0) HFL.out).2 (Nat.le_refl _))
     have hkxx:∃kx,(ks.drop (i+j)).headD 0=kx:=⟨_,rfl⟩
     obtain⟨kx,hkx⟩:=hkxx;rw[hkx]at HSN HSZ;have hij:(0:Int)≤(i:Int)+(j:Int):=aC
     have hway:((i:Int)+(j:Int)<(L:Int)∧∃b off,kp=some ⟨b,off,none⟩∧wr.cell? ⟨b,off+(i+j),none⟩=some (.int .i64 kx))∨(¬(i:Int)+(j:Int)<(L:Int)∧kx=0):=by
      by_cases hkl:(i:Int)+(j:Int)<(L:Int)
      ·left;refine⟨hkl,?_⟩
       obtain⟨k,hkk⟩:∃k,ks[i+j]?=some k:=⟨_,List.getElem?_eq_getElem (i:=i+j) fL⟩
       have hhd:(ks.drop (i+j)).headD 0=k:=by
        rw[List.drop_eq_getElem_cons fL];exact(List.getElem?_eq_some_iff.1 hkk).2
       obtain⟨p',c',e',-,hrd⟩:=HKW.out;cases e';obtain⟨-,b,off,hb,hkc,-⟩:=hrd (i+j) k hkk;exact⟨b,off,hb,by rw[←hkx,hhd];exact hkc⟩
      ·right;refine⟨hkl,?_⟩;rw[←hkx,List.drop_of_length_le fL]
       rfl
     clear hkx;rcases hway with⟨hkl,b,off,rfl,hkc⟩|⟨hkl,rfl⟩
     ·skip
      go_wp2_with fail;have hI0:Below wr.heap.size wr wr.drew:=(Below.refl _ wr).drew
      refine lQ (fun _:Unit=>[.pointer (some ⟨r,0,none⟩),.pointer (some ⟨r,0,none⟩),.pointer (some ⟨r,2,none⟩),.slice (some ⟨gf,0,none⟩) F fc,.pointer (some ⟨r,0,none⟩),.pointer (some ⟨r,0,none⟩),.pointer (some ⟨r,4,none⟩),.slice (some ⟨g,0,none⟩) N sc,.int .i64 j,.pointer (some ⟨g,j*2,none⟩),.pointer (some ⟨g,j*2+1,none⟩),.int .i64 q.2,.pointer (some ⟨gf,q.2*2,none⟩),.agg #[.string fl.data,.int .i64 fl.safe],.int .i64 kx,.string (fl.left kx),.string (fl.left kx)]) (fun _ _ W=>Below wr.heap.size wr W)
       [[],[0],[1],[2],[],[4],[5],[6],[],[7,8],[9],[10],[3,11],[12],[],[13,14],[15,15,0,1,2,3,4,5,6,7,8,9,10,11,12,13,14,15]] 118 () mC rfl aE (fun _=>rfl) hI0 ?_ ?_
      ·refine⟨?_,?_,?_,?_,?_,?_,?_,?_,?_,?_,?_,?_,?_,?_,?_,?_,?_,rfl⟩
       all_goals intro L γ W ev hL hd hW hc hf hg he h0
       ·have e0:ev (.tmp 0)=.pointer (some ⟨r,0,none⟩):=h0 0 rfl;clear he h0 hc hf hg;exact cM
       ·have e66:ev (.tmp 66)=.pointer (some ⟨r,0,none⟩):=he 0 aA _ 66 rfl rfl;clear he h0 hc hf hg;exact cM
       ·have e67:ev (.tmp 67)=.pointer (some ⟨r,0,none⟩):=he 1 aA _ 67 rfl rfl;clear he h0 hc hf hg;exact cM
       ·have e68:ev (.tmp 68)=.pointer (some ⟨r,2,none⟩):=he 2 aA _ 68 rfl rfl;have c:W.cell? ⟨r,2,none⟩=some (.slice (some ⟨gf,0,none⟩) F fc):=(lK (hW.block r HRL.out)).trans C2.out
        clear he h0 hc hf hg;exact cM
       ·have e0:ev (.tmp 0)=.pointer (some ⟨r,0,none⟩):=h0 0 rfl;clear he h0 hc hf hg;exact cM
       ·have e70:ev (.tmp 70)=.pointer (some ⟨r,0,none⟩):=he 4 aA _ 70 rfl rfl;clear he h0 hc hf hg;exact cM
       ·have e71:ev (.tmp 71)=.pointer (some ⟨r,0,none⟩):=he 5 aA _ 71 rfl rfl;clear he h0 hc hf hg;exact cM
       ·have e72:ev (.tmp 72)=.pointer (some ⟨r,4,none⟩):=he 6 aA _ 72 rfl rfl;have c:W.cell? ⟨r,4,none⟩=some (.slice (some ⟨g,0,none⟩) N sc):=(lK (hW.block r HRL.out)).trans C4.out
        clear he h0 hc hf hg;exact cM
       ·have e6:ev (.tmp 6)=.int .i64 j:=h0 6 rfl;clear he h0 hc hf hg;exact cM
       ·have e73:ev (.tmp 73)=.slice (some ⟨g,0,none⟩) N sc:=he 7 aA _ 73 rfl rfl;have e74:ev (.tmp 74)=.int .i64 j:=he 8 aA _ 74 rfl rfl
        clear he h0 hc hf hg;exact cM
       ·have e75:ev (.tmp 75)=.pointer (some ⟨g,j*2,none⟩):=he 9 aA _ 75 rfl rfl;clear he h0 hc hf hg;exact cM
       ·have e76:ev (.tmp 76)=.pointer (some ⟨g,j*2+1,none⟩):=he 10 aA _ 76 rfl rfl;have c:W.cell? ⟨g,j*2+1,none⟩=some (.int .i64 q.2):=(lK (hW.block g HGL.out)).trans D1.out
        clear he h0 hc hf hg;exact cM
       ·have e69:ev (.tmp 69)=.slice (some ⟨gf,0,none⟩) F fc:=he 3 aA _ 69 rfl rfl;have e77:ev (.tmp 77)=.int .i64 q.2:=he 11 aA _ 77 rfl rfl
        clear he h0 hc hf hg;exact cM
       ·have e78:ev (.tmp 78)=.pointer (some ⟨gf,q.2*2,none⟩):=he 12 aA _ 78 rfl rfl;have d0:W.cell? ⟨gf,q.2*2,none⟩=some (.string fl.data):=(lK (hW.block gf HGF.out)).trans E0.out
        have d1:W.cell? ⟨gf,q.2*2+1,none⟩=some (.int .i64 fl.safe):=(lK (hW.block gf HGF.out)).trans E1.out;clear he h0 hc hf hg;exact cM
       ·have e7:ev (.tmp 7)=.int .i64 kx:=h0 7 rfl;clear he h0 hc hf hg;exact cM
       ·have e79:ev (.tmp 79)=.agg #[.string fl.data,.int .i64 fl.safe]:=he 13 aA _ 79 rfl rfl;have e80:ev (.tmp 80)=.int .i64 kx:=he 14 aA _ 80 rfl rfl
        clear he h0 hc hg;refine .inl ⟨rfl,.inr (.inr ⟨158,#[.agg (xL fl),.int .i64 kx],W,(by have hff:=hf 158;clear hf;go_simp<;>rfl),?_⟩)⟩;refine(Gj fl kx W HFL.out.1 HFL.out.2).mono ?_;rintro e w' ⟨rfl,hb2⟩;exact⟨_,rfl,.still (hW.trans (hb2.mono hW.size)) rfl⟩
       ·have e81:ev (.tmp 81)=.string (fl.left kx):=he 15 aA _ 81 rfl rfl;clear he h0 hc hf hg;exact cM
      ·intro γ L' W hL' hW;simp only[nX,Act.put,List.setIfInBounds_toArray,List.set_cons_succ,List.set_cons_zero];have hRW:=HRW.out.frame (w':=W.drewN 1) (fun b hb=>hW.block b (HRW.out.lt b hb)) hW.size
       have hpf:=hRW.putFile (fl.cut kx) HQL.out;have hS0:S gf:=H.out.files.2 gf rfl
       have c2:W.cell? ⟨r,2,none⟩=some (.slice (some ⟨gf,0,none⟩) F fc):=(lK (hW.block r HRL.out)).trans C2.out;have c4:W.cell? ⟨r,4,none⟩=some (.slice (some ⟨g,0,none⟩) N sc):=(lK (hW.block r HRL.out)).trans C4.out
       have d1:W.cell? ⟨g,j*2+1,none⟩=some (.int .i64 q.2):=(lK (hW.block g HGL.out)).trans D1.out;have e0:W.cell? ⟨gf,q.2*2,none⟩=some (.string fl.data):=(lK (hW.block gf HGF.out)).trans E0.out
       have e1:W.cell? ⟨gf,q.2*2+1,none⟩=some (.int .i64 fl.safe):=(lK (hW.block gf HGF.out)).trans E1.out;obtain⟨curf,hcf,-⟩:=hRW.files.store vL HQL.out (x:=fl);have hcf:W.heap[gf]?=some (.cells curf 180 (0,0)):=hcf
       have f0:W.frozen? ⟨gf,q.2*2,none⟩=false:=lI hcf;have f1:W.frozen? ⟨gf,q.2*2+1,none⟩=false:=lI hcf
       have hls:((fl.left kx).size:Int)≤268435456:=by have:=HSZ.out;omega
       have hoff1:Off S w W:=HO.out.below hW HO.out.size;have hSgf:gf<w.heap.size→S gf:=fun _=>hS0
       have hoff2:Off S w (((W.drewN 1).setCell ⟨gf,q.2*2,none⟩ (.string (fl.cut kx).data)).setCell ⟨gf,q.2*2+1,none⟩ (.int .i64 (fl.cut kx).safe)):=((hoff1.draws 1).setCell _ _ hSgf).setCell _ _ hSgf;have hzz:(((W.drewN 1).setCell ⟨gf,q.2*2,none⟩ (.string (fl.cut kx).data)).setCell ⟨gf,q.2*2+1,none⟩ (.int .i64 (fl.cut kx).safe)).heap.size=W.heap.size:=by rw[World.size_setCell,World.size_setCell];rfl
       have HN1:=hZ (show RefRaw (((W.drewN 1).setCell ⟨gf,q.2*2,none⟩ (.string (fl.left kx))).setCell ⟨gf,q.2*2+1,none⟩ (.int .i64 (fl.left kx).size)) r {m with safe:=lJ m.pend ks m.safe,files:=uT m ks (j+1)} (mU S w (((W.drewN 1).setCell ⟨gf,q.2*2,none⟩ (.string (fl.left kx))).setCell ⟨gf,q.2*2+1,none⟩ (.int .i64 (fl.left kx).size))) (.slice (some ⟨gf,0,none⟩) F fc) nv (.slice (some ⟨g,0,none⟩) N sc) (.slice pp i pc) kv0 ro by
        rw[HSN.out];exact hpf.1.sup (tY dO) (fun b hb=>hb.elim (fun hb=>Nat.lt_of_lt_of_le (H.out.lt b hb) hoff2.size) (fun hb=>hb.2)))
       have HN2:=hZ (show Off S w (((W.drewN 1).setCell ⟨gf,q.2*2,none⟩ (.string (fl.left kx))).setCell ⟨gf,q.2*2+1,none⟩ (.int .i64 (fl.left kx).size))from hoff2)
       have HN3:=hZ (show IntsRd S (((W.drewN 1).setCell ⟨gf,q.2*2,none⟩ (.string (fl.left kx))).setCell ⟨gf,q.2*2+1,none⟩ (.int .i64 (fl.left kx).size)) (.slice (some ⟨b,off,none⟩) L kc) ks from HKW.out.keep dO (fun _ h _=>h) (fun b hlt hs=>by
        have hne:b≠gf:=fun e=>by
         subst e;rcases hs with hs|⟨cs,fz,hs⟩
         ·exact hs hS0
         ·have:=hW.block b hlt;rw[hcf,hs]at this;cases this
        exact((Below.heap_setCell _ ⟨gf,q.2*2+1,none⟩ _ b hne).trans (Below.heap_setCell _ ⟨gf,q.2*2,none⟩ _ b hne)).trans (hW.block b hlt)))
       clear hL' hW hRW hpf hcf hoff1 hoff2 hzz hSgf hI0;go_wp2_with fail;refine pF 17 mC aE ?_;simp only[List.take_succ_cons,List.take_zero,List.drop_succ_cons,List.drop_zero]
       repeat (go_big_quiet_step (fail))
       refine wpQuiet_nil ?_;go_wp2_with fail
       case roundEnd=>exact⟨⟨j+1,aC,by rw[Int.natCast_add,Int.add_assoc];rfl,aG,HN1,HN2,HN3⟩,cN⟩
     ·skip
      go_wp2_with fail;have hI0:Below wr.heap.size wr wr.drew:=(Below.refl _ wr).drew
      refine lQ (fun _:Unit=>[.pointer (some ⟨r,0,none⟩),.pointer (some ⟨r,0,none⟩),.pointer (some ⟨r,2,none⟩),.slice (some ⟨gf,0,none⟩) F fc,.pointer (some ⟨r,0,none⟩),.pointer (some ⟨r,0,none⟩),.pointer (some ⟨r,4,none⟩),.slice (some ⟨g,0,none⟩) N sc,.int .i64 j,.pointer (some ⟨g,j*2,none⟩),.pointer (some ⟨g,j*2+1,none⟩),.int .i64 q.2,.pointer (some ⟨gf,q.2*2,none⟩),.agg #[.string fl.data,.int .i64 fl.safe],.int .i64 0,.string (fl.left 0),.string (fl.left 0)]) (fun _ _ W=>Below wr.heap.size wr W)
       [[],[0],[1],[2],[],[4],[5],[6],[],[7,8],[9],[10],[3,11],[12],[],[13,14],[15,15,0,1,2,3,4,5,6,7,8,9,10,11,12,13,14,15]] 118 () mC rfl aE (fun _=>rfl) hI0 ?_ ?_
      ·refine⟨?_,?_,?_,?_,?_,?_,?_,?_,?_,?_,?_,?_,?_,?_,?_,?_,?_,rfl⟩
       all_goals intro L γ W ev hL hd hW hc hf hg he h0
       ·have e0:ev (.tmp 0)=.pointer (some ⟨r,0,none⟩):=h0 0 rfl;clear he h0 hc hf hg;exact cM
       ·have e66:ev (.tmp 66)=.pointer (some ⟨r,0,none⟩):=he 0 aA _ 66 rfl rfl;clear he h0 hc hf hg;exact cM
       ·have e67:ev (.tmp 67)=.pointer (some ⟨r,0,none⟩):=he 1 aA _ 67 rfl rfl;clear he h0 hc hf hg;exact cM
       ·have e68:ev (.tmp 68)=.pointer (some ⟨r,2,none⟩):=he 2 aA _ 68 rfl rfl;have c:W.cell? ⟨r,2,none⟩=some (.slice (some ⟨gf,0,none⟩) F fc):=(lK (hW.block r HRL.out)).trans C2.out
        clear he h0 hc hf hg;exact cM
       ·have e0:ev (.tmp 0)=.pointer (some ⟨r,0,none⟩):=h0 0 rfl;clear he h0 hc hf hg;exact cM
       ·have e70:ev (.tmp 70)=.pointer (some ⟨r,0,none⟩):=he 4 aA _ 70 rfl rfl;clear he h0 hc hf hg;exact cM
       ·have e71:ev (.tmp 71)=.pointer (some ⟨r,0,none⟩):=he 5 aA _ 71 rfl rfl;clear he h0 hc hf hg;exact cM
       ·have e72:ev (.tmp 72)=.pointer (some ⟨r,4,none⟩):=he 6 aA _ 72 rfl rfl;have c:W.cell? ⟨r,4,none⟩=some (.slice (some ⟨g,0,none⟩) N sc):=(lK (hW.block r HRL.out)).trans C4.out
        clear he h0 hc hf hg;exact cM
       ·have e6:ev (.tmp 6)=.int .i64 j:=h0 6 rfl;clear he h0 hc hf hg;exact cM
       ·have e73:ev (.tmp 73)=.slice (some ⟨g,0,none⟩) N sc:=he 7 aA _ 73 rfl rfl;have e74:ev (.tmp 74)=.int .i64 j:=he 8 aA _ 74 rfl rfl
        clear he h0 hc hf hg;exact cM
       ·have e75:ev (.tmp 75)=.pointer (some ⟨g,j*2,none⟩):=he 9 aA _ 75 rfl rfl;clear he h0 hc hf hg;exact cM
       ·have e76:ev (.tmp 76)=.pointer (some ⟨g,j*2+1,none⟩):=he 10 aA _ 76 rfl rfl;have c:W.cell? ⟨g,j*2+1,none⟩=some (.int .i64 q.2):=(lK (hW.block g HGL.out)).trans D1.out
        clear he h0 hc hf hg;exact cM
       ·have e69:ev (.tmp 69)=.slice (some ⟨gf,0,none⟩) F fc:=he 3 aA _ 69 rfl rfl;have e77:ev (.tmp 77)=.int .i64 q.2:=he 11 aA _ 77 rfl rfl
        clear he h0 hc hf hg;exact cM
       ·have e78:ev (.tmp 78)=.pointer (some ⟨gf,q.2*2,none⟩):=he 12 aA _ 78 rfl rfl;have d0:W.cell? ⟨gf,q.2*2,none⟩=some (.string fl.data):=(lK (hW.block gf HGF.out)).trans E0.out
        have d1:W.cell? ⟨gf,q.2*2+1,none⟩=some (.int .i64 fl.safe):=(lK (hW.block gf HGF.out)).trans E1.out;clear he h0 hc hf hg;exact cM
       ·have e7:ev (.tmp 7)=.int .i64 0:=h0 7 rfl;clear he h0 hc hf hg;exact cM
       ·have e79:ev (.tmp 79)=.agg #[.string fl.data,.int .i64 fl.safe]:=he 13 aA _ 79 rfl rfl;have e80:ev (.tmp 80)=.int .i64 0:=he 14 aA _ 80 rfl rfl
        clear he h0 hc hg;refine .inl ⟨rfl,.inr (.inr ⟨158,#[.agg (xL fl),.int .i64 0],W,(by have hff:=hf 158;clear hf;go_simp<;>rfl),?_⟩)⟩;refine(Gj fl 0 W HFL.out.1 HFL.out.2).mono ?_;rintro e w' ⟨rfl,hb2⟩;exact⟨_,rfl,.still (hW.trans (hb2.mono hW.size)) rfl⟩
       ·have e81:ev (.tmp 81)=.string (fl.left 0):=he 15 aA _ 81 rfl rfl;clear he h0 hc hf hg;exact cM
      ·intro γ L' W hL' hW;simp only[nX,Act.put,List.setIfInBounds_toArray,List.set_cons_succ,List.set_cons_zero];have hRW:=HRW.out.frame (w':=W.drewN 1) (fun b hb=>hW.block b (HRW.out.lt b hb)) hW.size
       have hpf:=hRW.putFile (fl.cut 0) HQL.out;have hS0:S gf:=H.out.files.2 gf rfl
       have c2:W.cell? ⟨r,2,none⟩=some (.slice (some ⟨gf,0,none⟩) F fc):=(lK (hW.block r HRL.out)).trans C2.out;have c4:W.cell? ⟨r,4,none⟩=some (.slice (some ⟨g,0,none⟩) N sc):=(lK (hW.block r HRL.out)).trans C4.out
       have d1:W.cell? ⟨g,j*2+1,none⟩=some (.int .i64 q.2):=(lK (hW.block g HGL.out)).trans D1.out;have e0:W.cell? ⟨gf,q.2*2,none⟩=some (.string fl.data):=(lK (hW.block gf HGF.out)).trans E0.out
       have e1:W.cell? ⟨gf,q.2*2+1,none⟩=some (.int .i64 fl.safe):=(lK (hW.block gf HGF.out)).trans E1.out;obtain⟨curf,hcf,-⟩:=hRW.files.store vL HQL.out (x:=fl);have hcf:W.heap[gf]?=some (.cells curf 180 (0,0)):=hcf
       have f0:W.frozen? ⟨gf,q.2*2,none⟩=false:=lI hcf;have f1:W.frozen? ⟨gf,q.2*2+1,none⟩=false:=lI hcf
       have hls:((fl.left 0).size:Int)≤268435456:=by have:=HSZ.out;omega
       have hoff1:Off S w W:=HO.out.below hW HO.out.size;have hSgf:gf<w.heap.size→S gf:=fun _=>hS0
       have hoff2:Off S w (((W.drewN 1).setCell ⟨gf,q.2*2,none⟩ (.string (fl.cut 0).data)).setCell ⟨gf,q.2*2+1,none⟩ (.int .i64 (fl.cut 0).safe)):=((hoff1.draws 1).setCell _ _ hSgf).setCell _ _ hSgf;have hzz:(((W.drewN 1).setCell ⟨gf,q.2*2,none⟩ (.string (fl.cut 0).data)).setCell ⟨gf,q.2*2+1,none⟩ (.int .i64 (fl.cut 0).safe)).heap.size=W.heap.size:=by rw[World.size_setCell,World.size_setCell];rfl
       have HN1:=hZ (show RefRaw (((W.drewN 1).setCell ⟨gf,q.2*2,none⟩ (.string (fl.left 0))).setCell ⟨gf,q.2*2+1,none⟩ (.int .i64 (fl.left 0).size)) r {m with safe:=lJ m.pend ks m.safe,files:=uT m ks (j+1)} (mU S w (((W.drewN 1).setCell ⟨gf,q.2*2,none⟩ (.string (fl.left 0))).setCell ⟨gf,q.2*2+1,none⟩ (.int .i64 (fl.left 0).size))) (.slice (some ⟨gf,0,none⟩) F fc) nv (.slice (some ⟨g,0,none⟩) N sc) (.slice pp i pc) kv0 ro by
        rw[HSN.out];exact hpf.1.sup (tY dP) (fun b hb=>hb.elim (fun hb=>Nat.lt_of_lt_of_le (H.out.lt b hb) hoff2.size) (fun hb=>hb.2)))
       have HN2:=hZ (show Off S w (((W.drewN 1).setCell ⟨gf,q.2*2,none⟩ (.string (fl.left 0))).setCell ⟨gf,q.2*2+1,none⟩ (.int .i64 (fl.left 0).size))from hoff2)
       have HN3:=hZ (show IntsRd S (((W.drewN 1).setCell ⟨gf,q.2*2,none⟩ (.string (fl.left 0))).setCell ⟨gf,q.2*2+1,none⟩ (.int .i64 (fl.left 0).size)) (.slice kp L kc) ks from HKW.out.keep dP (fun _ h _=>h) (fun b hlt hs=>by
        have hne:b≠gf:=fun e=>by
         subst e;rcases hs with hs|⟨cs,fz,hs⟩
         ·exact hs hS0
         ·have:=hW.block b hlt;rw[hcf,hs]at this;cases this
        exact((Below.heap_setCell _ ⟨gf,q.2*2+1,none⟩ _ b hne).trans (Below.heap_setCell _ ⟨gf,q.2*2,none⟩ _ b hne)).trans (hW.block b hlt)))
       clear hL' hW hRW hpf hcf hoff1 hoff2 hzz hSgf hI0;go_wp2_with fail;refine pF 17 mC aE ?_;simp only[List.take_succ_cons,List.take_zero,List.drop_succ_cons,List.drop_zero]
       repeat (go_big_quiet_step (fail))
       refine wpQuiet_nil ?_;go_wp2_with fail
       case roundEnd=>exact⟨⟨j+1,aC,by rw[Int.natCast_add,Int.add_assoc];rfl,aG,HN1,HN2,HN3⟩,cN⟩
    ·obtain rfl:j=N:=by omega
     have hfin:uT m ks j=mG (lJ m.pend ks m.safe) (ks.drop m.pend.length) m.files:=by
      unfold uT;rw[List.take_of_length_le (by rw[HT.out];exact Nat.le_refl _)]
     have hf0:wr.frozen? ⟨r,0,none⟩=false:=lI HRW.out.head;have hf3:wr.frozen? ⟨r,3,none⟩=false:=lI HRW.out.head
     have hf5:wr.frozen? ⟨r,5,none⟩=false:=lI HRW.out.head;have hf6:wr.frozen? ⟨r,6,none⟩=false:=lI HRW.out.head
     have hf7:wr.frozen? ⟨r,7,none⟩=false:=lI HRW.out.head;have hm:=HRW.out
     rw[hfin]at hm;have hn0:IntsOwn (mU S w wr) wr kv0 m.keep:=hm.keep
     have s1:=hm.put (m':={m with safe:=lJ m.pend ks m.safe,files:=mG (lJ m.pend ks m.safe) (ks.drop m.pend.length) m.files,now:=lJ m.pend ks m.safe}) (nv':=.slice sp j sc) 3 (.slice sp j sc) rfl hm.safe hm.safe hm.pend hm.keep rfl hm.pendE hm.opsF;have s2:=s1.put (m':={m with safe:=lJ m.pend ks m.safe,files:=mG (lJ m.pend ks m.safe) (ks.drop m.pend.length) m.files,now:=lJ m.pend ks m.safe,pend:=[]}) (pv':=.slice none 0 0) (ro':=[]) 5 (.slice none 0 0) rfl s1.now s1.safe (RowS.nil _ _) s1.keep rfl rfl (fun o ho=>kO)
     have s3:=s2.put (m':={m with safe:=lJ m.pend ks m.safe,files:=mG (lJ m.pend ks m.safe) (ks.drop m.pend.length) m.files,now:=lJ m.pend ks m.safe,pend:=[],off:=true}) 0 (.bool true) rfl s2.now s2.safe s2.pend s2.keep rfl s2.pendE s2.opsF;have s4:=s3.put (m':={m with safe:=lJ m.pend ks m.safe,files:=mG (lJ m.pend ks m.safe) (ks.drop m.pend.length) m.files,now:=lJ m.pend ks m.safe,pend:=[],off:=true,armed:=0}) 6 (.int .i64 0) rfl s3.now s3.safe s3.pend s3.keep rfl s3.pendE s3.opsF
     have s5:=s4.put (m':=m.fail ks) (kv':=.slice none 0 0) 7 (.slice none 0 0) rfl s4.now s4.safe s4.pend (Ab _ _) rfl s4.pendE s4.opsF
     have ho5:Off S w (((((wr.setCell ⟨r,3,none⟩ (.slice sp j sc)).setCell ⟨r,5,none⟩ (.slice none 0 0)).setCell ⟨r,0,none⟩ (.bool true)).setCell ⟨r,6,none⟩ (.int .i64 0)).setCell ⟨r,7,none⟩ (.slice none 0 0)):=
      ((((HO.out.setCell _ _ (fun _=>H.out.sr)).setCell _ _ (fun _=>H.out.sr)).setCell _ _ (fun _=>H.out.sr)).setCell _ _ (fun _=>H.out.sr)).setCell _ _ (fun _=>H.out.sr)
     have hz5:(((((wr.setCell ⟨r,3,none⟩ (.slice sp j sc)).setCell ⟨r,5,none⟩ (.slice none 0 0)).setCell ⟨r,0,none⟩ (.bool true)).setCell ⟨r,6,none⟩ (.int .i64 0)).setCell ⟨r,7,none⟩ (.slice none 0 0)).heap.size=wr.heap.size:=by simp only[World.size_setCell]
     have HF5:=hZ s5;have HO5:=hZ ho5
     have HZ5:=hZ hz5;clear hm hn0 s1 s2 s3 s4 s5 ho5 hz5 hfin;go_wp2_with fail;go_end0
     exact⟨rfl,⟨⟨_,_,_,_,_,_,HF5.out.sup (tY (by rw[HZ5.out];exact Nat.le_refl _)) (fun b hb=>hb.elim (fun hb=>Nat.lt_of_lt_of_le (H.out.lt b hb) HO5.out.size) (fun hb=>hb.2))⟩,HOK.out.fail ks,by
      show(mG _ _ _).length≤n;rw[nC];exact hfn⟩,HO5.out⟩
theorem RowS.grown{α:Type}{T sz:Nat}{cl:α→Array Value}{S:Nat→Prop}{w W0 W1:World}{v v':Value}{xs:List α}{x:α}(h:RowS T sz cl S w v xs)(hl:∀b,S b→b<w.heap.size)(hb:Below w.heap.size w W0)(hg:W0.grownBy W1 v.ownBlock)
  (hat:v'.ownBlock=v.ownBlock∨v'.ownBlock=some W0.heap.size) (hown:W1.ownsRow 0 T sz v' (xs.length+1) (pZ cl xs++(cl x).toList)):RowS T sz cl (mU S w W1) W1 v' (xs++[x])∧TKeep S w W1 (fun t=>t=T)∧Off S w W1:=by
 refine⟨⟨by rw[List.length_append,Cv];exact hown,fun b hb2=>?_⟩,fun b cur T' hS hc hT=>?_,?_⟩
 ·rcases hat with e|e
  ·exact .inl (h.2 b (by rw[←e];exact hb2))
  ·rw[e]at hb2;cases hb2;refine .inr ⟨hb.size,?_⟩;rcases hown.2 with⟨rfl,-⟩|⟨g,cap,cur,rfl,-,h3,-⟩
   ·cases e
   ·cases e;exact lH h3
 ·have hlt:=hl b hS;refine(hg.block b (Nat.lt_of_lt_of_le hlt hb.size) (fun e=>?_)).trans (hb.block b hlt);rcases h.1.2 with⟨rfl,-⟩|⟨g,cap,cur',rfl,-,h3,-⟩
  ·cases e
  ·cases e;rw[h3]at hc;cases hc;exact hT rfl
 ·refine⟨hg.os.trans hb.os,hg.tape.trans hb.tape,hg.output.trans hb.output,Nat.le_trans hb.size hg.size,fun b hlt hn=>(hg.block b (Nat.lt_of_lt_of_le hlt hb.size) (fun e=>hn (h.2 b e.symm))).trans (hb.block b hlt)⟩
theorem TKeep.setSup{S:Nat→Prop}{w W1:World}{r i:Nat}{hd:Array Value}{D:TypeId}{x:Value}{T:TypeId}(h:TKeep S w W1 (fun t=>t=T))(hr:W1.heap[r]?=some (.cells hd D (0,0))):TKeep S w (W1.setCell ⟨r,i,none⟩ x) (fun t=>t=T∨t=D):=fun b cur T' hS hc hT=>by
 have h1:=h b cur T' hS hc (fun e=>hT (.inl e));refine(Below.heap_setCell _ _ _ _ fun e=>?_).trans h1;have e:b=r:=e
 subst e;rw[h1]at hr;rw[hr]at hc;cases hc;exact hT (.inr rfl)
section
variable {w W0 W1:World} {r:Nat} {m m':DM} {S:Nat→Prop} {fv nv sv pv kv nv' sv' pv' kv' v':Value} {ro ro':List ROp}
theorem tU(w:World)(p:Addr)(v:Value):(w.setCell p v).heap.size=w.heap.size:=World.size_setCell _ _ _
theorem RefRaw.appFile(h:RefRaw w r m S fv nv sv pv kv ro){f:Fil}(hb:Below w.heap.size w W0)(hg:W0.grownBy W1 fv.ownBlock)(hat:v'.ownBlock=fv.ownBlock∨v'.ownBlock=some W0.heap.size)
  (hown:W1.ownsRow 0 180 2 v' (m.files.length+1) (pZ xL m.files++(xL f).toList)):
  RefRaw (W1.setCell ⟨r,2,none⟩ v') r {m with files:=m.files++[f]} (mU S w (W1.setCell ⟨r,2,none⟩ v')) v' nv sv pv kv ro∧Off S w (W1.setCell ⟨r,2,none⟩ v')∧W1.heap[r]?=some (.cells (wD m fv nv sv pv kv) 167 (0,0)):=by
 obtain⟨h1,h2,h3⟩:=h.files.grown h.lt hb hg hat hown;have hr1:W1.heap[r]?=some (.cells (wD m fv nv sv pv kv) 167 (0,0)):=(h2 r _ _ h.sr h.head aA).trans h.head
 have hk:=h2.setSup (i:=2) (x:=v') hr1;have hz:=tU W1 ⟨r,2,none⟩ v'
 have hsz:w.heap.size≤(W1.setCell ⟨r,2,none⟩ v').heap.size:=by rw[hz];exact h3.size
 refine⟨⟨?_,.inl h.sr,?_,h.nowG hk aA,h.safeG hk aA,h.pendG hk aA,h.pendE,h.opsF,h.keepG hk aA,h.growLt hsz⟩,h3.setCell _ _ (fun _=>h.sr),hr1⟩
 ·rw[lY hr1];exact lM (lH hr1)
 ·refine(h1.keep (fun b cur _ hc=>Below.heap_setCell _ _ _ _ fun e=>?_)).sup (tY jC);have e:b=r:=e
  subst e;rw[hr1]at hc;cases hc
theorem RefRaw.appOp(h:RefRaw w r m S fv nv sv pv kv ro){o:ROp}(ho:(o.file:Int)≤9223372036854775807)(hb:Below w.heap.size w W0)(hg:W0.grownBy W1 pv.ownBlock)(hat:v'.ownBlock=pv.ownBlock∨v'.ownBlock=some W0.heap.size)
  (hown:W1.ownsRow 0 175 4 v' (ro.length+1) (pZ oE ro++(oE o).toList)):
  RefRaw (W1.setCell ⟨r,5,none⟩ v') r {m with pend:=m.pend++[o.dop]} (mU S w (W1.setCell ⟨r,5,none⟩ v')) fv nv sv v' kv (ro++[o])∧Off S w (W1.setCell ⟨r,5,none⟩ v')∧W1.heap[r]?=some (.cells (wD m fv nv sv pv kv) 167 (0,0)):=by
 obtain⟨h1,h2,h3⟩:=h.pend.grown h.lt hb hg hat hown;have hr1:W1.heap[r]?=some (.cells (wD m fv nv sv pv kv) 167 (0,0)):=(h2 r _ _ h.sr h.head aA).trans h.head
 have hk:=h2.setSup (i:=5) (x:=v') hr1;have hz:=tU W1 ⟨r,5,none⟩ v'
 have hsz:w.heap.size≤(W1.setCell ⟨r,5,none⟩ v').heap.size:=by rw[hz];exact h3.size
 refine⟨⟨?_,.inl h.sr,h.filesG hk aA,h.nowG hk aA,h.safeG hk aA,?_,?_,?_,h.keepG hk aA,h.growLt hsz⟩,h3.setCell _ _ (fun _=>h.sr),hr1⟩
 ·rw[lY hr1];exact lM (lH hr1)
 ·refine(h1.keep (fun b cur _ hc=>Below.heap_setCell _ _ _ _ fun e=>?_)).sup (tY jC);have e:b=r:=e
  subst e;rw[hr1]at hc;cases hc
 ·show m.pend++[o.dop]=(ro++[o]).map ROp.dop;rw[List.map_append,←h.pendE]
  rfl
 ·intro o' ho';rcases List.mem_append.1 ho' with h'|h'
  ·exact h.opsF o' h'
  ·rw[List.mem_singleton.1 h'];exact ho
theorem RefRaw.newNow(h:RefRaw w r m S fv nv sv pv kv ro){u:Value}{t:Tab}(hb:Below w.heap.size w W0)(hl:oB (mU S w W0) W0 u t):
  RefRaw (W0.setCell ⟨r,3,none⟩ u) r {m with now:=t} (mU S w (W0.setCell ⟨r,3,none⟩ u)) fv u sv pv kv ro:=by
 have h0:=h.frame (fun b hS=>hb.block b (h.lt b hS)) hb.size;have hz:=tU W0 ⟨r,3,none⟩ u
 have hk:=h0.setKeep 3 u
 have hup:∀b,mU S W0 (W0.setCell ⟨r,3,none⟩ u) b→mU S w (W0.setCell ⟨r,3,none⟩ u) b:=by
  rintro b (hS|⟨h1,h2⟩)
  ·exact .inl hS
  ·omega
 refine⟨h0.headSet 3 u rfl,.inl h.sr,(h0.filesG hk aA).sup hup,?_,(h0.safeG hk aA).sup hup,(h0.pendG hk aA).sup hup,h.pendE,h.opsF,⟨(h0.keepG hk aA).1,fun b hS=>hup b ((h0.keepG hk aA).2 b hS)⟩,h.growLt (by rw[hz];exact hb.size)⟩;refine(hl.keep (fun b cur _ hc=>Below.heap_setCell _ _ _ _ (fun e=>?_))).sup (tY jC);have e:b=r:=e
 subst e;rw[h0.head]at hc;cases hc
theorem FJ{cur:Array Value}{k:Nat}{v:Value}(h:cur[k]?=some v):cur.setIfInBounds k v=cur:=by
 refine Array.ext_getElem? fun i=>?_
 rw[Array.getElem?_setIfInBounds];by_cases e:k=i
 ·subst e;rw[if_pos rfl,if_pos (Array.getElem?_eq_some_iff.1 h).1,h]
 ·rw[if_neg e]
theorem RefRaw.putData{gf F fc i:Nat}{f:Fil}{d:ByteArray}(h:RefRaw w r m S (.slice (some ⟨gf,0,none⟩) F fc) nv sv pv kv ro)(hf:m.files[i]?=some f):
  RefRaw (w.setCell ⟨gf,i*2,none⟩ (.string d)) r {m with files:=m.files.set i ⟨d,f.safe⟩} S (.slice (some ⟨gf,0,none⟩) F fc) nv sv pv kv ro:=by
 have hi:=(List.getElem?_eq_some_iff.1 hf).1;have h1:=(h.putFile ⟨d,f.safe⟩ hi).1
 obtain⟨g,cur,e,-,hg,hc⟩:=h.files.cell vL hf;cases e;have hc1:=hc 1 aA
 have e2:(w.setCell ⟨gf,i*2,none⟩ (.string d)).setCell ⟨gf,i*2+1,none⟩ (.int .i64 f.safe)=w.setCell ⟨gf,i*2,none⟩ (.string d):=by
  rw[lY hg,mM (lH hg),FJ];rw[Array.getElem?_setIfInBounds,if_neg aC,←lF hg];exact hc1
 have h1:RefRaw ((w.setCell ⟨gf,i*2,none⟩ (.string d)).setCell ⟨gf,i*2+1,none⟩ (.int .i64 f.safe)) r _ _ _ _ _ _ _ _:=h1;rw[e2]at h1;exact h1
theorem RefRaw.putSafe{gf F fc i:Nat}{f:Fil}{k:Nat}(h:RefRaw w r m S (.slice (some ⟨gf,0,none⟩) F fc) nv sv pv kv ro)(hf:m.files[i]?=some f):
  RefRaw (w.setCell ⟨gf,i*2+1,none⟩ (.int .i64 k)) r {m with files:=m.files.set i ⟨f.data,k⟩} S (.slice (some ⟨gf,0,none⟩) F fc) nv sv pv kv ro:=by
 have hi:=(List.getElem?_eq_some_iff.1 hf).1;have h1:=(h.putFile ⟨f.data,k⟩ hi).1
 obtain⟨g,cur,e,-,hg,hc⟩:=h.files.cell vL hf;cases e;have hc0:=hc 0 aA
 have e2:w.setCell ⟨gf,i*2,none⟩ (.string f.data)=w:=by
  rw[lY hg,FJ]
  ·refine vM (fun k=>?_) rfl rfl rfl rfl;rw[qJ];by_cases e:gf=k
   ·subst e;rw[if_pos rfl,if_pos (lH hg),hg]
   ·rw[if_neg e]
  ·rw[←lF hg];exact hc0
 have h1:RefRaw ((w.setCell ⟨gf,i*2,none⟩ (.string f.data)).setCell ⟨gf,i*2+1,none⟩ (.int .i64 k)) r _ _ _ _ _ _ _ _:=h1;rw[e2]at h1;exact h1
end
structure NowW (wr:World) (r:Nat) (S:Nat→Prop) (t':Tab) (L:Nat→Bool) (γ:Value) (W:World):Prop where
 bel:L 9=false→Below wr.heap.size wr W
 one:L 6=true→L 9=false→oB (mU S wr W) W γ t'
 fin:L 9=true→∃W0,Below wr.heap.size wr W0∧oB (mU S wr W0) W0 γ t'∧W=W0.setCell ⟨r,3,none⟩ γ
 c9:L 9=true→∀j,j<9→L j=true
 c8:L 8=true→L 7=true
section
variable {wr W W':World} {r:Nat} {S:Nat→Prop} {t':Tab} {L:Nat→Bool} {γ u:Value}
theorem NowW.off(h:NowW wr r S t' L γ W){i:Nat}(hL:L i=false)(hi:i<9):L 9=false:=by
 cases hx:L 9 with
 |false=>rfl
 |true=>rw[h.c9 hx i hi]at hL;cases hL
theorem NowW.same(h:NowW wr r S t' L γ W){i:Nat}(hL:L i=false)(hi:i<9)(b j:Nat)(hb:b<wr.heap.size):W.cell? ⟨b,j,none⟩=wr.cell? ⟨b,j,none⟩:=lK ((h.bel (h.off hL hi)).block b hb)
theorem NowW.upd(h:NowW wr r S t' L γ W)(k:Nat)(h1:k≠6)(h2:k≠9)(h3:k=8→L 7=true):NowW wr r S t' (mQ L k) γ W:=
 ⟨fun hx=>h.bel iA,fun hx hy=>h.one (mZ hx (Ne.symm h1)) hY,fun hx=>h.fin (mZ hx (Ne.symm h2)),fun hx j hj=>(by
  unfold mQ;rw[h.c9 (mZ hx (Ne.symm h2)) j hj]
  rfl),fun hx=>(by
  by_cases e:k=8
  ·unfold mQ;rw[h3 e];rfl
  ·unfold mQ;rw[h.c8 (mZ hx (Ne.symm e))];rfl)⟩
theorem NowW.called(h:NowW wr r S t' L γ W)(hL:L 6=false)(hg:oB (mU S W W') W' u t')(hb:Below W.heap.size W W'):NowW wr r S t' (mQ L 6) u W':=by
 have h9:=h.off hL aA;have hbel:=h.bel h9
 refine⟨fun _=>hbel.trans (hb.mono hbel.size),fun _ _=>?_,fun hx=>?_,fun hx=>?_,fun hx=>?_⟩
 ·refine hg.sup (fun b hb2=>?_);have hz:=hbel.size
  rcases hb2 with hb2|⟨hb2,hb3⟩
  ·exact .inl hb2
  ·exact .inr ⟨aC,hb3⟩
 ·have:=mZ hx aA;rw[h9]at this;cases this
 ·have:=mZ hx aA;rw[h9]at this;cases this
 ·exact(mB aA).trans (h.c8 (mZ hx aA))
theorem NowW.stored(h:NowW wr r S t' L γ W)(h9:L 9=false)(h6:L 6=true)(hall:∀j,j<9→L j=true):NowW wr r S t' (mQ L 9) γ (W.setCell ⟨r,3,none⟩ γ):=
 ⟨fun hx=>fR,fun _ hx=>fR,fun _=>⟨W,h.bel h9,h.one h6 h9,rfl⟩,fun _ j hj=>(by unfold mQ;rw[hall j hj];rfl),fun _=>(mB aA).trans (hall 7 aA)⟩
end
structure PenW (wr:World) (r:Nat) (pv:Value) (ro:List ROp) (o:ROp) (L:Nat→Bool) (γ:Nat×Value) (W:World):Prop where
 bel:L 7=false→Below wr.heap.size wr W
 box:L 6=true→L 7=false→W.heap[γ.1]?=some (.cells (oE o) 175 (0,0))∧wr.heap.size≤γ.1
 app:L 7=true→L 10=false→∃W0,Below wr.heap.size wr W0∧W0.grownBy W pv.ownBlock∧W.ownsRow 0 175 4 γ.2 (ro.length+1) (pZ oE ro++(oE o).toList)∧(γ.2.ownBlock=pv.ownBlock∨γ.2.ownBlock=some W0.heap.size)
 fin:L 10=true→∃W0 W1,Below wr.heap.size wr W0∧W0.grownBy W1 pv.ownBlock∧W1.ownsRow 0 175 4 γ.2 (ro.length+1) (pZ oE ro++(oE o).toList)∧(γ.2.ownBlock=pv.ownBlock∨γ.2.ownBlock=some W0.heap.size)∧W=W1.setCell ⟨r,5,none⟩ γ.2
 c7:L 7=true→L 4=true∧L 6=true
 c6:L 6=true→L 5=true
 c10:L 10=true→L 7=true
section
variable {wr W W':World} {r:Nat} {pv u:Value} {ro:List ROp} {o:ROp} {L:Nat→Bool} {γ:Nat×Value}
theorem PenW.off(h:PenW wr r pv ro o L γ W){i:Nat}(hL:L i=false)(hi:i=4∨i=5∨i=6):L 7=false:=by
 cases hx:L 7 with
 |false=>rfl
 |true=>
  obtain⟨h4,h6⟩:=h.c7 hx;rcases hi with rfl|rfl|rfl
  ·rw[h4]at hL;cases hL
  ·rw[h.c6 h6]at hL;cases hL
  ·rw[h6]at hL;cases hL
theorem PenW.same(h:PenW wr r pv ro o L γ W){i:Nat}(hL:L i=false)(hi:i=4∨i=5∨i=6)(b j:Nat)(hb:b<wr.heap.size):W.cell? ⟨b,j,none⟩=wr.cell? ⟨b,j,none⟩:=lK ((h.bel (h.off hL hi)).block b hb)
theorem PenW.upd(h:PenW wr r pv ro o L γ W)(k:Nat)(h1:k≠6)(h2:k≠7)(h3:k≠10):PenW wr r pv ro o (mQ L k) γ W:=
 ⟨fun hx=>h.bel iA,fun hx hy=>h.box (mZ hx (Ne.symm h1)) hY,fun hx hy=>h.app (mZ hx (Ne.symm h2)) (by rwa[mB (Ne.symm h3)]at hy),
  fun hx=>h.fin (mZ hx (Ne.symm h3)),fun hx=>(by obtain⟨h4,h6⟩:=h.c7 (mZ hx (Ne.symm h2));unfold mQ;rw[h4,h6];exact⟨rfl,rfl⟩),fun hx=>(by have:=h.c6 (mZ hx (Ne.symm h1));unfold mQ;rw[this];rfl),fun hx=>(mB (Ne.symm h2)).trans (h.c10 (mZ hx (Ne.symm h3)))⟩
theorem PenW.boxed(h:PenW wr r pv ro o L γ W)(hL:L 6=false)(h5:L 5=true):PenW wr r pv ro o (mQ L 6) (W.heap.size,γ.2) (W.alloc (.cells (oE o) 175)):=by
 have h7:=h.off hL aA;have hb:=h.bel h7
 refine⟨fun _=>hb.alloc hb.size _,fun _ _=>⟨lP W _,hb.size⟩,fun hx=>?_,fun hx=>?_,fun hx=>?_,fun _=>(mB aA).trans h5,fun hx=>?_⟩
 ·have:=mZ hx aA;rw[h7]at this;cases this
 ·have:=h.c10 (mZ hx aA);rw[h7]at this;cases this
 ·have:=mZ hx aA;rw[h7]at this;cases this
 ·exact(mB aA).trans (h.c10 (mZ hx aA))
theorem PenW.apped(h:PenW wr r pv ro o L γ W)(hL:L 7=false)(h4:L 4=true)(h6:L 6=true)(hg:W.grownBy W' pv.ownBlock)(hown:W'.ownsRow 0 175 4 u (ro.length+1) (pZ oE ro++(oE o).toList))(hat:u.ownBlock=pv.ownBlock∨u.ownBlock=some W.heap.size):PenW wr r pv ro o (mQ L 7) (γ.1,u) W':=by
 have h10:L 10=false:=by
  cases hx:L 10 with
  |false=>rfl
  |true=>rw[h.c10 hx]at hL;cases hL
 refine⟨fun hx=>?_,fun _ hx=>?_,fun _ _=>⟨W,h.bel hL,hg,hown,hat⟩,fun hx=>?_,fun _=>⟨(mB aA).trans h4,(mB aA).trans h6⟩,fun _=>(mB aA).trans (h.c6 h6),fun _=>nV⟩
 ·rw[nV]at hx;cases hx
 ·rw[nV]at hx;cases hx
 ·have:=mZ hx aA;rw[h10]at this;cases this
theorem PenW.stored(h:PenW wr r pv ro o L γ W)(hL:L 10=false)(h7:L 7=true):PenW wr r pv ro o (mQ L 10) γ (W.setCell ⟨r,5,none⟩ γ.2):=by
 obtain⟨W0,p1,p2,p3,p4⟩:=h.app h7 hL;refine⟨fun hx=>?_,fun _ hx=>?_,fun _ hx=>?_,fun _=>⟨W0,W,p1,p2,p3,p4,rfl⟩,fun _=>⟨(mB aA).trans (h.c7 h7).1,(mB aA).trans (h.c7 h7).2⟩,fun hx=>(mB aA).trans (h.c6 (mZ hx aA)),fun _=>(mB aA).trans h7⟩
 ·rw[mB aA,h7]at hx;cases hx
 ·rw[mB aA,h7]at hx;cases hx
 ·rw[nV]at hx;cases hx
end
theorem yP{w:World}{base T sz n:Nat}{v:Value}{xs:List Value}(h:w.ownsRow base T sz v n xs):∃p c,v=.slice p n c:=by
 rcases h.2 with⟨rfl,rfl⟩|⟨g,cap,cur,rfl,-⟩
 ·exact⟨none,0,rfl⟩
 ·exact⟨_,_,rfl⟩
theorem Ep{w:World}{b:Nat}{cs:Array Value}{T:TypeId}(h:w.heap[b]?=some (.cells cs T (0,0)))(j:Nat):w.cell? ((⟨b,0,none⟩:Addr).add j)=cs[j]?:=by
 rw[show((⟨b,0,none⟩:Addr).add j)=⟨b,j,none⟩ by simp[Addr.add];intro e;exact e.symm];exact lF h
theorem Ha:(Tryz.prog.info? 175).map (fun i=>(i.zero,i.size,i.bytes))=some (some (.agg #[.int .i64 0,.string ⟨#[]⟩,.string ⟨#[]⟩,.int .i64 0]),4,48):=aE
theorem KN:(Tryz.prog.info? 180).map (fun i=>(i.zero,i.size,i.bytes))=some (some (.agg #[.string ⟨#[]⟩,.int .i64 0]),2,24):=aE
theorem pL{m:DM}{x:Int}(h:(if 1≤m.armed then m.armed-1 else 0)=x):m.tick={m with armed:=x}:=by
 unfold DM.tick;rw[h]
theorem AJ{m:DM}{c:DCall}(ho:m.off=false)(hr:m.refused c=0)(ha:m.armed=1):m.op c=((if c.late then m.tick else m.tick.act c).fail m.keep,27):=by
 unfold DM.op;rw[if_neg iB,if_neg (by rw[hr];exact fun h=>h rfl),if_pos ha]
theorem xH{m:DM}{c:DCall}(ho:m.off=false)(hr:m.refused c=0)(ha:m.armed≠1):m.op c=(m.tick.act c,0):=by
 unfold DM.op;rw[if_neg iB,if_neg (by rw[hr];exact fun h=>h rfl),if_neg ha]
structure DoS (w V:World) (r:Nat) (m:DM) (S SV:Nat→Prop) (fv nv sv pv kv:Value) (ro:List ROp) (bx:Array Value):Prop where
 raw:RefRaw V r m SV fv nv sv pv kv ro
 off:Off S w V
 sub:∀b,SV b→mU S w V b
 box:V.heap[w.heap.size]?=some (.cells bx 175 (0,0))
section
variable {w V V':World} {r:Nat} {m:DM} {S SV:Nat→Prop} {fv nv sv pv kv:Value} {ro:List ROp} {bx:Array Value}
theorem DoS.same(h:DoS w V r m S SV fv nv sv pv kv ro bx)(hh:V'.heap=V.heap)(h1:V'.os=V.os)(h2:V'.tape=V.tape)(h3:V'.output=V.output):DoS w V' r m S SV fv nv sv pv kv ro bx:=
 ⟨h.raw.frame (fun b _=>by rw[hh]) (by rw[hh];exact Nat.le_refl _),⟨h1.trans h.off.os,h2.trans h.off.tape,h3.trans h.off.output,by rw[hh];exact h.off.size,fun b hb hn=>by rw[hh];exact h.off.block b hb hn⟩,fun b hb=>by
  rcases h.sub b hb with h4|⟨h4,h5⟩
  ·exact .inl h4
  ·exact .inr ⟨h4,by rw[hh];exact h5⟩,by rw[hh];exact h.box⟩
theorem DoS.drews(h:DoS w V r m S SV fv nv sv pv kv ro bx)(q:Nat):DoS w (V.drewN q) r m S SV fv nv sv pv kv ro bx:=h.same rfl rfl rfl rfl
theorem DoS.lt(h:DoS w V r m S SV fv nv sv pv kv ro bx):∀b,SV b→b<V.heap.size:=h.raw.lt
theorem DoS.post{n:Nat}(h:DoS w V r m S SV fv nv sv pv kv ro bx)(hl:∀b,S b→b<w.heap.size)(hok:m.Ok n)(hf:m.files.length≤n):nM r n m S w V:=
 ⟨⟨⟨_,_,_,_,_,_,h.raw.sup h.sub (fun b hb=>hb.elim (fun hb=>Nat.lt_of_lt_of_le (hl b hb) h.off.size) (fun hb=>hb.2))⟩,hok,hf⟩,h.off⟩
theorem DoS.now{W0:World}{u:Value}{t:Tab}(h:DoS w V r m S SV fv nv sv pv kv ro bx)(hS:S r)(hr:r<w.heap.size)(hb:Below V.heap.size V W0)(hl:oB (mU SV V W0) W0 u t):
  DoS w (W0.setCell ⟨r,3,none⟩ u) r {m with now:=t} S (mU SV V (W0.setCell ⟨r,3,none⟩ u)) fv u sv pv kv ro bx:=by
 have hz:=tU W0 ⟨r,3,none⟩ u;have ho:Off S w (W0.setCell ⟨r,3,none⟩ u):=(h.off.below hb h.off.size).setCell _ _ (fun _=>hS)
 refine⟨h.raw.newNow hb hl,ho,fun b hb2=>?_,?_⟩
 ·rcases hb2 with hb2|⟨hb2,hb3⟩
  ·rcases h.sub b hb2 with h4|⟨h4,h5⟩
   ·exact .inl h4
   ·exact .inr ⟨h4,by rw[hz];have:=hb.size;omega⟩
  ·have h1:=h.off.size;exact .inr ⟨aC,hb3⟩
 ·exact(Below.heap_setCell _ _ _ _ (fun e=>by have e:w.heap.size=r:=e;omega)).trans ((hb.block _ (lH h.box)).trans h.box)
theorem DoS.pen{W0 W1:World}{v':Value}{o:ROp}(h:DoS w V r m S SV fv nv sv pv kv ro bx)(hS:S r)(hr:r<w.heap.size)(hlt:∀b,S b→b<w.heap.size)(ho:(o.file:Int)≤9223372036854775807)(hb:Below V.heap.size V W0)(hg:W0.grownBy W1 pv.ownBlock)(hat:v'.ownBlock=pv.ownBlock∨v'.ownBlock=some W0.heap.size)
  (hown:W1.ownsRow 0 175 4 v' (ro.length+1) (pZ oE ro++(oE o).toList)):
  ∃SV',RefRaw (W1.setCell ⟨r,5,none⟩ v') r {m with pend:=m.pend++[o.dop]} SV' fv nv sv v' kv (ro++[o])∧Off S w (W1.setCell ⟨r,5,none⟩ v')∧(∀b,SV' b→mU S w (W1.setCell ⟨r,5,none⟩ v') b):=by
 obtain⟨h1,h2,h3⟩:=h.raw.appOp ho hb hg hat hown;refine⟨_,h1,⟨h2.os.trans h.off.os,h2.tape.trans h.off.tape,h2.output.trans h.off.output,Nat.le_trans h.off.size h2.size,fun b hb2 hn=>(h2.block b (Nat.lt_of_lt_of_le hb2 h.off.size) (fun hs=>?_)).trans (h.off.block b hb2 hn)⟩,fun b hb2=>?_⟩
 ·rcases h.sub b hs with h4|⟨h4,h5⟩
  ·exact hn h4
  ·omega
 ·rcases hb2 with hb2|⟨hb2,hb3⟩
  ·rcases h.sub b hb2 with h4|⟨h4,h5⟩
   ·exact .inl h4
   ·exact .inr ⟨h4,Nat.lt_of_lt_of_le h5 h2.size⟩
  ·have h1:=h.off.size;exact .inr ⟨aC,hb3⟩
end
theorem Er(m:DM)(c:DCall):m.tick.refused c=m.refused c:=by cases c<;>rfl
theorem Es{w:World}{r n:Nat}{m:DM}{S:Nat→Prop}(h:RefAt w r n m S)(old name s:ByteArray)(file:Nat)(hn:n*m.room≤4611686018427387904)(hn2:n+1≤1000000000000)(hs:s.size≤140737488355328)(hof:(file:Int)≤9223372036854775807)
  (hoff:m.off=false) (href:m.refused (.create name)=0):
  Calls Tryz.prog 123 #[.pointer (some ⟨r,0,none⟩),.agg #[.int .i64 1,.string old,.string name,.int .i64 file],.string s] w fun e w'=>e=.returned (.int .i64 (m.op (.create name)).2)∧nM r (n+1) (m.op (.create name)).1 S w w':=by
 have hrf:=fun W (hb:RefAt W r n m S)=>qV hb ⟨1,old,name,file⟩ s (by show(1:Int)≤1;decide) (by show(1:Int)≤6;decide) hn aC hs
 have hrc:mV ⟨1,old,name,file⟩ s=.create name:=rfl;rw[hrc,href]at hrf;have hlt:=h.lt
 have hfn:=h.filesN;have hok:=h.ok
 have hactok:=hok.tick.act (.create name) bO fZ;have hb0:=(Below.refl w.heap.size w).alloc (Nat.le_refl _) (.cells #[.int .i64 1,.string old,.string name,.int .i64 file] 175)
 have HREF:=hZ (hrf _ (h.below hb0));obtain⟨⟨fv,nv,sv,pv,kv,ro,h1⟩,-,-⟩:=h.below hb0;have HRW:=hZ h1
 have HB0:=hZ hb0;have HBX:=hZ (lP w (.cells #[.int .i64 1,.string old,.string name,.int .i64 file] 175))
 have HSR:=hZ h1.sr;have HRL0:=hZ (hlt r h1.sr)
 have HLT:=hZ hlt;have HOK:=hZ hok
 have HACT:=hZ hactok;have d0:(w.alloc (.cells #[.int .i64 1,.string old,.string name,.int .i64 file] 175)).cell? ⟨w.heap.size,0,none⟩=some (.int .i64 1):=lF HBX.out
 have d1:(w.alloc (.cells #[.int .i64 1,.string old,.string name,.int .i64 file] 175)).cell? ⟨w.heap.size,1,none⟩=some (.string old):=lF HBX.out;have d2:(w.alloc (.cells #[.int .i64 1,.string old,.string name,.int .i64 file] 175)).cell? ⟨w.heap.size,2,none⟩=some (.string name):=lF HBX.out
 have d3:(w.alloc (.cells #[.int .i64 1,.string old,.string name,.int .i64 file] 175)).cell? ⟨w.heap.size,3,none⟩=some (.int .i64 file):=lF HBX.out;have c0:=h1.cells.1
 rw[hoff]at c0;clear h h1 hb0 hrf hlt hok hactok;go_enter Tryz.func123,Tryz.ntmps123;go_wp2_with fail;refine HREF.out.mono ?_;rintro e w1 ⟨rfl,hb1⟩
 have HS1:Hid (DoS w w1 r m S S fv nv sv pv kv ro #[.int .i64 1,.string old,.string name,.int .i64 file]):=hZ
  ⟨HRW.out.frame (fun b hb=>hb1.block b (HRW.out.lt b hb)) hb1.size,((Off.refl S w).below HB0.out (Nat.le_refl _)).below hb1 HB0.out.size,fun b hb=>.inl hb,(hb1.block _ (lH HBX.out)).trans HBX.out⟩
 clear hb1 d0 d1 d2 d3 c0 HREF HRW HB0 HBX;have harm:=HOK.out.arm0
 have harm1:=HOK.out.arm1;have hway:m.armed=0∨m.armed=1∨1<m.armed:=aC
 rcases hway with ha|ha|ha
 case' inl=>
  have htk:m.tick={m with armed:=0}:=pL cA;have c6:=HS1.out.raw.cells.2.2.2.2.2.2.1
  have f6:w1.frozen? ⟨r,6,none⟩=false:=lI HS1.out.raw.head;rw[ha]at c6
  have HS2:Hid (DoS w w1 r m.tick S S fv nv sv pv kv ro #[.int .i64 1,.string old,.string name,.int .i64 file]):=hZ (by
   rw[htk];have hm:({m with armed:=0}:DM)=m:=bV
   rw[hm];exact HS1.out)
  have HDO:=hZ (xH hoff href dQ);clear htk;go_wp2_with fail;clear HS1 c6 f6;generalize w1=w2 at HS2⊢
 case' inr.inl=>
  have htk:m.tick={m with armed:=0}:=pL cA;have c6:=HS1.out.raw.cells.2.2.2.2.2.2.1
  have f6:w1.frozen? ⟨r,6,none⟩=false:=lI HS1.out.raw.head;rw[ha]at c6;have hq:=HS1.out.raw.put (m':={m with armed:=0}) 6 (.int .i64 0) rfl HS1.out.raw.now HS1.out.raw.safe HS1.out.raw.pend HS1.out.raw.keep rfl HS1.out.raw.pendE HS1.out.raw.opsF
  have HS2:Hid (DoS w (w1.setCell ⟨r,6,none⟩ (.int .i64 0)) r m.tick S S fv nv sv pv kv ro #[.int .i64 1,.string old,.string name,.int .i64 file]):=hZ ⟨bL,HS1.out.off.setCell _ _ (fun _=>HSR.out),fun b hb=>.inl hb,(Below.heap_setCell _ _ _ _ (fun e=>cU)).trans HS1.out.box⟩;have HDO:=hZ (AJ hoff href ha)
  clear hq;clear htk;go_wp2_with fail;have HST:=hZ ha
  generalize w1.setCell ⟨r,6,none⟩ (.int .i64 0)=w2 at HS2⊢;clear HS1 c6 f6
 case' inr.inr=>
  have htk:m.tick={m with armed:=(m.armed-1)}:=pL gD;have c6:=HS1.out.raw.cells.2.2.2.2.2.2.1
  have f6:w1.frozen? ⟨r,6,none⟩=false:=lI HS1.out.raw.head;have hb1:(m.armed==1)=false:=beq_eq_false_iff_ne.2 aC
  have hb2:(0:Int)<m.armed:=aC;have hq:=HS1.out.raw.put (m':={m with armed:=(m.armed-1)}) 6 (.int .i64 (m.armed-1)) rfl HS1.out.raw.now HS1.out.raw.safe HS1.out.raw.pend HS1.out.raw.keep rfl HS1.out.raw.pendE HS1.out.raw.opsF
  have HS2:Hid (DoS w (w1.setCell ⟨r,6,none⟩ (.int .i64 (m.armed-1))) r m.tick S S fv nv sv pv kv ro #[.int .i64 1,.string old,.string name,.int .i64 file]):=hZ ⟨bL,HS1.out.off.setCell _ _ (fun _=>HSR.out),fun b hb=>.inl hb,(Below.heap_setCell _ _ _ _ (fun e=>cU)).trans HS1.out.box⟩;have HDO:=hZ (xH hoff href aC)
  clear hq;clear htk;go_wp2_with fail;generalize w1.setCell ⟨r,6,none⟩ (.int .i64 (m.armed-1))=w2 at HS2⊢;clear HS1 c6 f6 hb1 hb2
 all_goals
  have H3:=hZ HS2.out.raw;obtain⟨np,nc,hnv⟩:=HS2.out.raw.now.form;have c3:=HS2.out.raw.cells.2.2.2.1
  obtain⟨N,hN⟩:∃N,m.tick.now.length=N:=⟨_,rfl⟩
  rw[hN]at hnv;subst hnv;have hNn:N≤n:=cE
  have HN:=hZ hN;have d2:w2.cell? ⟨w.heap.size,2,none⟩=some (.string name):=lF HS2.out.box
  have hat:∀q,Calls Tryz.prog 124 #[.slice np N nc,.string name] (w2.drewN q) fun e w'=>e=.returned (.int .i64 (zT m.now name.data.toList))∧w'=w2.drewN q:=fun q=>
   (wK (HS2.out.drews q).raw.now name (Nat.le_trans HOK.out.nowN aC)).mono (fun e w' hp=>⟨hp.1,hp.2.symm⟩)
  have hg:lS m.now name.data.toList=none:=by
   have h:=href;simp only[DM.refused]at h;split at h
   ·split at h
    ·cases h
    ·rename_i hx;simpa[DM.get]using hx
   ·cases h
  rw[rJ hg]at hat;have HAT:=hZ hat
  clear hat hN H3;go_quiet ((go_at_call 124;exact Calls.quiet_of_same (HAT.out _)));rename_i nq;have HS3:=hZ (HS2.out.drews nq)
  generalize w2.drewN nq=V at HS3⊢;clear HS2 c3 d2 HAT;have d0:V.cell? ⟨w.heap.size,0,none⟩=some (.int .i64 1):=lF HS3.out.box
  have d1:V.cell? ⟨w.heap.size,1,none⟩=some (.string old):=lF HS3.out.box;have d2:V.cell? ⟨w.heap.size,2,none⟩=some (.string name):=lF HS3.out.box
  have d3:V.cell? ⟨w.heap.size,3,none⟩=some (.int .i64 file):=lF HS3.out.box;obtain⟨fp,fc,hfv⟩:=HS3.out.raw.files.form;have hfv:fv=.slice fp m.files.length fc:=hfv
  subst hfv;have c2:=HS3.out.raw.cells.2.2.1
  have hfl1:m.files.length≤1000000000000:=aC;have hfli:(m.files.length:Int)≤1000000000000:=aC
  have g3:V.frozen? ⟨w.heap.size,3,none⟩=false:=lI HS3.out.box;have hSb:¬S w.heap.size:=fun hS=>absurd (HLT.out _ hS) aC
  have hV1:(V.setCell ⟨w.heap.size,3,none⟩ (.int .i64 m.files.length)).heap[w.heap.size]?=some (.cells #[.int .i64 1,.string old,.string name,.int .i64 m.files.length] 175 (0,0)):=by
   rw[lY HS3.out.box];exact lM (lH HS3.out.box)
  have HSA:Hid (DoS w (V.setCell ⟨w.heap.size,3,none⟩ (.int .i64 m.files.length)) r m.tick S S (.slice fp m.files.length fc) (.slice np N nc) sv pv kv ro #[.int .i64 1,.string old,.string name,.int .i64 m.files.length]):=hZ
   ⟨HS3.out.raw.frame (fun b hb=>Below.heap_setCell _ _ _ _ (fun e=>by have e:b=w.heap.size:=e;subst e;exact hSb hb)) bD,HS3.out.off.setCell _ _ (fun h=>absurd h (Nat.lt_irrefl _)),fun b hb=>.inl hb,hV1⟩
  obtain⟨iF,hiF,hzF0,hzF1,hzF2⟩:=info_parts KN;have HFO:=hZ (HSA.out.raw.files.keep (w':=(V.setCell ⟨w.heap.size,3,none⟩ (.int .i64 m.files.length)).alloc (.cells #[.string ⟨#[]⟩,.int .i64 0] 180)) (fun b _ hS _=>Below.heap_alloc _ _ _ (HSA.out.raw.lt b hS))).1
  have hnw:=EE (V.setCell ⟨w.heap.size,3,none⟩ (.int .i64 m.files.length)) #[.string ⟨#[]⟩,.int .i64 0] 180;have hbal:=(Below.refl (V.setCell ⟨w.heap.size,3,none⟩ (.int .i64 m.files.length)).heap.size (V.setCell ⟨w.heap.size,3,none⟩ (.int .i64 m.files.length))).alloc (Nat.le_refl _) (.cells #[.string ⟨#[]⟩,.int .i64 0] 180)
  have HBAL:=hZ hbal;rw[World.size_setCell]at hnw;have HNW:=hZ hnw
  have hbr:w.heap.size≠r:=by have:=HRL0.out;omega
  have hbV:=lH HS3.out.box;have HSZ:=hZ (show(V.setCell ⟨w.heap.size,3,none⟩ (.int .i64 m.files.length)).heap.size=V.heap.size from World.size_setCell _ _ _)
  have c2b:(V.setCell ⟨w.heap.size,3,none⟩ (.int .i64 m.files.length)).cell? ⟨r,2,none⟩=some (.slice fp m.files.length fc):=HSA.out.raw.cells.2.2.1;clear hnw hbal hV1;go_wp2_with (at_builtin;refine wpList_append_own_at _ rfl _ _ 163 rfl 0 180 iF (.agg #[.string ⟨#[]⟩,.int .i64 0]) 2 24 Tryz.underlying163 hiF hzF0 hzF1 hzF2 rfl aA _ m.files.length (pZ xL m.files) rfl HFO.out ⟨V.heap.size,0,none⟩ 1 1 [.string ⟨#[]⟩,.int .i64 0] rfl rfl HNW.out (My ⟨⟨#[]⟩,0⟩) cT aC (Nat.zero_le _) ?_;intro v' w5 hown hg _ hat;obtain⟨vp,vc,hvv⟩:=yP hown;have HAP:=hZ (HSA.out.raw.appFile (f:=⟨⟨#[]⟩,0⟩) HBAL.out hg hat hown);subst hvv;have c2:w5.cell? ⟨r,2,none⟩=some (.slice fp m.files.length fc):=lF HAP.out.2.2;have f2:w5.frozen? ⟨r,2,none⟩=false:=lI HAP.out.2.2;have hx5:(w5.setCell ⟨r,2,none⟩ (.slice vp (m.files.length+1) vc)).heap[w.heap.size]?=some (.cells #[.int .i64 1,.string old,.string name,.int .i64 m.files.length] 175 (0,0)):=(HAP.out.2.1.block _ (by rw[HSZ.out];exact hbV) hSb).trans HSA.out.box;have HX5:=hZ hx5;have d0':(w5.setCell ⟨r,2,none⟩ (.slice vp (m.files.length+1) vc)).cell? ⟨w.heap.size,0,none⟩=some (.int .i64 1):=lF hx5;clear hown hg hat hx5);have hz5:=HAP.out.2.1.size
  have HS4:Hid (DoS w (w5.setCell ⟨r,2,none⟩ (.slice vp (m.files.length+1) vc)) r {m.tick with files:=m.files++[⟨⟨#[]⟩,0⟩]} S (mU S (V.setCell ⟨w.heap.size,3,none⟩ (.int .i64 m.files.length)) (w5.setCell ⟨r,2,none⟩ (.slice vp (m.files.length+1) vc))) (.slice vp (m.files.length+1) vc) (.slice np N nc) sv pv kv ro #[.int .i64 1,.string old,.string name,.int .i64 m.files.length]):=hZ
   ⟨HAP.out.1,HSA.out.off.tr HAP.out.2.1,fun b hb=>hb.elim .inl (fun hb=>.inr ⟨by have:=HSA.out.off.size;omega,hb.2⟩),HX5.out⟩
  clear HAP HX5 HSA HFO HBAL HNW HSZ c2b hz5 hbV;generalize mU S (V.setCell ⟨w.heap.size,3,none⟩ (.int .i64 m.files.length)) (w5.setCell ⟨r,2,none⟩ (.slice vp (m.files.length+1) vc))=SV at HS4;clear HS3 d0 d1 d2 d3 c2 f2 g3;generalize w5.setCell ⟨r,2,none⟩ (.slice vp (m.files.length+1) vc)=V at HS4 d0'⊢;have d0:V.cell? ⟨w.heap.size,0,none⟩=some (.int .i64 1):=lF HS4.out.box
  have d1:V.cell? ⟨w.heap.size,1,none⟩=some (.string old):=lF HS4.out.box;have d2:V.cell? ⟨w.heap.size,2,none⟩=some (.string name):=lF HS4.out.box
  have d3:V.cell? ⟨w.heap.size,3,none⟩=some (.int .i64 m.files.length):=lF HS4.out.box;have HRN:=hZ HS4.out.raw.now
  have HSV:=hZ HS4.out.raw.lt;have HRH:=hZ HS4.out.raw.head
  have HRL:=hZ (HS4.out.raw.lt r HS4.out.raw.sr);have C3:=hZ HS4.out.raw.cells.2.2.2.1
  have HBL:=hZ (lH HS4.out.box);have D0:=hZ d0
  have D1:=hZ d1;have D2:=hZ d2
  have D3:=hZ d3;have HTR:=hZ HOK.out.now
  have HTL:=hZ (show m.now.length≤2000000000000 by have:=HOK.out.nowN;omega);have HTI:=hZ (fun(p:Bs×Nat) (hp:p∈m.now)=>show(p.2:Int)≤9223372036854775807 by have:=HOK.out.nowI p hp;omega)
  have HOF:=hZ (show((m.files.length:Nat):Int)≤9223372036854775807 by omega)
  obtain⟨T,hT⟩:∃T,m.now=T:=⟨_,rfl⟩
  have HTT:=hZ hT;have HRN:Hid (oB SV V (.slice np N nc) T):=hZ kV
  rw[hT]at HTR HTL HTI;clear hT;have hI0:NowW V r SV ((ROp.dop ⟨1,old,name,m.files.length⟩).act T) (fun _=>false) undef V.drew:=⟨fun _=>(Below.refl _ V).drew,fun h=>aK,fun h=>aK,fun h=>aK,fun h=>aK⟩
  refine lQ (fun γ=>[.pointer (some ⟨r,0,none⟩),.pointer (some ⟨r,0,none⟩),.pointer (some ⟨r,0,none⟩),.pointer (some ⟨r,3,none⟩),.slice np N nc,.agg #[.int .i64 1,.string old,.string name,.int .i64 m.files.length],γ,.pointer (some ⟨r,0,none⟩),.pointer (some ⟨r,3,none⟩),undef]) (NowW V r SV ((ROp.dop ⟨1,old,name,m.files.length⟩).act T))
   [[],[],[1],[2],[3],[],[4,5],[0,0,1,2,3,4,5,6],[7,0,1,2,3,4,5,6],[8,6,6,0,1,2,3,4,5,6]] 165 undef mC rfl aE (fun _=>rfl) hI0 ?_ ?_
  ·refine⟨?_,?_,?_,?_,?_,?_,?_,?_,?_,?_,rfl⟩
   all_goals intro L γ W ev hL hd hW hc hf hg he h0
   ·have e0:ev (.tmp 0)=.pointer (some ⟨r,0,none⟩):=h0 0 rfl;clear he h0 hc hf hg;exact eK
   ·have e0:ev (.tmp 0)=.pointer (some ⟨r,0,none⟩):=h0 0 rfl;clear he h0 hc hf hg;exact eJ
   ·have e140:ev (.tmp 140)=.pointer (some ⟨r,0,none⟩):=he 1 aA _ 140 rfl rfl;clear he h0 hc hf hg;exact eI
   ·have e141:ev (.tmp 141)=.pointer (some ⟨r,0,none⟩):=he 2 aA _ 141 rfl rfl;clear he h0 hc hf hg;exact eH
   ·have e142:ev (.tmp 142)=.pointer (some ⟨r,3,none⟩):=he 3 aA _ 142 rfl rfl;have c:W.cell? ⟨r,3,none⟩=some (.slice np N nc):=(hW.same hL aA r 3 HRL.out).trans C3.out
    clear he h0 hc hf hg;exact eG
   ·have e4:ev (.tmp 4)=.pointer (some ⟨w.heap.size,0,none⟩):=h0 4 rfl;have d0:W.cell? ⟨w.heap.size,0,none⟩=some (.int .i64 1):=(hW.same hL aA w.heap.size _ HBL.out).trans D0.out
    have d1:W.cell? ⟨w.heap.size,1,none⟩=some (.string old):=(hW.same hL aA w.heap.size _ HBL.out).trans D1.out;have d2:W.cell? ⟨w.heap.size,2,none⟩=some (.string name):=(hW.same hL aA w.heap.size _ HBL.out).trans D2.out
    have d3:W.cell? ⟨w.heap.size,3,none⟩=some (.int .i64 m.files.length):=(hW.same hL aA w.heap.size _ HBL.out).trans D3.out;clear he h0 hc hf hg;exact eF
   ·have e143:ev (.tmp 143)=.slice np N nc:=he 4 aA _ 143 rfl rfl;have e144:ev (.tmp 144)=.agg #[.int .i64 1,.string old,.string name,.int .i64 m.files.length]:=he 5 aA _ 144 rfl rfl
    clear he h0 hc hg;have hb:=hW.bel (hW.off hL aA)
    have hl:oB SV W (.slice np N nc) T:=HRN.out.keep (fun b _ hS _=>hb.block b (HSV.out b hS));refine .inl ⟨rfl,.inr (.inr ⟨157,#[.slice np N nc,.agg (oE ⟨1,old,name,m.files.length⟩)],W,dZ,?_⟩)⟩;refine(Av hl (fun b hS=>Nat.lt_of_lt_of_le (HSV.out b hS) hb.size) HTR.out ⟨1,old,name,m.files.length⟩ HTL.out HTI.out HOF.out).mono ?_;rintro e w' ⟨u,rfl,hg,hb2⟩
    exact⟨u,rfl,u,hW.called hL hg hb2,rfl,fun j hj=>by
     have hj2:j≠6:=fun e=>cS
     match j,hj2 with
     |0,_|1,_|2,_|3,_|4,_|5,_|7,_|8,_|9,_=>rfl
     |n+10,_=>rfl⟩
   ·have e139:ev (.tmp 139)=.pointer (some ⟨r,0,none⟩):=he 0 aA _ 139 rfl rfl;clear he h0 hc hf hg;exact eE
   ·have e146:ev (.tmp 146)=.pointer (some ⟨r,0,none⟩):=he 7 aA _ 146 rfl rfl;clear he h0 hc hf hg;exact gG
   ·have e145:ev (.tmp 145)=γ:=he 6 aA _ 145 rfl rfl;have e147:ev (.tmp 147)=.pointer (some ⟨r,3,none⟩):=he 8 aA _ 147 rfl rfl
    clear he h0 hc hg;have h6:L 6=true:=hd 6 aA
    have hone:=hW.one h6 hL;obtain⟨up,uc,hu⟩:=hone.form;have hb:=hW.bel hL
    have cq:W.cell? ⟨r,3,none⟩=some (.slice np N nc):=(lK (hb.block r HRL.out)).trans C3.out;have cf:W.frozen? ⟨r,3,none⟩=false:=lI ((hb.block r HRL.out).trans HRH.out)
    have hfin:=hW.stored hL h6 (fun j hj=>by
     by_cases e:j=7
     ·subst e;exact hW.c8 (hd 8 aA)
     ·exact hd j dF)
    subst hu;refine .inl ⟨rfl,.inr (.inl ⟨W.setCell ⟨r,3,none⟩ (.slice up (DOp.act (ROp.dop ⟨1,old,name,m.files.length⟩) T).length uc),?_,.still hfin rfl⟩)⟩;clear hf hone hfin hW;go_simp
  ·intro nvv L' W hL' hW;simp only[nX,Act.put,List.setIfInBounds_toArray,List.set_cons_succ,List.set_cons_zero];obtain⟨W0,hb0,hl0,rfl⟩:=hW.fin (hL' 9 aA);have HS5:=hZ (HS4.out.now HSR.out HRL0.out hb0 hl0)
   clear hI0 hL' hW hb0 hl0 HS4 HRN HSV HRH HRL C3 HBL D0 D1 D2 D3;generalize mU SV V (W0.setCell ⟨r,3,none⟩ nvv)=SV at HS5;generalize W0.setCell ⟨r,3,none⟩ nvv=V at HS5⊢;have d0:V.cell? ⟨w.heap.size,0,none⟩=some (.int .i64 1):=lF HS5.out.box
   have d1:V.cell? ⟨w.heap.size,1,none⟩=some (.string old):=lF HS5.out.box;have d2:V.cell? ⟨w.heap.size,2,none⟩=some (.string name):=lF HS5.out.box
   have d3:V.cell? ⟨w.heap.size,3,none⟩=some (.int .i64 m.files.length):=lF HS5.out.box;have HSV:=hZ HS5.out.raw.lt
   have HRL:=hZ (HS5.out.raw.lt r HS5.out.raw.sr);obtain⟨pp,pc,hpv⟩:=HS5.out.raw.pend.form
   obtain⟨P,hP⟩:∃P,ro.length=P:=⟨_,rfl⟩
   have hPn:P≤n:=by
    have h1:=HS5.out.raw.pendE;have h2:=HOK.out.safeN
    have h3:=congrArg List.length h1;rw[List.length_map,hP]at h3;have h3:m.pend.length=P:=h3
    omega
   rw[hP]at hpv;subst hpv;have HPL:=hZ hP
   have HRR:=hZ HS5.out.raw;have HRP:=hZ HS5.out.raw.pend
   have C5:=hZ HS5.out.raw.cells.2.2.2.2.2.1;have HBL:=hZ (lH HS5.out.box)
   have D0:=hZ d0;have D1:=hZ d1
   have D2:=hZ d2;have D3:=hZ d3
   obtain⟨iO,hiO,hzO0,hzO1,hzO2⟩:=info_parts Ha;clear hP;go_wp2_with fail;have hI0:PenW V r (.slice pp P pc) ro ⟨1,old,name,m.files.length⟩ (fun _=>false) (0,undef) V.drew:=⟨fun _=>(Below.refl _ V).drew,fun h=>aK,fun h=>aK,fun h=>aK,fun h=>aK,fun h=>aK,fun h=>aK⟩
   refine lQ (fun γ=>[.pointer (some ⟨r,0,none⟩),.pointer (some ⟨r,0,none⟩),.pointer (some ⟨r,0,none⟩),.pointer (some ⟨r,5,none⟩),.slice pp P pc,.agg #[.int .i64 1,.string old,.string name,.int .i64 m.files.length],.slice (some ⟨γ.1,0,none⟩) 1 1,γ.2,.pointer (some ⟨r,0,none⟩),.pointer (some ⟨r,5,none⟩),undef]) (PenW V r (.slice pp P pc) ro ⟨1,old,name,m.files.length⟩)
    [[],[],[1],[2],[3],[],[5],[4,6],[0,0,1,2,3,4,5,6,7],[8,0,1,2,3,4,5,6,7],[9,7,7,0,1,2,3,4,5,6,7]] 165 (0,undef) mC rfl aE (fun _=>rfl) hI0 ?_ ?_
   ·refine⟨?_,?_,?_,?_,?_,?_,?_,?_,?_,?_,?_,rfl⟩
    all_goals intro L γ W ev hL hd hW hc hf hg he h0
    ·have e0:ev (.tmp 0)=.pointer (some ⟨r,0,none⟩):=h0 0 rfl;clear he h0 hc hf hg;exact kG
    ·have e0:ev (.tmp 0)=.pointer (some ⟨r,0,none⟩):=h0 0 rfl;clear he h0 hc hf hg;exact kE
    ·have e149:ev (.tmp 149)=.pointer (some ⟨r,0,none⟩):=he 1 aA _ 149 rfl rfl;clear he h0 hc hf hg;exact kD
    ·have e150:ev (.tmp 150)=.pointer (some ⟨r,0,none⟩):=he 2 aA _ 150 rfl rfl;clear he h0 hc hf hg;exact kC
    ·have e151:ev (.tmp 151)=.pointer (some ⟨r,5,none⟩):=he 3 aA _ 151 rfl rfl;have c:W.cell? ⟨r,5,none⟩=some (.slice pp P pc):=(hW.same hL aA r 5 HRL.out).trans C5.out
     clear he h0 hc hf hg;exact jZ
    ·have e4:ev (.tmp 4)=.pointer (some ⟨w.heap.size,0,none⟩):=h0 4 rfl;have d0:W.cell? ⟨w.heap.size,0,none⟩=some (.int .i64 1):=(hW.same hL aA w.heap.size _ HBL.out).trans D0.out
     have d1:W.cell? ⟨w.heap.size,1,none⟩=some (.string old):=(hW.same hL aA w.heap.size _ HBL.out).trans D1.out;have d2:W.cell? ⟨w.heap.size,2,none⟩=some (.string name):=(hW.same hL aA w.heap.size _ HBL.out).trans D2.out
     have d3:W.cell? ⟨w.heap.size,3,none⟩=some (.int .i64 m.files.length):=(hW.same hL aA w.heap.size _ HBL.out).trans D3.out;clear he h0 hc hf hg;exact jY
    ·have e153:ev (.tmp 153)=.agg #[.int .i64 1,.string old,.string name,.int .i64 m.files.length]:=he 5 aA _ 153 rfl rfl;clear he h0 hc hg;refine .inl ⟨rfl,.inl ⟨_,W.alloc (.cells (oE ⟨1,old,name,m.files.length⟩) 175),kQ,(W.heap.size,γ.2),hW.boxed hL (hd 5 aA),rfl,fun j hj=>?_⟩⟩;have hj2:j≠6:=fun e=>cS
     match j,hj2 with
     |0,_|1,_|2,_|3,_|4,_|5,_|7,_|8,_|9,_|10,_=>rfl
     |n+11,_=>rfl
    ·have e152:ev (.tmp 152)=.slice pp P pc:=he 4 aA _ 152 rfl rfl;have e154:ev (.tmp 154)=.slice (some ⟨γ.1,0,none⟩) 1 1:=he 6 aA _ 154 rfl rfl
     clear he h0 hc hg;have h4:=hd 4 aA
     have h6:=hd 6 aA;have hbx:=hW.box h6 hL
     have hb:=hW.bel hL;have hro:Do SV W (.slice pp P pc) ro:=HRP.out.keep (fun b _ hS _=>hb.block b (HSV.out b hS))
     have hro1:=hro.1;rw[HPL.out]at hro1;obtain⟨v',W',hr,hown,hg,-,hat⟩:=run_append_own_at (P:=Tryz.prog) W 0 165 165 175 iO (.agg #[.int .i64 0,.string ⟨#[]⟩,.string ⟨#[]⟩,.int .i64 0]) 4 48 Tryz.underlying165 hiO hzO0 hzO1 hzO2 rfl aA (.slice pp P pc) P (pZ oE ro) hro1 ⟨γ.1,0,none⟩ 1 1 (oE ⟨1,old,name,m.files.length⟩).toList rfl (fun j u hu=>(Ep hbx.1 j).trans iL) (A0 ⟨1,old,name,m.files.length⟩) cT aC (Nat.zero_le _);refine .inl ⟨rfl,.inl ⟨v',W',aU,(γ.1,v'),hW.apped hL h4 h6 hg kK hat,rfl,fun j hj=>?_⟩⟩;have hj2:j≠7:=fun e=>cS
     match j,hj2 with
     |0,_|1,_|2,_|3,_|4,_|5,_|6,_|8,_|9,_|10,_=>rfl
     |n+11,_=>rfl
    ·have e148:ev (.tmp 148)=.pointer (some ⟨r,0,none⟩):=he 0 aA _ 148 rfl rfl;clear he h0 hc hf hg;exact jX
    ·have e156:ev (.tmp 156)=.pointer (some ⟨r,0,none⟩):=he 8 aA _ 156 rfl rfl;clear he h0 hc hf hg;exact jW
    ·have e155:ev (.tmp 155)=γ.2:=he 7 aA _ 155 rfl rfl;have e157:ev (.tmp 157)=.pointer (some ⟨r,5,none⟩):=he 9 aA _ 157 rfl rfl
     clear he h0 hc hg;have h7:L 7=true:=hd 7 aA
     obtain⟨W0,p1,p2,p3,p4⟩:=hW.app h7 hL;obtain⟨up,uc,hu⟩:=yP p3;have hap:=(HRR.out.appOp HOF.out p1 p2 p4 p3).2.2
     have cq:W.cell? ⟨r,5,none⟩=some (.slice pp P pc):=lF hap;have cf:W.frozen? ⟨r,5,none⟩=false:=lI hap
     have hfin:=hW.stored hL h7;rw[hu]at e155;refine .inl ⟨rfl,.inr (.inl ⟨W.setCell ⟨r,5,none⟩ γ.2,?_,.still hfin rfl⟩)⟩;rw[hu];clear hf hfin hW hu p1 p2 p3 p4 hap;go_simp
   ·intro γ L' W hL' hW;obtain⟨tb,γv⟩:=γ;obtain⟨W0,W1,p1,p2,p3,p4,rfl⟩:=hW.fin (hL' 10 aA);simp only[nX,Act.put,List.setIfInBounds_toArray,List.set_cons_succ,List.set_cons_zero];obtain⟨SV6,q1,q2,q3⟩:=HS5.out.pen HSR.out HRL0.out HLT.out HOF.out p1 p2 p4 p3
    have hpo:RefRaw (W1.setCell ⟨r,5,none⟩ γv) r (m.tick.act (.create name)) SV6 (.slice vp (m.files.length+1) vc) nvv sv γv kv (ro++[⟨1,old,name,m.files.length⟩]):=by
     have e:m.tick.act (.create name)={{({m.tick with files:=m.files++[⟨⟨#[]⟩,0⟩]}:DM)with now:=(ROp.dop ⟨1,old,name,m.files.length⟩).act T}with pend:=({m.tick with files:=m.files++[⟨⟨#[]⟩,0⟩]}:DM).pend++[ROp.dop ⟨1,old,name,m.files.length⟩]}:=by
      rw[←HTT.out]
      rfl
     rw[e];exact q1
    have HP1:=hZ (show nM r (n+1) (m.tick.act (.create name)) S w (W1.setCell ⟨r,5,none⟩ γv)from
     ⟨⟨⟨_,_,_,_,_,_,hpo.sup q3 (fun b hb=>hb.elim (fun hb=>Nat.lt_of_lt_of_le (HLT.out b hb) q2.size) (fun hb=>hb.2))⟩,HACT.out,by show(m.files++[_]).length≤n+1;rw[List.length_append,List.length_singleton];omega⟩,q2⟩)
    have C7:=hZ hpo.cells.2.2.2.2.2.2.2;have HKP:=hZ (show IntsOwn SV6 (W1.setCell ⟨r,5,none⟩ γv) kv m.keep from by have:=hpo.keep;rwa[show(m.tick.act (.create name)).keep=m.keep from uF m.tick _]at this)
    have HSUB:=hZ q3;clear hL' hW p1 p2 p3 p4 q1 q2 q3 hpo hI0;generalize W1.setCell ⟨r,5,none⟩ γv=V6 at HP1 C7 HKP HSUB⊢
    first
     |have hx:=HST.out
      clear hx;have c7:=C7.out
      have hir:IntsRd (mU S w (V6)) (V6) kv m.keep:=(IntsOwn.rd (S:=mU S w (V6)) ⟨HKP.out.1,fun b hb=>HSUB.out b (HKP.out.2 b hb)⟩ HOK.out.keepI)
      have HFL:=hZ (qW HP1.out.1 kv m.keep hir aC);clear hir;go_wp2_with fail;refine HFL.out.mono ?_;rintro e V7 ⟨rfl,hp1,hp2⟩;have HP7:=hZ (show nM r (n+1) ((m.tick.act (.create name)).fail m.keep) S w V7 from⟨hp1.sup (fun b hb=>(sG HP1.out.2.size hp2.size b).1 hb) (fun b hb=>hb.elim (fun hb=>Nat.lt_of_lt_of_le (HLT.out b hb) (Nat.le_trans HP1.out.2.size hp2.size)) (fun hb=>hb.2)),HP1.out.2.trG hp2⟩)
      clear hp1 hp2;go_wp2_with fail;go_ret;exact aW
     |go_wp2_with fail
      go_ret;exact aX
theorem FK{w:World}{r n:Nat}{m:DM}{S:Nat→Prop}(h:RefAt w r n m S)(old name s:ByteArray)(file:Nat)(hn:n*m.room≤4611686018427387904)(hn2:n+1≤1000000000000)(hs:s.size≤140737488355328)(hof:(file:Int)≤9223372036854775807)
  (hoff:m.off=false) (href:m.refused (.write name s)=0):
  Calls Tryz.prog 123 #[.pointer (some ⟨r,0,none⟩),.agg #[.int .i64 2,.string old,.string name,.int .i64 file],.string s] w fun e w'=>e=.returned (.int .i64 (m.op (.write name s)).2)∧nM r (n+1) (m.op (.write name s)).1 S w w':=by
 have hrf:=fun W (hb:RefAt W r n m S)=>qV hb ⟨2,old,name,file⟩ s (by show(1:Int)≤2;decide) (by show(2:Int)≤6;decide) hn aC hs
 have hrc:mV ⟨2,old,name,file⟩ s=.write name s:=rfl;rw[hrc,href]at hrf;have hlt:=h.lt
 have hfn:=h.filesN;have hok:=h.ok
 have hactok:=hok.tick.act (.write name s) bO fZ;have hb0:=(Below.refl w.heap.size w).alloc (Nat.le_refl _) (.cells #[.int .i64 2,.string old,.string name,.int .i64 file] 175)
 have HREF:=hZ (hrf _ (h.below hb0));obtain⟨⟨fv,nv,sv,pv,kv,ro,h1⟩,-,-⟩:=h.below hb0;have HRW:=hZ h1
 have HB0:=hZ hb0;have HBX:=hZ (lP w (.cells #[.int .i64 2,.string old,.string name,.int .i64 file] 175))
 have HSR:=hZ h1.sr;have HRL0:=hZ (hlt r h1.sr)
 have HLT:=hZ hlt;have HOK:=hZ hok
 have HACT:=hZ hactok;have d0:(w.alloc (.cells #[.int .i64 2,.string old,.string name,.int .i64 file] 175)).cell? ⟨w.heap.size,0,none⟩=some (.int .i64 2):=lF HBX.out
 have d1:(w.alloc (.cells #[.int .i64 2,.string old,.string name,.int .i64 file] 175)).cell? ⟨w.heap.size,1,none⟩=some (.string old):=lF HBX.out;have d2:(w.alloc (.cells #[.int .i64 2,.string old,.string name,.int .i64 file] 175)).cell? ⟨w.heap.size,2,none⟩=some (.string name):=lF HBX.out
 have d3:(w.alloc (.cells #[.int .i64 2,.string old,.string name,.int .i64 file] 175)).cell? ⟨w.heap.size,3,none⟩=some (.int .i64 file):=lF HBX.out;have c0:=h1.cells.1
 rw[hoff]at c0;clear h h1 hb0 hrf hlt hok hactok;go_enter Tryz.func123,Tryz.ntmps123;go_wp2_with fail;refine HREF.out.mono ?_;rintro e w1 ⟨rfl,hb1⟩
 have HS1:Hid (DoS w w1 r m S S fv nv sv pv kv ro #[.int .i64 2,.string old,.string name,.int .i64 file]):=hZ
  ⟨HRW.out.frame (fun b hb=>hb1.block b (HRW.out.lt b hb)) hb1.size,((Off.refl S w).below HB0.out (Nat.le_refl _)).below hb1 HB0.out.size,fun b hb=>.inl hb,(hb1.block _ (lH HBX.out)).trans HBX.out⟩
 clear hb1 d0 d1 d2 d3 c0 HREF HRW HB0 HBX;have harm:=HOK.out.arm0
 have harm1:=HOK.out.arm1;have hway:m.armed=0∨m.armed=1∨1<m.armed:=aC
 rcases hway with ha|ha|ha
 case' inl=>
  have htk:m.tick={m with armed:=0}:=pL cA;have c6:=HS1.out.raw.cells.2.2.2.2.2.2.1
  have f6:w1.frozen? ⟨r,6,none⟩=false:=lI HS1.out.raw.head;rw[ha]at c6
  have HS2:Hid (DoS w w1 r m.tick S S fv nv sv pv kv ro #[.int .i64 2,.string old,.string name,.int .i64 file]):=hZ (by
   rw[htk];have hm:({m with armed:=0}:DM)=m:=bV
   rw[hm];exact HS1.out)
  have HDO:=hZ (xH hoff href dQ);clear htk;go_wp2_with fail;clear HS1 c6 f6;generalize w1=w2 at HS2⊢
 case' inr.inl=>
  have htk:m.tick={m with armed:=0}:=pL cA;have c6:=HS1.out.raw.cells.2.2.2.2.2.2.1
  have f6:w1.frozen? ⟨r,6,none⟩=false:=lI HS1.out.raw.head;rw[ha]at c6;have hq:=HS1.out.raw.put (m':={m with armed:=0}) 6 (.int .i64 0) rfl HS1.out.raw.now HS1.out.raw.safe HS1.out.raw.pend HS1.out.raw.keep rfl HS1.out.raw.pendE HS1.out.raw.opsF
  have HS2:Hid (DoS w (w1.setCell ⟨r,6,none⟩ (.int .i64 0)) r m.tick S S fv nv sv pv kv ro #[.int .i64 2,.string old,.string name,.int .i64 file]):=hZ ⟨bL,HS1.out.off.setCell _ _ (fun _=>HSR.out),fun b hb=>.inl hb,(Below.heap_setCell _ _ _ _ (fun e=>cU)).trans HS1.out.box⟩;have HDO:=hZ (AJ hoff href ha)
  clear hq;clear htk;go_wp2_with fail;have HST:=hZ ha
  generalize w1.setCell ⟨r,6,none⟩ (.int .i64 0)=w2 at HS2⊢;clear HS1 c6 f6
 case' inr.inr=>
  have htk:m.tick={m with armed:=(m.armed-1)}:=pL gD;have c6:=HS1.out.raw.cells.2.2.2.2.2.2.1
  have f6:w1.frozen? ⟨r,6,none⟩=false:=lI HS1.out.raw.head;have hb1:(m.armed==1)=false:=beq_eq_false_iff_ne.2 aC
  have hb2:(0:Int)<m.armed:=aC;have hq:=HS1.out.raw.put (m':={m with armed:=(m.armed-1)}) 6 (.int .i64 (m.armed-1)) rfl HS1.out.raw.now HS1.out.raw.safe HS1.out.raw.pend HS1.out.raw.keep rfl HS1.out.raw.pendE HS1.out.raw.opsF
  have HS2:Hid (DoS w (w1.setCell ⟨r,6,none⟩ (.int .i64 (m.armed-1))) r m.tick S S fv nv sv pv kv ro #[.int .i64 2,.string old,.string name,.int .i64 file]):=hZ ⟨bL,HS1.out.off.setCell _ _ (fun _=>HSR.out),fun b hb=>.inl hb,(Below.heap_setCell _ _ _ _ (fun e=>cU)).trans HS1.out.box⟩;have HDO:=hZ (xH hoff href aC)
  clear hq;clear htk;go_wp2_with fail;generalize w1.setCell ⟨r,6,none⟩ (.int .i64 (m.armed-1))=w2 at HS2⊢;clear HS1 c6 f6 hb1 hb2
 all_goals
  have H3:=hZ HS2.out.raw;obtain⟨np,nc,hnv⟩:=HS2.out.raw.now.form;have c3:=HS2.out.raw.cells.2.2.2.1
  obtain⟨N,hN⟩:∃N,m.tick.now.length=N:=⟨_,rfl⟩
  rw[hN]at hnv;subst hnv;have hNn:N≤n:=cE
  have HN:=hZ hN;have d2:w2.cell? ⟨w.heap.size,2,none⟩=some (.string name):=lF HS2.out.box
  have hat:∀q,Calls Tryz.prog 124 #[.slice np N nc,.string name] (w2.drewN q) fun e w'=>e=.returned (.int .i64 (zT m.now name.data.toList))∧w'=w2.drewN q:=fun q=>
   (wK (HS2.out.drews q).raw.now name (Nat.le_trans HOK.out.nowN aC)).mono (fun e w' hp=>⟨hp.1,hp.2.symm⟩)
  have hg:∃i,lS m.now name.data.toList=some i:=by
   have h:=href;simp only[DM.refused]at h
   cases hg:lS m.now name.data.toList with
   |some i=>exact⟨i,rfl⟩
   |none=>
    simp only[DM.get,hg]at h;cases h
  obtain⟨i,hg⟩:=hg;obtain⟨j,hj,hjt⟩:=qK hg;rw[hj]at hat;have hjn:(j:Int)<(N:Int):=dV
  have hj0:(0:Int)≤(j:Int):=aC;have HJT:=hZ hjt
  have HG:=hZ hg;clear hj hjt hg;have HAT:=hZ hat
  clear hat hN H3;go_quiet ((go_at_call 124;exact Calls.quiet_of_same (HAT.out _)));rename_i nq;have HS3:=hZ (HS2.out.drews nq)
  generalize w2.drewN nq=V at HS3⊢;clear HS2 c3 d2 HAT;have d0:V.cell? ⟨w.heap.size,0,none⟩=some (.int .i64 2):=lF HS3.out.box
  have d1:V.cell? ⟨w.heap.size,1,none⟩=some (.string old):=lF HS3.out.box;have d2:V.cell? ⟨w.heap.size,2,none⟩=some (.string name):=lF HS3.out.box
  have d3:V.cell? ⟨w.heap.size,3,none⟩=some (.int .i64 file):=lF HS3.out.box;have hiF:=HOK.out.nowI _ (mW HG.out)
  have hiF2:i<m.files.length:=hiF;obtain⟨fp,fc,hfv⟩:=HS3.out.raw.files.form
  obtain⟨F,hF⟩:∃F,m.files.length=F:=⟨_,rfl⟩
  have hF2:m.tick.files.length=F:=hF;rw[hF2]at hfv;subst hfv;obtain⟨g,cur,hg1,hgS,-,hgc⟩:=HS3.out.raw.now.cell sO HJT.out;subst hg1;obtain⟨gf,cur2,hg2,hgS2,hgg2,hgc2⟩:=HS3.out.raw.files.cell vL (get!_at hiF2);subst hg2;have hii:(i:Int)<(F:Int):=aC
  have hi0:(0:Int)≤(i:Int):=aC;have hji:¬(j:Int)<0:=aC
  have c2:=HS3.out.raw.cells.2.2.1;have c3:=HS3.out.raw.cells.2.2.2.1
  have e1:V.cell? ⟨g,j*2+1,none⟩=some (.int .i64 i):=hgc 1 aA;have e2:V.cell? ⟨gf,i*2,none⟩=some (.string m.files[i]!.data):=hgc2 0 aA
  have e3:V.cell? ⟨gf,i*2+1,none⟩=some (.int .i64 m.files[i]!.safe):=hgc2 1 aA;have f2:V.frozen? ⟨gf,i*2,none⟩=false:=lI hgg2
  have f3:V.frozen? ⟨gf,i*2+1,none⟩=false:=lI hgg2;have hgi:m.files[i]?=some m.files[i]!:=get!_at hiF2
  have hfo:=HOK.out.file _ (get!_mem hiF2);have hroom:=HOK.out.room
  have hact:m.tick.act (.write name s)={m.tick with files:=m.files.set i ⟨m.files[i]!.data++s,m.files[i]!.safe⟩}:=by
   show(match lS m.now name.data.toList with|some i=>_|none=>_)=_;rw[HG.out]
   rfl
  have hpd:=(HS3.out.drews 1).raw.putData (d:=m.files[i]!.data++s) hgi;have hof2:Off S w ((V.drewN 1).setCell ⟨gf,i*2,none⟩ (.string (m.files[i]!.data++s))):=(HS3.out.off.draws 1).setCell _ _ (fun _=>hgS2)
  have HP1:=hZ (show nM r (n+1) (m.tick.act (.write name s)) S w ((V.drewN 1).setCell ⟨gf,i*2,none⟩ (.string (m.files[i]!.data++s)))from⟨⟨⟨_,_,_,_,_,_,(show RefRaw _ r (m.tick.act (.write name s)) S _ _ _ _ _ _ by rw[hact];exact hpd).sup (fun b hb=>.inl hb) (fun b hb=>hb.elim (fun hb=>Nat.lt_of_lt_of_le (HLT.out b hb) (hof2).size) (fun hb=>hb.2))⟩,HACT.out,iC⟩,hof2⟩);have C7:=hZ ((show RefRaw _ r (m.tick.act (.write name s)) S _ _ _ _ _ _ by rw[hact];exact hpd).cells.2.2.2.2.2.2.2)
  have HKP:=hZ (show IntsOwn S ((V.drewN 1).setCell ⟨gf,i*2,none⟩ (.string (m.files[i]!.data++s))) kv m.keep from by have:=(show RefRaw _ r (m.tick.act (.write name s)) S _ _ _ _ _ _ by rw[hact];exact hpd).keep;rwa[show(m.tick.act (.write name s)).keep=m.keep from uF m.tick _]at this);have HSUB:=hZ (show∀b,S b→mU S w ((V.drewN 1).setCell ⟨gf,i*2,none⟩ (.string (m.files[i]!.data++s))) b from fun b hb=>.inl hb)
  have hsum:(m.files[i]!.data.size:Int)+(s.size:Int)≤281474976710656:=aC;clear hpd hof2 hact hgc hgc2 hgg2 hgi hfo d1 d2;generalize m.files[i]!.data=D at e2 HP1 C7 HKP HSUB hsum;clear hiF hiF2 HG HJT;go_wp2_with fail;refine pF 19 mC aE ?_;simp only[List.take_succ_cons,List.take_zero,List.drop_succ_cons,List.drop_zero]
  repeat (go_big_quiet_step (fail))
  refine wpQuiet_nil ?_;have d0':((V.drewN 1).setCell ⟨gf,i*2,none⟩ (.string (D++s))).cell? ⟨w.heap.size,0,none⟩=some (.int .i64 2):=(lK (Below.heap_setCell _ _ _ _ (fun e=>kL))).trans d0
  first
   |have hx:=HST.out
    clear hx;have c7:=C7.out
    have hir:IntsRd (mU S w ((V.drewN 1).setCell ⟨gf,i*2,none⟩ (.string (D++s)))) ((V.drewN 1).setCell ⟨gf,i*2,none⟩ (.string (D++s))) kv m.keep:=(IntsOwn.rd (S:=mU S w ((V.drewN 1).setCell ⟨gf,i*2,none⟩ (.string (D++s)))) ⟨HKP.out.1,fun b hb=>HSUB.out b (HKP.out.2 b hb)⟩ HOK.out.keepI)
    have HFL:=hZ (qW HP1.out.1 kv m.keep hir aC);clear hir;go_wp2_with fail;refine HFL.out.mono ?_;rintro e V7 ⟨rfl,hp1,hp2⟩;have HP7:=hZ (show nM r (n+1) ((m.tick.act (.write name s)).fail m.keep) S w V7 from⟨hp1.sup (fun b hb=>(sG HP1.out.2.size hp2.size b).1 hb) (fun b hb=>hb.elim (fun hb=>Nat.lt_of_lt_of_le (HLT.out b hb) (Nat.le_trans HP1.out.2.size hp2.size)) (fun hb=>hb.2)),HP1.out.2.trG hp2⟩)
    clear hp1 hp2;go_wp2_with fail;go_ret;exact aW
   |go_wp2_with fail
    go_ret;exact aX
theorem Hb{w:World}{r n:Nat}{m:DM}{S:Nat→Prop}(h:RefAt w r n m S)(old name s:ByteArray)(file:Nat)(hn:n*m.room≤4611686018427387904)(hn2:n+1≤1000000000000)(hs:s.size≤140737488355328)(hof:(file:Int)≤9223372036854775807)
  (hoff:m.off=false) (href:m.refused (.sync name)=0):
  Calls Tryz.prog 123 #[.pointer (some ⟨r,0,none⟩),.agg #[.int .i64 3,.string old,.string name,.int .i64 file],.string s] w fun e w'=>e=.returned (.int .i64 (m.op (.sync name)).2)∧nM r (n+1) (m.op (.sync name)).1 S w w':=by
 have hrf:=fun W (hb:RefAt W r n m S)=>qV hb ⟨3,old,name,file⟩ s (by show(1:Int)≤3;decide) (by show(3:Int)≤6;decide) hn aC hs
 have hrc:mV ⟨3,old,name,file⟩ s=.sync name:=rfl;rw[hrc,href]at hrf;have hlt:=h.lt
 have hfn:=h.filesN;have hok:=h.ok
 have hactok:=hok.tick.act (.sync name) bO fZ;have hb0:=(Below.refl w.heap.size w).alloc (Nat.le_refl _) (.cells #[.int .i64 3,.string old,.string name,.int .i64 file] 175)
 have HREF:=hZ (hrf _ (h.below hb0));obtain⟨⟨fv,nv,sv,pv,kv,ro,h1⟩,-,-⟩:=h.below hb0;have HRW:=hZ h1
 have HB0:=hZ hb0;have HBX:=hZ (lP w (.cells #[.int .i64 3,.string old,.string name,.int .i64 file] 175))
 have HSR:=hZ h1.sr;have HRL0:=hZ (hlt r h1.sr)
 have HLT:=hZ hlt;have HOK:=hZ hok
 have HACT:=hZ hactok;have d0:(w.alloc (.cells #[.int .i64 3,.string old,.string name,.int .i64 file] 175)).cell? ⟨w.heap.size,0,none⟩=some (.int .i64 3):=lF HBX.out
 have d1:(w.alloc (.cells #[.int .i64 3,.string old,.string name,.int .i64 file] 175)).cell? ⟨w.heap.size,1,none⟩=some (.string old):=lF HBX.out;have d2:(w.alloc (.cells #[.int .i64 3,.string old,.string name,.int .i64 file] 175)).cell? ⟨w.heap.size,2,none⟩=some (.string name):=lF HBX.out
 have d3:(w.alloc (.cells #[.int .i64 3,.string old,.string name,.int .i64 file] 175)).cell? ⟨w.heap.size,3,none⟩=some (.int .i64 file):=lF HBX.out;have c0:=h1.cells.1
 rw[hoff]at c0;clear h h1 hb0 hrf hlt hok hactok;go_enter Tryz.func123,Tryz.ntmps123;go_wp2_with fail;refine HREF.out.mono ?_;rintro e w1 ⟨rfl,hb1⟩
 have HS1:Hid (DoS w w1 r m S S fv nv sv pv kv ro #[.int .i64 3,.string old,.string name,.int .i64 file]):=hZ
  ⟨HRW.out.frame (fun b hb=>hb1.block b (HRW.out.lt b hb)) hb1.size,((Off.refl S w).below HB0.out (Nat.le_refl _)).below hb1 HB0.out.size,fun b hb=>.inl hb,(hb1.block _ (lH HBX.out)).trans HBX.out⟩
 clear hb1 d0 d1 d2 d3 c0 HREF HRW HB0 HBX;have harm:=HOK.out.arm0
 have harm1:=HOK.out.arm1;have hway:m.armed=0∨m.armed=1∨1<m.armed:=aC
 rcases hway with ha|ha|ha
 case' inl=>
  have htk:m.tick={m with armed:=0}:=pL cA;have c6:=HS1.out.raw.cells.2.2.2.2.2.2.1
  have f6:w1.frozen? ⟨r,6,none⟩=false:=lI HS1.out.raw.head;rw[ha]at c6
  have HS2:Hid (DoS w w1 r m.tick S S fv nv sv pv kv ro #[.int .i64 3,.string old,.string name,.int .i64 file]):=hZ (by
   rw[htk];have hm:({m with armed:=0}:DM)=m:=bV
   rw[hm];exact HS1.out)
  have HDO:=hZ (xH hoff href dQ);clear htk;go_wp2_with fail;clear HS1 c6 f6;generalize w1=w2 at HS2⊢
 case' inr.inl=>
  have htk:m.tick={m with armed:=0}:=pL cA;have c6:=HS1.out.raw.cells.2.2.2.2.2.2.1
  have f6:w1.frozen? ⟨r,6,none⟩=false:=lI HS1.out.raw.head;rw[ha]at c6;have hq:=HS1.out.raw.put (m':={m with armed:=0}) 6 (.int .i64 0) rfl HS1.out.raw.now HS1.out.raw.safe HS1.out.raw.pend HS1.out.raw.keep rfl HS1.out.raw.pendE HS1.out.raw.opsF
  have HS2:Hid (DoS w (w1.setCell ⟨r,6,none⟩ (.int .i64 0)) r m.tick S S fv nv sv pv kv ro #[.int .i64 3,.string old,.string name,.int .i64 file]):=hZ ⟨bL,HS1.out.off.setCell _ _ (fun _=>HSR.out),fun b hb=>.inl hb,(Below.heap_setCell _ _ _ _ (fun e=>cU)).trans HS1.out.box⟩;have HDO:=hZ (AJ hoff href ha)
  clear hq;clear htk;go_wp2_with fail;have HST:=hZ ha
  generalize w1.setCell ⟨r,6,none⟩ (.int .i64 0)=w2 at HS2⊢;clear HS1 c6 f6
 case' inr.inr=>
  have htk:m.tick={m with armed:=(m.armed-1)}:=pL gD;have c6:=HS1.out.raw.cells.2.2.2.2.2.2.1
  have f6:w1.frozen? ⟨r,6,none⟩=false:=lI HS1.out.raw.head;have hb1:(m.armed==1)=false:=beq_eq_false_iff_ne.2 aC
  have hb2:(0:Int)<m.armed:=aC;have hq:=HS1.out.raw.put (m':={m with armed:=(m.armed-1)}) 6 (.int .i64 (m.armed-1)) rfl HS1.out.raw.now HS1.out.raw.safe HS1.out.raw.pend HS1.out.raw.keep rfl HS1.out.raw.pendE HS1.out.raw.opsF
  have HS2:Hid (DoS w (w1.setCell ⟨r,6,none⟩ (.int .i64 (m.armed-1))) r m.tick S S fv nv sv pv kv ro #[.int .i64 3,.string old,.string name,.int .i64 file]):=hZ ⟨bL,HS1.out.off.setCell _ _ (fun _=>HSR.out),fun b hb=>.inl hb,(Below.heap_setCell _ _ _ _ (fun e=>cU)).trans HS1.out.box⟩;have HDO:=hZ (xH hoff href aC)
  clear hq;clear htk;go_wp2_with fail;generalize w1.setCell ⟨r,6,none⟩ (.int .i64 (m.armed-1))=w2 at HS2⊢;clear HS1 c6 f6 hb1 hb2
 all_goals
  have H3:=hZ HS2.out.raw;obtain⟨np,nc,hnv⟩:=HS2.out.raw.now.form;have c3:=HS2.out.raw.cells.2.2.2.1
  obtain⟨N,hN⟩:∃N,m.tick.now.length=N:=⟨_,rfl⟩
  rw[hN]at hnv;subst hnv;have hNn:N≤n:=cE
  have HN:=hZ hN;have d2:w2.cell? ⟨w.heap.size,2,none⟩=some (.string name):=lF HS2.out.box
  have hat:∀q,Calls Tryz.prog 124 #[.slice np N nc,.string name] (w2.drewN q) fun e w'=>e=.returned (.int .i64 (zT m.now name.data.toList))∧w'=w2.drewN q:=fun q=>
   (wK (HS2.out.drews q).raw.now name (Nat.le_trans HOK.out.nowN aC)).mono (fun e w' hp=>⟨hp.1,hp.2.symm⟩)
  have hg:∃i,lS m.now name.data.toList=some i:=by
   have h:=href;simp only[DM.refused]at h
   cases hg:lS m.now name.data.toList with
   |some i=>exact⟨i,rfl⟩
   |none=>
    simp only[DM.get,hg]at h;cases h
  obtain⟨i,hg⟩:=hg;obtain⟨j,hj,hjt⟩:=qK hg;rw[hj]at hat;have hjn:(j:Int)<(N:Int):=dV
  have hj0:(0:Int)≤(j:Int):=aC;have HJT:=hZ hjt
  have HG:=hZ hg;clear hj hjt hg;have HAT:=hZ hat
  clear hat hN H3;go_quiet ((go_at_call 124;exact Calls.quiet_of_same (HAT.out _)));rename_i nq;have HS3:=hZ (HS2.out.drews nq)
  generalize w2.drewN nq=V at HS3⊢;clear HS2 c3 d2 HAT;have d0:V.cell? ⟨w.heap.size,0,none⟩=some (.int .i64 3):=lF HS3.out.box
  have d1:V.cell? ⟨w.heap.size,1,none⟩=some (.string old):=lF HS3.out.box;have d2:V.cell? ⟨w.heap.size,2,none⟩=some (.string name):=lF HS3.out.box
  have d3:V.cell? ⟨w.heap.size,3,none⟩=some (.int .i64 file):=lF HS3.out.box;have hiF:=HOK.out.nowI _ (mW HG.out)
  have hiF2:i<m.files.length:=hiF;obtain⟨fp,fc,hfv⟩:=HS3.out.raw.files.form
  obtain⟨F,hF⟩:∃F,m.files.length=F:=⟨_,rfl⟩
  have hF2:m.tick.files.length=F:=hF;rw[hF2]at hfv;subst hfv;obtain⟨g,cur,hg1,hgS,-,hgc⟩:=HS3.out.raw.now.cell sO HJT.out;subst hg1;obtain⟨gf,cur2,hg2,hgS2,hgg2,hgc2⟩:=HS3.out.raw.files.cell vL (get!_at hiF2);subst hg2;have hii:(i:Int)<(F:Int):=aC
  have hi0:(0:Int)≤(i:Int):=aC;have hji:¬(j:Int)<0:=aC
  have c2:=HS3.out.raw.cells.2.2.1;have c3:=HS3.out.raw.cells.2.2.2.1
  have e1:V.cell? ⟨g,j*2+1,none⟩=some (.int .i64 i):=hgc 1 aA;have e2:V.cell? ⟨gf,i*2,none⟩=some (.string m.files[i]!.data):=hgc2 0 aA
  have e3:V.cell? ⟨gf,i*2+1,none⟩=some (.int .i64 m.files[i]!.safe):=hgc2 1 aA;have f2:V.frozen? ⟨gf,i*2,none⟩=false:=lI hgg2
  have f3:V.frozen? ⟨gf,i*2+1,none⟩=false:=lI hgg2;have hgi:m.files[i]?=some m.files[i]!:=get!_at hiF2
  have hfo:=HOK.out.file _ (get!_mem hiF2);have hroom:=HOK.out.room
  first
   |have hx:=HST.out
    clear hx;have HP1:=hZ (show nM r (n+1) (m.tick) S w (V)from⟨⟨⟨_,_,_,_,_,_,(HS3.out.raw).sup (fun b hb=>.inl hb) (fun b hb=>hb.elim (fun hb=>Nat.lt_of_lt_of_le (HLT.out b hb) (HS3.out.off).size) (fun hb=>hb.2))⟩,HOK.out.tick.mono (Nat.le_succ n),Nat.le_trans hfn (Nat.le_succ n)⟩,HS3.out.off⟩)
    have C7:=hZ ((HS3.out.raw).cells.2.2.2.2.2.2.2);have HKP:=hZ (show IntsOwn S (V) kv m.keep from gW)
    have HSUB:=hZ (show∀b,S b→mU S w (V) b from fun b hb=>.inl hb);clear d1 d2 d3 HS3;generalize V=V6 at HP1 C7 HKP HSUB d0⊢;have c7:=C7.out
    have hir:IntsRd (mU S w (V6)) (V6) kv m.keep:=(IntsOwn.rd (S:=mU S w (V6)) ⟨HKP.out.1,fun b hb=>HSUB.out b (HKP.out.2 b hb)⟩ HOK.out.keepI)
    have HFL:=hZ (qW HP1.out.1 kv m.keep hir aC);clear hir;go_wp2_with fail;refine HFL.out.mono ?_;rintro e V7 ⟨rfl,hp1,hp2⟩;have HP7:=hZ (show nM r (n+1) ((m.tick).fail m.keep) S w V7 from⟨hp1.sup (fun b hb=>(sG HP1.out.2.size hp2.size b).1 hb) (fun b hb=>hb.elim (fun hb=>Nat.lt_of_lt_of_le (HLT.out b hb) (Nat.le_trans HP1.out.2.size hp2.size)) (fun hb=>hb.2)),HP1.out.2.trG hp2⟩)
    clear hp1 hp2;go_wp2_with fail;go_ret;exact aW
   |have hact:m.tick.act (.sync name)={m.tick with files:=m.files.set i ⟨m.files[i]!.data,m.files[i]!.data.size⟩}:=by
     show(match lS m.now name.data.toList with|some i=>_|none=>_)=_;rw[HG.out]
     rfl
    clear hgc hgc2 hgg2 d1 d2;go_wp2_with fail;refine pF 13 mC aE ?_;simp only[List.take_succ_cons,List.take_zero,List.drop_succ_cons,List.drop_zero]
    repeat (go_big_quiet_step (fail))
    refine wpQuiet_nil ?_;have HS4:=hZ (HS3.out.drews 1)
    have hpd:=HS4.out.raw.putSafe (k:=m.files[i]!.data.size) hgi;have hof2:Off S w ((V.drewN 1).setCell ⟨gf,i*2+1,none⟩ (.int .i64 m.files[i]!.data.size)):=HS4.out.off.setCell _ _ (fun _=>hgS2)
    have HP1:=hZ (show nM r (n+1) (m.tick.act (.sync name)) S w ((V.drewN 1).setCell ⟨gf,i*2+1,none⟩ (.int .i64 m.files[i]!.data.size))from⟨⟨⟨_,_,_,_,_,_,(show RefRaw _ r (m.tick.act (.sync name)) S _ _ _ _ _ _ by rw[hact];exact hpd).sup (fun b hb=>.inl hb) (fun b hb=>hb.elim (fun hb=>Nat.lt_of_lt_of_le (HLT.out b hb) (hof2).size) (fun hb=>hb.2))⟩,HACT.out,iC⟩,hof2⟩);have C7:=hZ ((show RefRaw _ r (m.tick.act (.sync name)) S _ _ _ _ _ _ by rw[hact];exact hpd).cells.2.2.2.2.2.2.2)
    have HKP:=hZ (show IntsOwn S ((V.drewN 1).setCell ⟨gf,i*2+1,none⟩ (.int .i64 m.files[i]!.data.size)) kv m.keep from by have:=(show RefRaw _ r (m.tick.act (.sync name)) S _ _ _ _ _ _ by rw[hact];exact hpd).keep;rwa[show(m.tick.act (.sync name)).keep=m.keep from uF m.tick _]at this);have HSUB:=hZ (show∀b,S b→mU S w ((V.drewN 1).setCell ⟨gf,i*2+1,none⟩ (.int .i64 m.files[i]!.data.size)) b from fun b hb=>.inl hb)
    have d0':((V.drewN 1).setCell ⟨gf,i*2+1,none⟩ (.int .i64 m.files[i]!.data.size)).cell? ⟨w.heap.size,0,none⟩=some (.int .i64 3):=(lK (Below.heap_setCell _ _ _ _ (fun e=>kL))).trans d0;clear hpd hof2 hact hgi hfo;generalize m.files[i]!.data=D at e2 HP1 C7 HKP HSUB d0';clear hiF hiF2 HG HJT HS4;go_wp2_with fail;go_ret;exact aX
theorem FL{w:World}{r n:Nat}{m:DM}{S:Nat→Prop}(h:RefAt w r n m S)(old name s:ByteArray)(file:Nat)(hn:n*m.room≤4611686018427387904)(hn2:n+1≤1000000000000)(hs:s.size≤140737488355328)(hof:(file:Int)≤9223372036854775807)
  (hoff:m.off=false) (href:m.refused (.flush)=0):
  Calls Tryz.prog 123 #[.pointer (some ⟨r,0,none⟩),.agg #[.int .i64 6,.string old,.string name,.int .i64 file],.string s] w fun e w'=>e=.returned (.int .i64 (m.op (.flush)).2)∧nM r (n+1) (m.op (.flush)).1 S w w':=by
 have hrf:=fun W (hb:RefAt W r n m S)=>qV hb ⟨6,old,name,file⟩ s (by show(1:Int)≤6;decide) (by show(6:Int)≤6;decide) hn aC hs
 have hrc:mV ⟨6,old,name,file⟩ s=.flush:=rfl;rw[hrc,href]at hrf;have hlt:=h.lt
 have hfn:=h.filesN;have hok:=h.ok
 have hactok:=hok.tick.act (.flush) bO fZ;have hb0:=(Below.refl w.heap.size w).alloc (Nat.le_refl _) (.cells #[.int .i64 6,.string old,.string name,.int .i64 file] 175)
 have HREF:=hZ (hrf _ (h.below hb0));obtain⟨⟨fv,nv,sv,pv,kv,ro,h1⟩,-,-⟩:=h.below hb0;have HRW:=hZ h1
 have HB0:=hZ hb0;have HBX:=hZ (lP w (.cells #[.int .i64 6,.string old,.string name,.int .i64 file] 175))
 have HSR:=hZ h1.sr;have HRL0:=hZ (hlt r h1.sr)
 have HLT:=hZ hlt;have HOK:=hZ hok
 have HACT:=hZ hactok;have d0:(w.alloc (.cells #[.int .i64 6,.string old,.string name,.int .i64 file] 175)).cell? ⟨w.heap.size,0,none⟩=some (.int .i64 6):=lF HBX.out
 have d1:(w.alloc (.cells #[.int .i64 6,.string old,.string name,.int .i64 file] 175)).cell? ⟨w.heap.size,1,none⟩=some (.string old):=lF HBX.out;have d2:(w.alloc (.cells #[.int .i64 6,.string old,.string name,.int .i64 file] 175)).cell? ⟨w.heap.size,2,none⟩=some (.string name):=lF HBX.out
 have d3:(w.alloc (.cells #[.int .i64 6,.string old,.string name,.int .i64 file] 175)).cell? ⟨w.heap.size,3,none⟩=some (.int .i64 file):=lF HBX.out;have c0:=h1.cells.1
 rw[hoff]at c0;clear h h1 hb0 hrf hlt hok hactok;go_enter Tryz.func123,Tryz.ntmps123;go_wp2_with fail;refine HREF.out.mono ?_;rintro e w1 ⟨rfl,hb1⟩
 have HS1:Hid (DoS w w1 r m S S fv nv sv pv kv ro #[.int .i64 6,.string old,.string name,.int .i64 file]):=hZ
  ⟨HRW.out.frame (fun b hb=>hb1.block b (HRW.out.lt b hb)) hb1.size,((Off.refl S w).below HB0.out (Nat.le_refl _)).below hb1 HB0.out.size,fun b hb=>.inl hb,(hb1.block _ (lH HBX.out)).trans HBX.out⟩
 clear hb1 d0 d1 d2 d3 c0 HREF HRW HB0 HBX;have harm:=HOK.out.arm0
 have harm1:=HOK.out.arm1;have hway:m.armed=0∨m.armed=1∨1<m.armed:=aC
 rcases hway with ha|ha|ha
 case' inl=>
  have htk:m.tick={m with armed:=0}:=pL cA;have c6:=HS1.out.raw.cells.2.2.2.2.2.2.1
  have f6:w1.frozen? ⟨r,6,none⟩=false:=lI HS1.out.raw.head;rw[ha]at c6
  have HS2:Hid (DoS w w1 r m.tick S S fv nv sv pv kv ro #[.int .i64 6,.string old,.string name,.int .i64 file]):=hZ (by
   rw[htk];have hm:({m with armed:=0}:DM)=m:=bV
   rw[hm];exact HS1.out)
  have HDO:=hZ (xH hoff href dQ);clear htk;go_wp2_with fail;clear HS1 c6 f6;generalize w1=w2 at HS2⊢
 case' inr.inl=>
  have htk:m.tick={m with armed:=0}:=pL cA;have c6:=HS1.out.raw.cells.2.2.2.2.2.2.1
  have f6:w1.frozen? ⟨r,6,none⟩=false:=lI HS1.out.raw.head;rw[ha]at c6;have hq:=HS1.out.raw.put (m':={m with armed:=0}) 6 (.int .i64 0) rfl HS1.out.raw.now HS1.out.raw.safe HS1.out.raw.pend HS1.out.raw.keep rfl HS1.out.raw.pendE HS1.out.raw.opsF
  have HS2:Hid (DoS w (w1.setCell ⟨r,6,none⟩ (.int .i64 0)) r m.tick S S fv nv sv pv kv ro #[.int .i64 6,.string old,.string name,.int .i64 file]):=hZ ⟨bL,HS1.out.off.setCell _ _ (fun _=>HSR.out),fun b hb=>.inl hb,(Below.heap_setCell _ _ _ _ (fun e=>cU)).trans HS1.out.box⟩;have HDO:=hZ (AJ hoff href ha)
  clear hq;clear htk;go_wp2_with fail;have HST:=hZ ha
  generalize w1.setCell ⟨r,6,none⟩ (.int .i64 0)=w2 at HS2⊢;clear HS1 c6 f6
 case' inr.inr=>
  have htk:m.tick={m with armed:=(m.armed-1)}:=pL gD;have c6:=HS1.out.raw.cells.2.2.2.2.2.2.1
  have f6:w1.frozen? ⟨r,6,none⟩=false:=lI HS1.out.raw.head;have hb1:(m.armed==1)=false:=beq_eq_false_iff_ne.2 aC
  have hb2:(0:Int)<m.armed:=aC;have hq:=HS1.out.raw.put (m':={m with armed:=(m.armed-1)}) 6 (.int .i64 (m.armed-1)) rfl HS1.out.raw.now HS1.out.raw.safe HS1.out.raw.pend HS1.out.raw.keep rfl HS1.out.raw.pendE HS1.out.raw.opsF
  have HS2:Hid (DoS w (w1.setCell ⟨r,6,none⟩ (.int .i64 (m.armed-1))) r m.tick S S fv nv sv pv kv ro #[.int .i64 6,.string old,.string name,.int .i64 file]):=hZ ⟨bL,HS1.out.off.setCell _ _ (fun _=>HSR.out),fun b hb=>.inl hb,(Below.heap_setCell _ _ _ _ (fun e=>cU)).trans HS1.out.box⟩;have HDO:=hZ (xH hoff href aC)
  clear hq;clear htk;go_wp2_with fail;generalize w1.setCell ⟨r,6,none⟩ (.int .i64 (m.armed-1))=w2 at HS2⊢;clear HS1 c6 f6 hb1 hb2
 all_goals
  have H3:=hZ HS2.out.raw;obtain⟨np,nc,hnv⟩:=HS2.out.raw.now.form;have c3:=HS2.out.raw.cells.2.2.2.1
  obtain⟨N,hN⟩:∃N,m.tick.now.length=N:=⟨_,rfl⟩
  rw[hN]at hnv;subst hnv;have hNn:N≤n:=cE
  have HN:=hZ hN;have d2:w2.cell? ⟨w.heap.size,2,none⟩=some (.string name):=lF HS2.out.box
  have hat:∀q,Calls Tryz.prog 124 #[.slice np N nc,.string name] (w2.drewN q) fun e w'=>e=.returned (.int .i64 (zT m.now name.data.toList))∧w'=w2.drewN q:=fun q=>
   (wK (HS2.out.drews q).raw.now name (Nat.le_trans HOK.out.nowN aC)).mono (fun e w' hp=>⟨hp.1,hp.2.symm⟩)
  generalize zT m.now name.data.toList=TT at hat;have HAT:=hZ hat
  clear hat hN H3;go_quiet ((go_at_call 124;exact Calls.quiet_of_same (HAT.out _)));rename_i nq;have HS3:=hZ (HS2.out.drews nq)
  generalize w2.drewN nq=V at HS3⊢;clear HS2 c3 d2 HAT;have d0:V.cell? ⟨w.heap.size,0,none⟩=some (.int .i64 6):=lF HS3.out.box
  have d1:V.cell? ⟨w.heap.size,1,none⟩=some (.string old):=lF HS3.out.box;have d2:V.cell? ⟨w.heap.size,2,none⟩=some (.string name):=lF HS3.out.box
  have d3:V.cell? ⟨w.heap.size,3,none⟩=some (.int .i64 file):=lF HS3.out.box
  first
   |have hx:=HST.out
    clear hx;have HP1:=hZ (show nM r (n+1) (m.tick) S w (V)from⟨⟨⟨_,_,_,_,_,_,(HS3.out.raw).sup (fun b hb=>.inl hb) (fun b hb=>hb.elim (fun hb=>Nat.lt_of_lt_of_le (HLT.out b hb) (HS3.out.off).size) (fun hb=>hb.2))⟩,HOK.out.tick.mono (Nat.le_succ n),Nat.le_trans hfn (Nat.le_succ n)⟩,HS3.out.off⟩)
    have C7:=hZ ((HS3.out.raw).cells.2.2.2.2.2.2.2);have HKP:=hZ (show IntsOwn S (V) kv m.keep from gW)
    have HSUB:=hZ (show∀b,S b→mU S w (V) b from fun b hb=>.inl hb);clear d1 d2 d3 HS3;generalize V=V6 at HP1 C7 HKP HSUB d0⊢;have c7:=C7.out
    have hir:IntsRd (mU S w (V6)) (V6) kv m.keep:=(IntsOwn.rd (S:=mU S w (V6)) ⟨HKP.out.1,fun b hb=>HSUB.out b (HKP.out.2 b hb)⟩ HOK.out.keepI)
    have HFL:=hZ (qW HP1.out.1 kv m.keep hir aC);clear hir;go_wp2_with fail;refine HFL.out.mono ?_;rintro e V7 ⟨rfl,hp1,hp2⟩;have HP7:=hZ (show nM r (n+1) ((m.tick).fail m.keep) S w V7 from⟨hp1.sup (fun b hb=>(sG HP1.out.2.size hp2.size b).1 hb) (fun b hb=>hb.elim (fun hb=>Nat.lt_of_lt_of_le (HLT.out b hb) (Nat.le_trans HP1.out.2.size hp2.size)) (fun hb=>hb.2)),HP1.out.2.trG hp2⟩)
    clear hp1 hp2;go_wp2_with fail;go_ret;exact aW
   |obtain⟨svp,svc,hsv⟩:=HS3.out.raw.safe.form
    have c3:=HS3.out.raw.cells.2.2.2.1;have c4:=HS3.out.raw.cells.2.2.2.2.1
    have c5:=HS3.out.raw.cells.2.2.2.2.2.1;have f4:V.frozen? ⟨r,4,none⟩=false:=lI HS3.out.raw.head
    have f5:V.frozen? ⟨r,5,none⟩=false:=lI HS3.out.raw.head;have s1:=HS3.out.raw.put (m':={m.tick with safe:=m.now}) (sv':=.slice np N nc) 4 (.slice np N nc) rfl HS3.out.raw.now HS3.out.raw.now HS3.out.raw.pend HS3.out.raw.keep rfl HS3.out.raw.pendE HS3.out.raw.opsF
    have s2:=s1.put (m':=m.tick.act .flush) (pv':=.slice none 0 0) (ro':=[]) 5 (.slice none 0 0) rfl s1.now s1.safe (RowS.nil _ _) s1.keep rfl rfl (fun o ho=>kO);have ho2:Off S w ((V.setCell ⟨r,4,none⟩ (.slice np N nc)).setCell ⟨r,5,none⟩ (.slice none 0 0)):=(HS3.out.off.setCell _ _ (fun _=>HSR.out)).setCell _ _ (fun _=>HSR.out)
    have HP1:=hZ (show nM r (n+1) (m.tick.act (.flush)) S w ((V.setCell ⟨r,4,none⟩ (.slice np N nc)).setCell ⟨r,5,none⟩ (.slice none 0 0))from⟨⟨⟨_,_,_,_,_,_,(s2).sup (fun b hb=>.inl hb) (fun b hb=>hb.elim (fun hb=>Nat.lt_of_lt_of_le (HLT.out b hb) (ho2).size) (fun hb=>hb.2))⟩,HACT.out,Nat.le_trans hfn (Nat.le_succ n)⟩,ho2⟩);have C7:=hZ ((s2).cells.2.2.2.2.2.2.2)
    have HKP:=hZ (show IntsOwn S ((V.setCell ⟨r,4,none⟩ (.slice np N nc)).setCell ⟨r,5,none⟩ (.slice none 0 0)) kv m.keep from by have:=(s2).keep;rwa[show(m.tick.act (.flush)).keep=m.keep from uF m.tick _]at this);have HSUB:=hZ (show∀b,S b→mU S w ((V.setCell ⟨r,4,none⟩ (.slice np N nc)).setCell ⟨r,5,none⟩ (.slice none 0 0)) b from fun b hb=>.inl hb)
    have hbr:w.heap.size≠r:=by have:=HRL0.out;omega
    have d0':((V.setCell ⟨r,4,none⟩ (.slice np N nc)).setCell ⟨r,5,none⟩ (.slice none 0 0)).cell? ⟨w.heap.size,0,none⟩=some (.int .i64 6):=((lK (Below.heap_setCell _ _ _ _ hbr)).trans (lK (Below.heap_setCell _ _ _ _ hbr))).trans d0;clear s1 s2 ho2 hsv hbr d1 d2 d3;go_wp2_with fail;go_ret;exact aX
theorem Et{w:World}{r n:Nat}{m:DM}{S:Nat→Prop}(h:RefAt w r n m S)(old name s:ByteArray)(file:Nat)(hn:n*m.room≤4611686018427387904)(hn2:n+1≤1000000000000)(hs:s.size≤140737488355328)(hof:(file:Int)≤9223372036854775807)
  (hoff:m.off=false) (href:m.refused (.rename old name)=0):
  Calls Tryz.prog 123 #[.pointer (some ⟨r,0,none⟩),.agg #[.int .i64 4,.string old,.string name,.int .i64 file],.string s] w fun e w'=>e=.returned (.int .i64 (m.op (.rename old name)).2)∧nM r (n+1) (m.op (.rename old name)).1 S w w':=by
 have hrf:=fun W (hb:RefAt W r n m S)=>qV hb ⟨4,old,name,file⟩ s (by show(1:Int)≤4;decide) (by show(4:Int)≤6;decide) hn aC hs
 have hrc:mV ⟨4,old,name,file⟩ s=.rename old name:=rfl;rw[hrc,href]at hrf;have hlt:=h.lt
 have hfn:=h.filesN;have hok:=h.ok
 have hactok:=hok.tick.act (.rename old name) bO fZ;have hb0:=(Below.refl w.heap.size w).alloc (Nat.le_refl _) (.cells #[.int .i64 4,.string old,.string name,.int .i64 file] 175)
 have HREF:=hZ (hrf _ (h.below hb0));obtain⟨⟨fv,nv,sv,pv,kv,ro,h1⟩,-,-⟩:=h.below hb0;have HRW:=hZ h1
 have HB0:=hZ hb0;have HBX:=hZ (lP w (.cells #[.int .i64 4,.string old,.string name,.int .i64 file] 175))
 have HSR:=hZ h1.sr;have HRL0:=hZ (hlt r h1.sr)
 have HLT:=hZ hlt;have HOK:=hZ hok
 have HACT:=hZ hactok;have d0:(w.alloc (.cells #[.int .i64 4,.string old,.string name,.int .i64 file] 175)).cell? ⟨w.heap.size,0,none⟩=some (.int .i64 4):=lF HBX.out
 have d1:(w.alloc (.cells #[.int .i64 4,.string old,.string name,.int .i64 file] 175)).cell? ⟨w.heap.size,1,none⟩=some (.string old):=lF HBX.out;have d2:(w.alloc (.cells #[.int .i64 4,.string old,.string name,.int .i64 file] 175)).cell? ⟨w.heap.size,2,none⟩=some (.string name):=lF HBX.out
 have d3:(w.alloc (.cells #[.int .i64 4,.string old,.string name,.int .i64 file] 175)).cell? ⟨w.heap.size,3,none⟩=some (.int .i64 file):=lF HBX.out;have c0:=h1.cells.1
 rw[hoff]at c0;clear h h1 hb0 hrf hlt hok hactok;go_enter Tryz.func123,Tryz.ntmps123;go_wp2_with fail;refine HREF.out.mono ?_;rintro e w1 ⟨rfl,hb1⟩
 have HS1:Hid (DoS w w1 r m S S fv nv sv pv kv ro #[.int .i64 4,.string old,.string name,.int .i64 file]):=hZ
  ⟨HRW.out.frame (fun b hb=>hb1.block b (HRW.out.lt b hb)) hb1.size,((Off.refl S w).below HB0.out (Nat.le_refl _)).below hb1 HB0.out.size,fun b hb=>.inl hb,(hb1.block _ (lH HBX.out)).trans HBX.out⟩
 clear hb1 d0 d1 d2 d3 c0 HREF HRW HB0 HBX;have harm:=HOK.out.arm0
 have harm1:=HOK.out.arm1;have hway:m.armed=0∨m.armed=1∨1<m.armed:=aC
 rcases hway with ha|ha|ha
 case' inl=>
  have htk:m.tick={m with armed:=0}:=pL cA;have c6:=HS1.out.raw.cells.2.2.2.2.2.2.1
  have f6:w1.frozen? ⟨r,6,none⟩=false:=lI HS1.out.raw.head;rw[ha]at c6
  have HS2:Hid (DoS w w1 r m.tick S S fv nv sv pv kv ro #[.int .i64 4,.string old,.string name,.int .i64 file]):=hZ (by
   rw[htk];have hm:({m with armed:=0}:DM)=m:=bV
   rw[hm];exact HS1.out)
  have HDO:=hZ (xH hoff href dQ);clear htk;go_wp2_with fail;clear HS1 c6 f6;generalize w1=w2 at HS2⊢
 case' inr.inl=>
  have htk:m.tick={m with armed:=0}:=pL cA;have c6:=HS1.out.raw.cells.2.2.2.2.2.2.1
  have f6:w1.frozen? ⟨r,6,none⟩=false:=lI HS1.out.raw.head;rw[ha]at c6;have hq:=HS1.out.raw.put (m':={m with armed:=0}) 6 (.int .i64 0) rfl HS1.out.raw.now HS1.out.raw.safe HS1.out.raw.pend HS1.out.raw.keep rfl HS1.out.raw.pendE HS1.out.raw.opsF
  have HS2:Hid (DoS w (w1.setCell ⟨r,6,none⟩ (.int .i64 0)) r m.tick S S fv nv sv pv kv ro #[.int .i64 4,.string old,.string name,.int .i64 file]):=hZ ⟨bL,HS1.out.off.setCell _ _ (fun _=>HSR.out),fun b hb=>.inl hb,(Below.heap_setCell _ _ _ _ (fun e=>cU)).trans HS1.out.box⟩;have HDO:=hZ (AJ hoff href ha)
  clear hq;clear htk;go_wp2_with fail;have HST:=hZ ha
  generalize w1.setCell ⟨r,6,none⟩ (.int .i64 0)=w2 at HS2⊢;clear HS1 c6 f6
 case' inr.inr=>
  have htk:m.tick={m with armed:=(m.armed-1)}:=pL gD;have c6:=HS1.out.raw.cells.2.2.2.2.2.2.1
  have f6:w1.frozen? ⟨r,6,none⟩=false:=lI HS1.out.raw.head;have hb1:(m.armed==1)=false:=beq_eq_false_iff_ne.2 aC
  have hb2:(0:Int)<m.armed:=aC;have hq:=HS1.out.raw.put (m':={m with armed:=(m.armed-1)}) 6 (.int .i64 (m.armed-1)) rfl HS1.out.raw.now HS1.out.raw.safe HS1.out.raw.pend HS1.out.raw.keep rfl HS1.out.raw.pendE HS1.out.raw.opsF
  have HS2:Hid (DoS w (w1.setCell ⟨r,6,none⟩ (.int .i64 (m.armed-1))) r m.tick S S fv nv sv pv kv ro #[.int .i64 4,.string old,.string name,.int .i64 file]):=hZ ⟨bL,HS1.out.off.setCell _ _ (fun _=>HSR.out),fun b hb=>.inl hb,(Below.heap_setCell _ _ _ _ (fun e=>cU)).trans HS1.out.box⟩;have HDO:=hZ (xH hoff href aC)
  clear hq;clear htk;go_wp2_with fail;generalize w1.setCell ⟨r,6,none⟩ (.int .i64 (m.armed-1))=w2 at HS2⊢;clear HS1 c6 f6 hb1 hb2
 all_goals
  have H3:=hZ HS2.out.raw;obtain⟨np,nc,hnv⟩:=HS2.out.raw.now.form;have c3:=HS2.out.raw.cells.2.2.2.1
  obtain⟨N,hN⟩:∃N,m.tick.now.length=N:=⟨_,rfl⟩
  rw[hN]at hnv;subst hnv;have hNn:N≤n:=cE
  have HN:=hZ hN;have d2:w2.cell? ⟨w.heap.size,2,none⟩=some (.string name):=lF HS2.out.box
  have hat:∀q,Calls Tryz.prog 124 #[.slice np N nc,.string name] (w2.drewN q) fun e w'=>e=.returned (.int .i64 (zT m.now name.data.toList))∧w'=w2.drewN q:=fun q=>
   (wK (HS2.out.drews q).raw.now name (Nat.le_trans HOK.out.nowN aC)).mono (fun e w' hp=>⟨hp.1,hp.2.symm⟩)
  generalize zT m.now name.data.toList=TT at hat;have HAT:=hZ hat
  clear hat hN H3;go_quiet ((go_at_call 124;exact Calls.quiet_of_same (HAT.out _)));rename_i nq;have HS3:=hZ (HS2.out.drews nq)
  generalize w2.drewN nq=V at HS3⊢;clear HS2 c3 d2 HAT;have d0:V.cell? ⟨w.heap.size,0,none⟩=some (.int .i64 4):=lF HS3.out.box
  have d1:V.cell? ⟨w.heap.size,1,none⟩=some (.string old):=lF HS3.out.box;have d2:V.cell? ⟨w.heap.size,2,none⟩=some (.string name):=lF HS3.out.box
  have d3:V.cell? ⟨w.heap.size,3,none⟩=some (.int .i64 file):=lF HS3.out.box;go_wp2_with fail
  obtain⟨SV,hSV⟩:∃SV,SV=S:=⟨_,rfl⟩
  have HS4:Hid (DoS w V r m.tick S SV fv (.slice np N nc) sv pv kv ro #[.int .i64 4,.string old,.string name,.int .i64 file]):=hZ (by rw[hSV];exact HS3.out);clear HS3 hSV;have HRN:=hZ HS4.out.raw.now
  have HSV:=hZ HS4.out.raw.lt;have HRH:=hZ HS4.out.raw.head
  have HRL:=hZ (HS4.out.raw.lt r HS4.out.raw.sr);have C3:=hZ HS4.out.raw.cells.2.2.2.1
  have HBL:=hZ (lH HS4.out.box);have D0:=hZ d0
  have D1:=hZ d1;have D2:=hZ d2
  have D3:=hZ d3;have HTR:=hZ HOK.out.now
  have HTL:=hZ (show m.now.length≤2000000000000 by have:=HOK.out.nowN;omega);have HTI:=hZ (fun(p:Bs×Nat) (hp:p∈m.now)=>show(p.2:Int)≤9223372036854775807 by have:=HOK.out.nowI p hp;omega)
  have HOF:=hZ (show((file:Nat):Int)≤9223372036854775807 by omega)
  obtain⟨T,hT⟩:∃T,m.now=T:=⟨_,rfl⟩
  have HTT:=hZ hT;have HRN:Hid (oB SV V (.slice np N nc) T):=hZ kV
  rw[hT]at HTR HTL HTI;clear hT;have hI0:NowW V r SV ((ROp.dop ⟨4,old,name,file⟩).act T) (fun _=>false) undef V.drew:=⟨fun _=>(Below.refl _ V).drew,fun h=>aK,fun h=>aK,fun h=>aK,fun h=>aK⟩
  refine lQ (fun γ=>[.pointer (some ⟨r,0,none⟩),.pointer (some ⟨r,0,none⟩),.pointer (some ⟨r,0,none⟩),.pointer (some ⟨r,3,none⟩),.slice np N nc,.agg #[.int .i64 4,.string old,.string name,.int .i64 file],γ,.pointer (some ⟨r,0,none⟩),.pointer (some ⟨r,3,none⟩),undef]) (NowW V r SV ((ROp.dop ⟨4,old,name,file⟩).act T))
   [[],[],[1],[2],[3],[],[4,5],[0,0,1,2,3,4,5,6],[7,0,1,2,3,4,5,6],[8,6,6,0,1,2,3,4,5,6]] 165 undef mC rfl aE (fun _=>rfl) hI0 ?_ ?_
  ·refine⟨?_,?_,?_,?_,?_,?_,?_,?_,?_,?_,rfl⟩
   all_goals intro L γ W ev hL hd hW hc hf hg he h0
   ·have e0:ev (.tmp 0)=.pointer (some ⟨r,0,none⟩):=h0 0 rfl;clear he h0 hc hf hg;exact eK
   ·have e0:ev (.tmp 0)=.pointer (some ⟨r,0,none⟩):=h0 0 rfl;clear he h0 hc hf hg;exact eJ
   ·have e140:ev (.tmp 140)=.pointer (some ⟨r,0,none⟩):=he 1 aA _ 140 rfl rfl;clear he h0 hc hf hg;exact eI
   ·have e141:ev (.tmp 141)=.pointer (some ⟨r,0,none⟩):=he 2 aA _ 141 rfl rfl;clear he h0 hc hf hg;exact eH
   ·have e142:ev (.tmp 142)=.pointer (some ⟨r,3,none⟩):=he 3 aA _ 142 rfl rfl;have c:W.cell? ⟨r,3,none⟩=some (.slice np N nc):=(hW.same hL aA r 3 HRL.out).trans C3.out
    clear he h0 hc hf hg;exact eG
   ·have e4:ev (.tmp 4)=.pointer (some ⟨w.heap.size,0,none⟩):=h0 4 rfl;have d0:W.cell? ⟨w.heap.size,0,none⟩=some (.int .i64 4):=(hW.same hL aA w.heap.size _ HBL.out).trans D0.out
    have d1:W.cell? ⟨w.heap.size,1,none⟩=some (.string old):=(hW.same hL aA w.heap.size _ HBL.out).trans D1.out;have d2:W.cell? ⟨w.heap.size,2,none⟩=some (.string name):=(hW.same hL aA w.heap.size _ HBL.out).trans D2.out
    have d3:W.cell? ⟨w.heap.size,3,none⟩=some (.int .i64 file):=(hW.same hL aA w.heap.size _ HBL.out).trans D3.out;clear he h0 hc hf hg;exact eF
   ·have e143:ev (.tmp 143)=.slice np N nc:=he 4 aA _ 143 rfl rfl;have e144:ev (.tmp 144)=.agg #[.int .i64 4,.string old,.string name,.int .i64 file]:=he 5 aA _ 144 rfl rfl
    clear he h0 hc hg;have hb:=hW.bel (hW.off hL aA)
    have hl:oB SV W (.slice np N nc) T:=HRN.out.keep (fun b _ hS _=>hb.block b (HSV.out b hS));refine .inl ⟨rfl,.inr (.inr ⟨157,#[.slice np N nc,.agg (oE ⟨4,old,name,file⟩)],W,dZ,?_⟩)⟩;refine(Av hl (fun b hS=>Nat.lt_of_lt_of_le (HSV.out b hS) hb.size) HTR.out ⟨4,old,name,file⟩ HTL.out HTI.out HOF.out).mono ?_;rintro e w' ⟨u,rfl,hg,hb2⟩
    exact⟨u,rfl,u,hW.called hL hg hb2,rfl,fun j hj=>by
     have hj2:j≠6:=fun e=>cS
     match j,hj2 with
     |0,_|1,_|2,_|3,_|4,_|5,_|7,_|8,_|9,_=>rfl
     |n+10,_=>rfl⟩
   ·have e139:ev (.tmp 139)=.pointer (some ⟨r,0,none⟩):=he 0 aA _ 139 rfl rfl;clear he h0 hc hf hg;exact eE
   ·have e146:ev (.tmp 146)=.pointer (some ⟨r,0,none⟩):=he 7 aA _ 146 rfl rfl;clear he h0 hc hf hg;exact gG
   ·have e145:ev (.tmp 145)=γ:=he 6 aA _ 145 rfl rfl;have e147:ev (.tmp 147)=.pointer (some ⟨r,3,none⟩):=he 8 aA _ 147 rfl rfl
    clear he h0 hc hg;have h6:L 6=true:=hd 6 aA
    have hone:=hW.one h6 hL;obtain⟨up,uc,hu⟩:=hone.form;have hb:=hW.bel hL
    have cq:W.cell? ⟨r,3,none⟩=some (.slice np N nc):=(lK (hb.block r HRL.out)).trans C3.out;have cf:W.frozen? ⟨r,3,none⟩=false:=lI ((hb.block r HRL.out).trans HRH.out)
    have hfin:=hW.stored hL h6 (fun j hj=>by
     by_cases e:j=7
     ·subst e;exact hW.c8 (hd 8 aA)
     ·exact hd j dF)
    subst hu;refine .inl ⟨rfl,.inr (.inl ⟨W.setCell ⟨r,3,none⟩ (.slice up (DOp.act (ROp.dop ⟨4,old,name,file⟩) T).length uc),?_,.still hfin rfl⟩)⟩;clear hf hone hfin hW;go_simp
  ·intro nvv L' W hL' hW;simp only[nX,Act.put,List.setIfInBounds_toArray,List.set_cons_succ,List.set_cons_zero];obtain⟨W0,hb0,hl0,rfl⟩:=hW.fin (hL' 9 aA);have HS5:=hZ (HS4.out.now HSR.out HRL0.out hb0 hl0)
   clear hI0 hL' hW hb0 hl0 HS4 HRN HSV HRH HRL C3 HBL D0 D1 D2 D3;generalize mU SV V (W0.setCell ⟨r,3,none⟩ nvv)=SV at HS5;generalize W0.setCell ⟨r,3,none⟩ nvv=V at HS5⊢;have d0:V.cell? ⟨w.heap.size,0,none⟩=some (.int .i64 4):=lF HS5.out.box
   have d1:V.cell? ⟨w.heap.size,1,none⟩=some (.string old):=lF HS5.out.box;have d2:V.cell? ⟨w.heap.size,2,none⟩=some (.string name):=lF HS5.out.box
   have d3:V.cell? ⟨w.heap.size,3,none⟩=some (.int .i64 file):=lF HS5.out.box;have HSV:=hZ HS5.out.raw.lt
   have HRL:=hZ (HS5.out.raw.lt r HS5.out.raw.sr);obtain⟨pp,pc,hpv⟩:=HS5.out.raw.pend.form
   obtain⟨P,hP⟩:∃P,ro.length=P:=⟨_,rfl⟩
   have hPn:P≤n:=by
    have h1:=HS5.out.raw.pendE;have h2:=HOK.out.safeN
    have h3:=congrArg List.length h1;rw[List.length_map,hP]at h3;have h3:m.pend.length=P:=h3
    omega
   rw[hP]at hpv;subst hpv;have HPL:=hZ hP
   have HRR:=hZ HS5.out.raw;have HRP:=hZ HS5.out.raw.pend
   have C5:=hZ HS5.out.raw.cells.2.2.2.2.2.1;have HBL:=hZ (lH HS5.out.box)
   have D0:=hZ d0;have D1:=hZ d1
   have D2:=hZ d2;have D3:=hZ d3
   obtain⟨iO,hiO,hzO0,hzO1,hzO2⟩:=info_parts Ha;clear hP;go_wp2_with fail;have hI0:PenW V r (.slice pp P pc) ro ⟨4,old,name,file⟩ (fun _=>false) (0,undef) V.drew:=⟨fun _=>(Below.refl _ V).drew,fun h=>aK,fun h=>aK,fun h=>aK,fun h=>aK,fun h=>aK,fun h=>aK⟩
   refine lQ (fun γ=>[.pointer (some ⟨r,0,none⟩),.pointer (some ⟨r,0,none⟩),.pointer (some ⟨r,0,none⟩),.pointer (some ⟨r,5,none⟩),.slice pp P pc,.agg #[.int .i64 4,.string old,.string name,.int .i64 file],.slice (some ⟨γ.1,0,none⟩) 1 1,γ.2,.pointer (some ⟨r,0,none⟩),.pointer (some ⟨r,5,none⟩),undef]) (PenW V r (.slice pp P pc) ro ⟨4,old,name,file⟩)
    [[],[],[1],[2],[3],[],[5],[4,6],[0,0,1,2,3,4,5,6,7],[8,0,1,2,3,4,5,6,7],[9,7,7,0,1,2,3,4,5,6,7]] 165 (0,undef) mC rfl aE (fun _=>rfl) hI0 ?_ ?_
   ·refine⟨?_,?_,?_,?_,?_,?_,?_,?_,?_,?_,?_,rfl⟩
    all_goals intro L γ W ev hL hd hW hc hf hg he h0
    ·have e0:ev (.tmp 0)=.pointer (some ⟨r,0,none⟩):=h0 0 rfl;clear he h0 hc hf hg;exact kG
    ·have e0:ev (.tmp 0)=.pointer (some ⟨r,0,none⟩):=h0 0 rfl;clear he h0 hc hf hg;exact kE
    ·have e149:ev (.tmp 149)=.pointer (some ⟨r,0,none⟩):=he 1 aA _ 149 rfl rfl;clear he h0 hc hf hg;exact kD
    ·have e150:ev (.tmp 150)=.pointer (some ⟨r,0,none⟩):=he 2 aA _ 150 rfl rfl;clear he h0 hc hf hg;exact kC
    ·have e151:ev (.tmp 151)=.pointer (some ⟨r,5,none⟩):=he 3 aA _ 151 rfl rfl;have c:W.cell? ⟨r,5,none⟩=some (.slice pp P pc):=(hW.same hL aA r 5 HRL.out).trans C5.out
     clear he h0 hc hf hg;exact jZ
    ·have e4:ev (.tmp 4)=.pointer (some ⟨w.heap.size,0,none⟩):=h0 4 rfl;have d0:W.cell? ⟨w.heap.size,0,none⟩=some (.int .i64 4):=(hW.same hL aA w.heap.size _ HBL.out).trans D0.out
     have d1:W.cell? ⟨w.heap.size,1,none⟩=some (.string old):=(hW.same hL aA w.heap.size _ HBL.out).trans D1.out;have d2:W.cell? ⟨w.heap.size,2,none⟩=some (.string name):=(hW.same hL aA w.heap.size _ HBL.out).trans D2.out
     have d3:W.cell? ⟨w.heap.size,3,none⟩=some (.int .i64 file):=(hW.same hL aA w.heap.size _ HBL.out).trans D3.out;clear he h0 hc hf hg;exact jY
    ·have e153:ev (.tmp 153)=.agg #[.int .i64 4,.string old,.string name,.int .i64 file]:=he 5 aA _ 153 rfl rfl;clear he h0 hc hg;refine .inl ⟨rfl,.inl ⟨_,W.alloc (.cells (oE ⟨4,old,name,file⟩) 175),kQ,(W.heap.size,γ.2),hW.boxed hL (hd 5 aA),rfl,fun j hj=>?_⟩⟩;have hj2:j≠6:=fun e=>cS
     match j,hj2 with
     |0,_|1,_|2,_|3,_|4,_|5,_|7,_|8,_|9,_|10,_=>rfl
     |n+11,_=>rfl
    ·have e152:ev (.tmp 152)=.slice pp P pc:=he 4 aA _ 152 rfl rfl;have e154:ev (.tmp 154)=.slice (some ⟨γ.1,0,none⟩) 1 1:=he 6 aA _ 154 rfl rfl
     clear he h0 hc hg;have h4:=hd 4 aA
     have h6:=hd 6 aA;have hbx:=hW.box h6 hL
     have hb:=hW.bel hL;have hro:Do SV W (.slice pp P pc) ro:=HRP.out.keep (fun b _ hS _=>hb.block b (HSV.out b hS))
     have hro1:=hro.1;rw[HPL.out]at hro1;obtain⟨v',W',hr,hown,hg,-,hat⟩:=run_append_own_at (P:=Tryz.prog) W 0 165 165 175 iO (.agg #[.int .i64 0,.string ⟨#[]⟩,.string ⟨#[]⟩,.int .i64 0]) 4 48 Tryz.underlying165 hiO hzO0 hzO1 hzO2 rfl aA (.slice pp P pc) P (pZ oE ro) hro1 ⟨γ.1,0,none⟩ 1 1 (oE ⟨4,old,name,file⟩).toList rfl (fun j u hu=>(Ep hbx.1 j).trans iL) (A0 ⟨4,old,name,file⟩) cT aC (Nat.zero_le _);refine .inl ⟨rfl,.inl ⟨v',W',aU,(γ.1,v'),hW.apped hL h4 h6 hg kK hat,rfl,fun j hj=>?_⟩⟩;have hj2:j≠7:=fun e=>cS
     match j,hj2 with
     |0,_|1,_|2,_|3,_|4,_|5,_|6,_|8,_|9,_|10,_=>rfl
     |n+11,_=>rfl
    ·have e148:ev (.tmp 148)=.pointer (some ⟨r,0,none⟩):=he 0 aA _ 148 rfl rfl;clear he h0 hc hf hg;exact jX
    ·have e156:ev (.tmp 156)=.pointer (some ⟨r,0,none⟩):=he 8 aA _ 156 rfl rfl;clear he h0 hc hf hg;exact jW
    ·have e155:ev (.tmp 155)=γ.2:=he 7 aA _ 155 rfl rfl;have e157:ev (.tmp 157)=.pointer (some ⟨r,5,none⟩):=he 9 aA _ 157 rfl rfl
     clear he h0 hc hg;have h7:L 7=true:=hd 7 aA
     obtain⟨W0,p1,p2,p3,p4⟩:=hW.app h7 hL;obtain⟨up,uc,hu⟩:=yP p3;have hap:=(HRR.out.appOp HOF.out p1 p2 p4 p3).2.2
     have cq:W.cell? ⟨r,5,none⟩=some (.slice pp P pc):=lF hap;have cf:W.frozen? ⟨r,5,none⟩=false:=lI hap
     have hfin:=hW.stored hL h7;rw[hu]at e155;refine .inl ⟨rfl,.inr (.inl ⟨W.setCell ⟨r,5,none⟩ γ.2,?_,.still hfin rfl⟩)⟩;rw[hu];clear hf hfin hW hu p1 p2 p3 p4 hap;go_simp
   ·intro γ L' W hL' hW;obtain⟨tb,γv⟩:=γ;obtain⟨W0,W1,p1,p2,p3,p4,rfl⟩:=hW.fin (hL' 10 aA);simp only[nX,Act.put,List.setIfInBounds_toArray,List.set_cons_succ,List.set_cons_zero];obtain⟨SV6,q1,q2,q3⟩:=HS5.out.pen HSR.out HRL0.out HLT.out HOF.out p1 p2 p4 p3
    have hpo:RefRaw (W1.setCell ⟨r,5,none⟩ γv) r (m.tick.act (.rename old name)) SV6 (fv) nvv sv γv kv (ro++[⟨4,old,name,file⟩]):=by
     have e:m.tick.act (.rename old name)={{(m.tick:DM)with now:=(ROp.dop ⟨4,old,name,file⟩).act T}with pend:=(m.tick:DM).pend++[ROp.dop ⟨4,old,name,file⟩]}:=by
      rw[←HTT.out]
      rfl
     rw[e];exact q1
    have HP1:=hZ (show nM r (n+1) (m.tick.act (.rename old name)) S w (W1.setCell ⟨r,5,none⟩ γv)from
     ⟨⟨⟨_,_,_,_,_,_,hpo.sup q3 (fun b hb=>hb.elim (fun hb=>Nat.lt_of_lt_of_le (HLT.out b hb) q2.size) (fun hb=>hb.2))⟩,HACT.out,Nat.le_trans hfn (Nat.le_succ n)⟩,q2⟩)
    have C7:=hZ hpo.cells.2.2.2.2.2.2.2;have HKP:=hZ (show IntsOwn SV6 (W1.setCell ⟨r,5,none⟩ γv) kv m.keep from by have:=hpo.keep;rwa[show(m.tick.act (.rename old name)).keep=m.keep from uF m.tick _]at this)
    have HSUB:=hZ q3;clear hL' hW p1 p2 p3 p4 q1 q2 q3 hpo hI0;generalize W1.setCell ⟨r,5,none⟩ γv=V6 at HP1 C7 HKP HSUB⊢
    first
     |have hx:=HST.out
      clear hx;have c7:=C7.out
      have hir:IntsRd (mU S w (V6)) (V6) kv m.keep:=(IntsOwn.rd (S:=mU S w (V6)) ⟨HKP.out.1,fun b hb=>HSUB.out b (HKP.out.2 b hb)⟩ HOK.out.keepI)
      have HFL:=hZ (qW HP1.out.1 kv m.keep hir aC);clear hir;go_wp2_with fail;refine HFL.out.mono ?_;rintro e V7 ⟨rfl,hp1,hp2⟩;have HP7:=hZ (show nM r (n+1) ((m.tick.act (.rename old name)).fail m.keep) S w V7 from⟨hp1.sup (fun b hb=>(sG HP1.out.2.size hp2.size b).1 hb) (fun b hb=>hb.elim (fun hb=>Nat.lt_of_lt_of_le (HLT.out b hb) (Nat.le_trans HP1.out.2.size hp2.size)) (fun hb=>hb.2)),HP1.out.2.trG hp2⟩)
      clear hp1 hp2;go_wp2_with fail;go_ret;exact aW
     |go_wp2_with fail
      go_ret;exact aX
theorem Eu{w:World}{r n:Nat}{m:DM}{S:Nat→Prop}(h:RefAt w r n m S)(old name s:ByteArray)(file:Nat)(hn:n*m.room≤4611686018427387904)(hn2:n+1≤1000000000000)(hs:s.size≤140737488355328)(hof:(file:Int)≤9223372036854775807)
  (hoff:m.off=false) (href:m.refused (.remove name)=0):
  Calls Tryz.prog 123 #[.pointer (some ⟨r,0,none⟩),.agg #[.int .i64 5,.string old,.string name,.int .i64 file],.string s] w fun e w'=>e=.returned (.int .i64 (m.op (.remove name)).2)∧nM r (n+1) (m.op (.remove name)).1 S w w':=by
 have hrf:=fun W (hb:RefAt W r n m S)=>qV hb ⟨5,old,name,file⟩ s (by show(1:Int)≤5;decide) (by show(5:Int)≤6;decide) hn aC hs
 have hrc:mV ⟨5,old,name,file⟩ s=.remove name:=rfl;rw[hrc,href]at hrf;have hlt:=h.lt
 have hfn:=h.filesN;have hok:=h.ok
 have hactok:=hok.tick.act (.remove name) bO fZ;have hb0:=(Below.refl w.heap.size w).alloc (Nat.le_refl _) (.cells #[.int .i64 5,.string old,.string name,.int .i64 file] 175)
 have HREF:=hZ (hrf _ (h.below hb0));obtain⟨⟨fv,nv,sv,pv,kv,ro,h1⟩,-,-⟩:=h.below hb0;have HRW:=hZ h1
 have HB0:=hZ hb0;have HBX:=hZ (lP w (.cells #[.int .i64 5,.string old,.string name,.int .i64 file] 175))
 have HSR:=hZ h1.sr;have HRL0:=hZ (hlt r h1.sr)
 have HLT:=hZ hlt;have HOK:=hZ hok
 have HACT:=hZ hactok;have d0:(w.alloc (.cells #[.int .i64 5,.string old,.string name,.int .i64 file] 175)).cell? ⟨w.heap.size,0,none⟩=some (.int .i64 5):=lF HBX.out
 have d1:(w.alloc (.cells #[.int .i64 5,.string old,.string name,.int .i64 file] 175)).cell? ⟨w.heap.size,1,none⟩=some (.string old):=lF HBX.out;have d2:(w.alloc (.cells #[.int .i64 5,.string old,.string name,.int .i64 file] 175)).cell? ⟨w.heap.size,2,none⟩=some (.string name):=lF HBX.out
 have d3:(w.alloc (.cells #[.int .i64 5,.string old,.string name,.int .i64 file] 175)).cell? ⟨w.heap.size,3,none⟩=some (.int .i64 file):=lF HBX.out;have c0:=h1.cells.1
 rw[hoff]at c0;clear h h1 hb0 hrf hlt hok hactok;go_enter Tryz.func123,Tryz.ntmps123;go_wp2_with fail;refine HREF.out.mono ?_;rintro e w1 ⟨rfl,hb1⟩
 have HS1:Hid (DoS w w1 r m S S fv nv sv pv kv ro #[.int .i64 5,.string old,.string name,.int .i64 file]):=hZ
  ⟨HRW.out.frame (fun b hb=>hb1.block b (HRW.out.lt b hb)) hb1.size,((Off.refl S w).below HB0.out (Nat.le_refl _)).below hb1 HB0.out.size,fun b hb=>.inl hb,(hb1.block _ (lH HBX.out)).trans HBX.out⟩
 clear hb1 d0 d1 d2 d3 c0 HREF HRW HB0 HBX;have harm:=HOK.out.arm0
 have harm1:=HOK.out.arm1;have hway:m.armed=0∨m.armed=1∨1<m.armed:=aC
 rcases hway with ha|ha|ha
 case' inl=>
  have htk:m.tick={m with armed:=0}:=pL cA;have c6:=HS1.out.raw.cells.2.2.2.2.2.2.1
  have f6:w1.frozen? ⟨r,6,none⟩=false:=lI HS1.out.raw.head;rw[ha]at c6
  have HS2:Hid (DoS w w1 r m.tick S S fv nv sv pv kv ro #[.int .i64 5,.string old,.string name,.int .i64 file]):=hZ (by
   rw[htk];have hm:({m with armed:=0}:DM)=m:=bV
   rw[hm];exact HS1.out)
  have HDO:=hZ (xH hoff href dQ);clear htk;go_wp2_with fail;clear HS1 c6 f6;generalize w1=w2 at HS2⊢
 case' inr.inl=>
  have htk:m.tick={m with armed:=0}:=pL cA;have c6:=HS1.out.raw.cells.2.2.2.2.2.2.1
  have f6:w1.frozen? ⟨r,6,none⟩=false:=lI HS1.out.raw.head;rw[ha]at c6;have hq:=HS1.out.raw.put (m':={m with armed:=0}) 6 (.int .i64 0) rfl HS1.out.raw.now HS1.out.raw.safe HS1.out.raw.pend HS1.out.raw.keep rfl HS1.out.raw.pendE HS1.out.raw.opsF
  have HS2:Hid (DoS w (w1.setCell ⟨r,6,none⟩ (.int .i64 0)) r m.tick S S fv nv sv pv kv ro #[.int .i64 5,.string old,.string name,.int .i64 file]):=hZ ⟨bL,HS1.out.off.setCell _ _ (fun _=>HSR.out),fun b hb=>.inl hb,(Below.heap_setCell _ _ _ _ (fun e=>cU)).trans HS1.out.box⟩;have HDO:=hZ (AJ hoff href ha)
  clear hq;clear htk;go_wp2_with fail;have HST:=hZ ha
  generalize w1.setCell ⟨r,6,none⟩ (.int .i64 0)=w2 at HS2⊢;clear HS1 c6 f6
 case' inr.inr=>
  have htk:m.tick={m with armed:=(m.armed-1)}:=pL gD;have c6:=HS1.out.raw.cells.2.2.2.2.2.2.1
  have f6:w1.frozen? ⟨r,6,none⟩=false:=lI HS1.out.raw.head;have hb1:(m.armed==1)=false:=beq_eq_false_iff_ne.2 aC
  have hb2:(0:Int)<m.armed:=aC;have hq:=HS1.out.raw.put (m':={m with armed:=(m.armed-1)}) 6 (.int .i64 (m.armed-1)) rfl HS1.out.raw.now HS1.out.raw.safe HS1.out.raw.pend HS1.out.raw.keep rfl HS1.out.raw.pendE HS1.out.raw.opsF
  have HS2:Hid (DoS w (w1.setCell ⟨r,6,none⟩ (.int .i64 (m.armed-1))) r m.tick S S fv nv sv pv kv ro #[.int .i64 5,.string old,.string name,.int .i64 file]):=hZ ⟨bL,HS1.out.off.setCell _ _ (fun _=>HSR.out),fun b hb=>.inl hb,(Below.heap_setCell _ _ _ _ (fun e=>cU)).trans HS1.out.box⟩;have HDO:=hZ (xH hoff href aC)
  clear hq;clear htk;go_wp2_with fail;generalize w1.setCell ⟨r,6,none⟩ (.int .i64 (m.armed-1))=w2 at HS2⊢;clear HS1 c6 f6 hb1 hb2
 all_goals
  have H3:=hZ HS2.out.raw;obtain⟨np,nc,hnv⟩:=HS2.out.raw.now.form;have c3:=HS2.out.raw.cells.2.2.2.1
  obtain⟨N,hN⟩:∃N,m.tick.now.length=N:=⟨_,rfl⟩
  rw[hN]at hnv;subst hnv;have hNn:N≤n:=cE
  have HN:=hZ hN;have d2:w2.cell? ⟨w.heap.size,2,none⟩=some (.string name):=lF HS2.out.box
  have hat:∀q,Calls Tryz.prog 124 #[.slice np N nc,.string name] (w2.drewN q) fun e w'=>e=.returned (.int .i64 (zT m.now name.data.toList))∧w'=w2.drewN q:=fun q=>
   (wK (HS2.out.drews q).raw.now name (Nat.le_trans HOK.out.nowN aC)).mono (fun e w' hp=>⟨hp.1,hp.2.symm⟩)
  have hg:∃i,lS m.now name.data.toList=some i:=by
   have h:=href;simp only[DM.refused]at h
   cases hg:lS m.now name.data.toList with
   |some i=>exact⟨i,rfl⟩
   |none=>
    simp only[DM.get,hg]at h;cases h
  obtain⟨i,hg⟩:=hg;obtain⟨j,hj,hjt⟩:=qK hg;rw[hj]at hat;have hjn:(j:Int)<(N:Int):=dV
  have hj0:(0:Int)≤(j:Int):=aC;have HJT:=hZ hjt
  have HG:=hZ hg;clear hj hjt hg;have HAT:=hZ hat
  clear hat hN H3;go_quiet ((go_at_call 124;exact Calls.quiet_of_same (HAT.out _)));rename_i nq;have HS3:=hZ (HS2.out.drews nq)
  generalize w2.drewN nq=V at HS3⊢;clear HS2 c3 d2 HAT;have d0:V.cell? ⟨w.heap.size,0,none⟩=some (.int .i64 5):=lF HS3.out.box
  have d1:V.cell? ⟨w.heap.size,1,none⟩=some (.string old):=lF HS3.out.box;have d2:V.cell? ⟨w.heap.size,2,none⟩=some (.string name):=lF HS3.out.box
  have d3:V.cell? ⟨w.heap.size,3,none⟩=some (.int .i64 file):=lF HS3.out.box;go_wp2_with fail
  obtain⟨SV,hSV⟩:∃SV,SV=S:=⟨_,rfl⟩
  have HS4:Hid (DoS w V r m.tick S SV fv (.slice np N nc) sv pv kv ro #[.int .i64 5,.string old,.string name,.int .i64 file]):=hZ (by rw[hSV];exact HS3.out);clear HS3 hSV;have HRN:=hZ HS4.out.raw.now
  have HSV:=hZ HS4.out.raw.lt;have HRH:=hZ HS4.out.raw.head
  have HRL:=hZ (HS4.out.raw.lt r HS4.out.raw.sr);have C3:=hZ HS4.out.raw.cells.2.2.2.1
  have HBL:=hZ (lH HS4.out.box);have D0:=hZ d0
  have D1:=hZ d1;have D2:=hZ d2
  have D3:=hZ d3;have HTR:=hZ HOK.out.now
  have HTL:=hZ (show m.now.length≤2000000000000 by have:=HOK.out.nowN;omega);have HTI:=hZ (fun(p:Bs×Nat) (hp:p∈m.now)=>show(p.2:Int)≤9223372036854775807 by have:=HOK.out.nowI p hp;omega)
  have HOF:=hZ (show((file:Nat):Int)≤9223372036854775807 by omega)
  obtain⟨T,hT⟩:∃T,m.now=T:=⟨_,rfl⟩
  have HTT:=hZ hT;have HRN:Hid (oB SV V (.slice np N nc) T):=hZ kV
  rw[hT]at HTR HTL HTI;clear hT;have hI0:NowW V r SV ((ROp.dop ⟨5,old,name,file⟩).act T) (fun _=>false) undef V.drew:=⟨fun _=>(Below.refl _ V).drew,fun h=>aK,fun h=>aK,fun h=>aK,fun h=>aK⟩
  refine lQ (fun γ=>[.pointer (some ⟨r,0,none⟩),.pointer (some ⟨r,0,none⟩),.pointer (some ⟨r,0,none⟩),.pointer (some ⟨r,3,none⟩),.slice np N nc,.agg #[.int .i64 5,.string old,.string name,.int .i64 file],γ,.pointer (some ⟨r,0,none⟩),.pointer (some ⟨r,3,none⟩),undef]) (NowW V r SV ((ROp.dop ⟨5,old,name,file⟩).act T))
   [[],[],[1],[2],[3],[],[4,5],[0,0,1,2,3,4,5,6],[7,0,1,2,3,4,5,6],[8,6,6,0,1,2,3,4,5,6]] 165 undef mC rfl aE (fun _=>rfl) hI0 ?_ ?_
  ·refine⟨?_,?_,?_,?_,?_,?_,?_,?_,?_,?_,rfl⟩
   all_goals intro L γ W ev hL hd hW hc hf hg he h0
   ·have e0:ev (.tmp 0)=.pointer (some ⟨r,0,none⟩):=h0 0 rfl;clear he h0 hc hf hg;exact eK
   ·have e0:ev (.tmp 0)=.pointer (some ⟨r,0,none⟩):=h0 0 rfl;clear he h0 hc hf hg;exact eJ
   ·have e140:ev (.tmp 140)=.pointer (some ⟨r,0,none⟩):=he 1 aA _ 140 rfl rfl;clear he h0 hc hf hg;exact eI
   ·have e141:ev (.tmp 141)=.pointer (some ⟨r,0,none⟩):=he 2 aA _ 141 rfl rfl;clear he h0 hc hf hg;exact eH
   ·have e142:ev (.tmp 142)=.pointer (some ⟨r,3,none⟩):=he 3 aA _ 142 rfl rfl;have c:W.cell? ⟨r,3,none⟩=some (.slice np N nc):=(hW.same hL aA r 3 HRL.out).trans C3.out
    clear he h0 hc hf hg;exact eG
   ·have e4:ev (.tmp 4)=.pointer (some ⟨w.heap.size,0,none⟩):=h0 4 rfl;have d0:W.cell? ⟨w.heap.size,0,none⟩=some (.int .i64 5):=(hW.same hL aA w.heap.size _ HBL.out).trans D0.out
    have d1:W.cell? ⟨w.heap.size,1,none⟩=some (.string old):=(hW.same hL aA w.heap.size _ HBL.out).trans D1.out;have d2:W.cell? ⟨w.heap.size,2,none⟩=some (.string name):=(hW.same hL aA w.heap.size _ HBL.out).trans D2.out
    have d3:W.cell? ⟨w.heap.size,3,none⟩=some (.int .i64 file):=(hW.same hL aA w.heap.size _ HBL.out).trans D3.out;clear he h0 hc hf hg;exact eF
   ·have e143:ev (.tmp 143)=.slice np N nc:=he 4 aA _ 143 rfl rfl;have e144:ev (.tmp 144)=.agg #[.int .i64 5,.string old,.string name,.int .i64 file]:=he 5 aA _ 144 rfl rfl
    clear he h0 hc hg;have hb:=hW.bel (hW.off hL aA)
    have hl:oB SV W (.slice np N nc) T:=HRN.out.keep (fun b _ hS _=>hb.block b (HSV.out b hS));refine .inl ⟨rfl,.inr (.inr ⟨157,#[.slice np N nc,.agg (oE ⟨5,old,name,file⟩)],W,dZ,?_⟩)⟩;refine(Av hl (fun b hS=>Nat.lt_of_lt_of_le (HSV.out b hS) hb.size) HTR.out ⟨5,old,name,file⟩ HTL.out HTI.out HOF.out).mono ?_;rintro e w' ⟨u,rfl,hg,hb2⟩
    exact⟨u,rfl,u,hW.called hL hg hb2,rfl,fun j hj=>by
     have hj2:j≠6:=fun e=>cS
     match j,hj2 with
     |0,_|1,_|2,_|3,_|4,_|5,_|7,_|8,_|9,_=>rfl
     |n+10,_=>rfl⟩
   ·have e139:ev (.tmp 139)=.pointer (some ⟨r,0,none⟩):=he 0 aA _ 139 rfl rfl;clear he h0 hc hf hg;exact eE
   ·have e146:ev (.tmp 146)=.pointer (some ⟨r,0,none⟩):=he 7 aA _ 146 rfl rfl;clear he h0 hc hf hg;exact gG
   ·have e145:ev (.tmp 145)=γ:=he 6 aA _ 145 rfl rfl;have e147:ev (.tmp 147)=.pointer (some ⟨r,3,none⟩):=he 8 aA _ 147 rfl rfl
    clear he h0 hc hg;have h6:L 6=true:=hd 6 aA
    have hone:=hW.one h6 hL;obtain⟨up,uc,hu⟩:=hone.form;have hb:=hW.bel hL
    have cq:W.cell? ⟨r,3,none⟩=some (.slice np N nc):=(lK (hb.block r HRL.out)).trans C3.out;have cf:W.frozen? ⟨r,3,none⟩=false:=lI ((hb.block r HRL.out).trans HRH.out)
    have hfin:=hW.stored hL h6 (fun j hj=>by
     by_cases e:j=7
     ·subst e;exact hW.c8 (hd 8 aA)
     ·exact hd j dF)
    subst hu;refine .inl ⟨rfl,.inr (.inl ⟨W.setCell ⟨r,3,none⟩ (.slice up (DOp.act (ROp.dop ⟨5,old,name,file⟩) T).length uc),?_,.still hfin rfl⟩)⟩;clear hf hone hfin hW;go_simp
  ·intro nvv L' W hL' hW;simp only[nX,Act.put,List.setIfInBounds_toArray,List.set_cons_succ,List.set_cons_zero];obtain⟨W0,hb0,hl0,rfl⟩:=hW.fin (hL' 9 aA);have HS5:=hZ (HS4.out.now HSR.out HRL0.out hb0 hl0)
   clear hI0 hL' hW hb0 hl0 HS4 HRN HSV HRH HRL C3 HBL D0 D1 D2 D3;generalize mU SV V (W0.setCell ⟨r,3,none⟩ nvv)=SV at HS5;generalize W0.setCell ⟨r,3,none⟩ nvv=V at HS5⊢;have d0:V.cell? ⟨w.heap.size,0,none⟩=some (.int .i64 5):=lF HS5.out.box
   have d1:V.cell? ⟨w.heap.size,1,none⟩=some (.string old):=lF HS5.out.box;have d2:V.cell? ⟨w.heap.size,2,none⟩=some (.string name):=lF HS5.out.box
   have d3:V.cell? ⟨w.heap.size,3,none⟩=some (.int .i64 file):=lF HS5.out.box;have HSV:=hZ HS5.out.raw.lt
   have HRL:=hZ (HS5.out.raw.lt r HS5.out.raw.sr);obtain⟨pp,pc,hpv⟩:=HS5.out.raw.pend.form
   obtain⟨P,hP⟩:∃P,ro.length=P:=⟨_,rfl⟩
   have hPn:P≤n:=by
    have h1:=HS5.out.raw.pendE;have h2:=HOK.out.safeN
    have h3:=congrArg List.length h1;rw[List.length_map,hP]at h3;have h3:m.pend.length=P:=h3
    omega
   rw[hP]at hpv;subst hpv;have HPL:=hZ hP
   have HRR:=hZ HS5.out.raw;have HRP:=hZ HS5.out.raw.pend
   have C5:=hZ HS5.out.raw.cells.2.2.2.2.2.1;have HBL:=hZ (lH HS5.out.box)
   have D0:=hZ d0;have D1:=hZ d1
   have D2:=hZ d2;have D3:=hZ d3
   obtain⟨iO,hiO,hzO0,hzO1,hzO2⟩:=info_parts Ha;clear hP;go_wp2_with fail;have hI0:PenW V r (.slice pp P pc) ro ⟨5,old,name,file⟩ (fun _=>false) (0,undef) V.drew:=⟨fun _=>(Below.refl _ V).drew,fun h=>aK,fun h=>aK,fun h=>aK,fun h=>aK,fun h=>aK,fun h=>aK⟩
   refine lQ (fun γ=>[.pointer (some ⟨r,0,none⟩),.pointer (some ⟨r,0,none⟩),.pointer (some ⟨r,0,none⟩),.pointer (some ⟨r,5,none⟩),.slice pp P pc,.agg #[.int .i64 5,.string old,.string name,.int .i64 file],.slice (some ⟨γ.1,0,none⟩) 1 1,γ.2,.pointer (some ⟨r,0,none⟩),.pointer (some ⟨r,5,none⟩),undef]) (PenW V r (.slice pp P pc) ro ⟨5,old,name,file⟩)
    [[],[],[1],[2],[3],[],[5],[4,6],[0,0,1,2,3,4,5,6,7],[8,0,1,2,3,4,5,6,7],[9,7,7,0,1,2,3,4,5,6,7]] 165 (0,undef) mC rfl aE (fun _=>rfl) hI0 ?_ ?_
   ·refine⟨?_,?_,?_,?_,?_,?_,?_,?_,?_,?_,?_,rfl⟩
    all_goals intro L γ W ev hL hd hW hc hf hg he h0
    ·have e0:ev (.tmp 0)=.pointer (some ⟨r,0,none⟩):=h0 0 rfl;clear he h0 hc hf hg;exact kG
    ·have e0:ev (.tmp 0)=.pointer (some ⟨r,0,none⟩):=h0 0 rfl;clear he h0 hc hf hg;exact kE
    ·have e149:ev (.tmp 149)=.pointer (some ⟨r,0,none⟩):=he 1 aA _ 149 rfl rfl;clear he h0 hc hf hg;exact kD
    ·have e150:ev (.tmp 150)=.pointer (some ⟨r,0,none⟩):=he 2 aA _ 150 rfl rfl;clear he h0 hc hf hg;exact kC
    ·have e151:ev (.tmp 151)=.pointer (some ⟨r,5,none⟩):=he 3 aA _ 151 rfl rfl;have c:W.cell? ⟨r,5,none⟩=some (.slice pp P pc):=(hW.same hL aA r 5 HRL.out).trans C5.out
     clear he h0 hc hf hg;exact jZ
    ·have e4:ev (.tmp 4)=.pointer (some ⟨w.heap.size,0,none⟩):=h0 4 rfl;have d0:W.cell? ⟨w.heap.size,0,none⟩=some (.int .i64 5):=(hW.same hL aA w.heap.size _ HBL.out).trans D0.out
     have d1:W.cell? ⟨w.heap.size,1,none⟩=some (.string old):=(hW.same hL aA w.heap.size _ HBL.out).trans D1.out;have d2:W.cell? ⟨w.heap.size,2,none⟩=some (.string name):=(hW.same hL aA w.heap.size _ HBL.out).trans D2.out
     have d3:W.cell? ⟨w.heap.size,3,none⟩=some (.int .i64 file):=(hW.same hL aA w.heap.size _ HBL.out).trans D3.out;clear he h0 hc hf hg;exact jY
    ·have e153:ev (.tmp 153)=.agg #[.int .i64 5,.string old,.string name,.int .i64 file]:=he 5 aA _ 153 rfl rfl;clear he h0 hc hg;refine .inl ⟨rfl,.inl ⟨_,W.alloc (.cells (oE ⟨5,old,name,file⟩) 175),kQ,(W.heap.size,γ.2),hW.boxed hL (hd 5 aA),rfl,fun j hj=>?_⟩⟩;have hj2:j≠6:=fun e=>cS
     match j,hj2 with
     |0,_|1,_|2,_|3,_|4,_|5,_|7,_|8,_|9,_|10,_=>rfl
     |n+11,_=>rfl
    ·have e152:ev (.tmp 152)=.slice pp P pc:=he 4 aA _ 152 rfl rfl;have e154:ev (.tmp 154)=.slice (some ⟨γ.1,0,none⟩) 1 1:=he 6 aA _ 154 rfl rfl
     clear he h0 hc hg;have h4:=hd 4 aA
     have h6:=hd 6 aA;have hbx:=hW.box h6 hL
     have hb:=hW.bel hL;have hro:Do SV W (.slice pp P pc) ro:=HRP.out.keep (fun b _ hS _=>hb.block b (HSV.out b hS))
     have hro1:=hro.1;rw[HPL.out]at hro1;obtain⟨v',W',hr,hown,hg,-,hat⟩:=run_append_own_at (P:=Tryz.prog) W 0 165 165 175 iO (.agg #[.int .i64 0,.string ⟨#[]⟩,.string ⟨#[]⟩,.int .i64 0]) 4 48 Tryz.underlying165 hiO hzO0 hzO1 hzO2 rfl aA (.slice pp P pc) P (pZ oE ro) hro1 ⟨γ.1,0,none⟩ 1 1 (oE ⟨5,old,name,file⟩).toList rfl (fun j u hu=>(Ep hbx.1 j).trans iL) (A0 ⟨5,old,name,file⟩) cT aC (Nat.zero_le _);refine .inl ⟨rfl,.inl ⟨v',W',aU,(γ.1,v'),hW.apped hL h4 h6 hg kK hat,rfl,fun j hj=>?_⟩⟩;have hj2:j≠7:=fun e=>cS
     match j,hj2 with
     |0,_|1,_|2,_|3,_|4,_|5,_|6,_|8,_|9,_|10,_=>rfl
     |n+11,_=>rfl
    ·have e148:ev (.tmp 148)=.pointer (some ⟨r,0,none⟩):=he 0 aA _ 148 rfl rfl;clear he h0 hc hf hg;exact jX
    ·have e156:ev (.tmp 156)=.pointer (some ⟨r,0,none⟩):=he 8 aA _ 156 rfl rfl;clear he h0 hc hf hg;exact jW
    ·have e155:ev (.tmp 155)=γ.2:=he 7 aA _ 155 rfl rfl;have e157:ev (.tmp 157)=.pointer (some ⟨r,5,none⟩):=he 9 aA _ 157 rfl rfl
     clear he h0 hc hg;have h7:L 7=true:=hd 7 aA
     obtain⟨W0,p1,p2,p3,p4⟩:=hW.app h7 hL;obtain⟨up,uc,hu⟩:=yP p3;have hap:=(HRR.out.appOp HOF.out p1 p2 p4 p3).2.2
     have cq:W.cell? ⟨r,5,none⟩=some (.slice pp P pc):=lF hap;have cf:W.frozen? ⟨r,5,none⟩=false:=lI hap
     have hfin:=hW.stored hL h7;rw[hu]at e155;refine .inl ⟨rfl,.inr (.inl ⟨W.setCell ⟨r,5,none⟩ γ.2,?_,.still hfin rfl⟩)⟩;rw[hu];clear hf hfin hW hu p1 p2 p3 p4 hap;go_simp
   ·intro γ L' W hL' hW;obtain⟨tb,γv⟩:=γ;obtain⟨W0,W1,p1,p2,p3,p4,rfl⟩:=hW.fin (hL' 10 aA);simp only[nX,Act.put,List.setIfInBounds_toArray,List.set_cons_succ,List.set_cons_zero];obtain⟨SV6,q1,q2,q3⟩:=HS5.out.pen HSR.out HRL0.out HLT.out HOF.out p1 p2 p4 p3
    have hpo:RefRaw (W1.setCell ⟨r,5,none⟩ γv) r (m.tick.act (.remove name)) SV6 (fv) nvv sv γv kv (ro++[⟨5,old,name,file⟩]):=by
     have e:m.tick.act (.remove name)={{(m.tick:DM)with now:=(ROp.dop ⟨5,old,name,file⟩).act T}with pend:=(m.tick:DM).pend++[ROp.dop ⟨5,old,name,file⟩]}:=by
      rw[←HTT.out]
      rfl
     rw[e];exact q1
    have HP1:=hZ (show nM r (n+1) (m.tick.act (.remove name)) S w (W1.setCell ⟨r,5,none⟩ γv)from
     ⟨⟨⟨_,_,_,_,_,_,hpo.sup q3 (fun b hb=>hb.elim (fun hb=>Nat.lt_of_lt_of_le (HLT.out b hb) q2.size) (fun hb=>hb.2))⟩,HACT.out,Nat.le_trans hfn (Nat.le_succ n)⟩,q2⟩)
    have C7:=hZ hpo.cells.2.2.2.2.2.2.2;have HKP:=hZ (show IntsOwn SV6 (W1.setCell ⟨r,5,none⟩ γv) kv m.keep from by have:=hpo.keep;rwa[show(m.tick.act (.remove name)).keep=m.keep from uF m.tick _]at this)
    have HSUB:=hZ q3;clear hL' hW p1 p2 p3 p4 q1 q2 q3 hpo hI0;generalize W1.setCell ⟨r,5,none⟩ γv=V6 at HP1 C7 HKP HSUB⊢
    first
     |have hx:=HST.out
      clear hx;have c7:=C7.out
      have hir:IntsRd (mU S w (V6)) (V6) kv m.keep:=(IntsOwn.rd (S:=mU S w (V6)) ⟨HKP.out.1,fun b hb=>HSUB.out b (HKP.out.2 b hb)⟩ HOK.out.keepI)
      have HFL:=hZ (qW HP1.out.1 kv m.keep hir aC);clear hir;go_wp2_with fail;refine HFL.out.mono ?_;rintro e V7 ⟨rfl,hp1,hp2⟩;have HP7:=hZ (show nM r (n+1) ((m.tick.act (.remove name)).fail m.keep) S w V7 from⟨hp1.sup (fun b hb=>(sG HP1.out.2.size hp2.size b).1 hb) (fun b hb=>hb.elim (fun hb=>Nat.lt_of_lt_of_le (HLT.out b hb) (Nat.le_trans HP1.out.2.size hp2.size)) (fun hb=>hb.2)),HP1.out.2.trG hp2⟩)
      clear hp1 hp2;go_wp2_with fail;go_ret;exact aW
     |go_wp2_with fail
      go_ret;exact aX
theorem Dp{w:World}{r n:Nat}{m:DM}{S:Nat→Prop}(h:RefAt w r n m S)(o:ROp)(s:ByteArray)(hk1:1≤o.kind)(hk2:o.kind≤6)(hn:n*m.room≤4611686018427387904)(hn2:n+1≤1000000000000)(hs:s.size≤140737488355328)(hof:(o.file:Int)≤9223372036854775807):
  Calls Tryz.prog 123 #[.pointer (some ⟨r,0,none⟩),.agg (oE o),.string s] w fun e w'=>e=.returned (.int .i64 (m.op (mV o s)).2)∧nM r (n+1) (m.op (mV o s)).1 S w w':=by
 cases ho:m.off with
 |true=>
  have e:m.op (mV o s)=(m,27):=by unfold DM.op;rw[if_pos ho]
  rw[e];have hb0:=(Below.refl w.heap.size w).alloc (Nat.le_refl _) (.cells (oE o) 175)
  obtain⟨⟨fv,nv,sv,pv,kv,ro,h1⟩,-,-⟩:=h.below hb0;have c0:=h1.cells.1
  rw[ho]at c0;have H:=hZ h
  have HB:=hZ hb0;clear h h1 hb0;obtain⟨kind,old,name,file⟩:=o;change World.cell? (w.alloc (.cells #[.int .i64 kind,.string old,.string name,.int .i64 file] 175)) _=_ at c0;show Calls _ _ #[_,.agg #[.int .i64 kind,.string old,.string name,.int .i64 file],_] w _
  go_enter Tryz.func123,Tryz.ntmps123;go_wp2_with fail;go_ret;exact⟨rfl,⟨((H.out.below HB.out).sup (fun b hb=>.inl hb) (fun b hb=>hb.elim (fun hb=>Nat.lt_of_lt_of_le (H.out.lt b hb) HB.out.size) (fun hb=>hb.2))).more (Nat.le_succ n),(Off.refl S w).below HB.out (Nat.le_refl _)⟩⟩
 |false=>
  by_cases hr:m.refused (mV o s)=0
  ·obtain⟨kind,old,name,file⟩:=o;have hk1:1≤kind:=hk1
   have hk2:kind≤6:=hk2;have hway:kind=1∨kind=2∨kind=3∨kind=4∨kind=5∨kind=6:=aC
   rcases hway with rfl|rfl|rfl|rfl|rfl|rfl
   ·exact Es h old name s file hn hn2 hs hof ho hr
   ·exact FK h old name s file hn hn2 hs hof ho hr
   ·exact Hb h old name s file hn hn2 hs hof ho hr
   ·exact Et h old name s file hn hn2 hs hof ho hr
   ·exact Eu h old name s file hn hn2 hs hof ho hr
   ·exact FL h old name s file hn hn2 hs hof ho hr
  ·have e:m.op (mV o s)=(m,m.refused (mV o s)):=by unfold DM.op;rw[if_neg iB,if_pos hr]
   rw[e];have hb0:=(Below.refl w.heap.size w).alloc (Nat.le_refl _) (.cells (oE o) 175)
   have hrf:=qV (h.below hb0) o s hk1 hk2 hn aC hs;obtain⟨⟨fv,nv,sv,pv,kv,ro,h1⟩,-,-⟩:=h.below hb0;have c0:=h1.cells.1
   have hbx:=lP w (.cells (oE o) 175);rw[ho]at c0;have H:=hZ h
   have HB:=hZ hb0;obtain⟨kind,old,name,file⟩:=o;have HREF:=hZ hrf
   have HR:=hZ hr;clear h h1 hb0 hrf hr e;generalize m.refused (mV ⟨kind,old,name,file⟩ s)=rr at HREF HR⊢;have hbr:(rr==0)=false:=beq_eq_false_iff_ne.2 HR.out
   have hbr2:(rr !=0)=true:=by simp[HR.out]
   have d0:(w.alloc (.cells #[.int .i64 kind,.string old,.string name,.int .i64 file] 175)).cell? ⟨w.heap.size,0,none⟩=some (.int .i64 kind):=lF hbx;have d1:(w.alloc (.cells #[.int .i64 kind,.string old,.string name,.int .i64 file] 175)).cell? ⟨w.heap.size,1,none⟩=some (.string old):=lF hbx
   have d2:(w.alloc (.cells #[.int .i64 kind,.string old,.string name,.int .i64 file] 175)).cell? ⟨w.heap.size,2,none⟩=some (.string name):=lF hbx;have d3:(w.alloc (.cells #[.int .i64 kind,.string old,.string name,.int .i64 file] 175)).cell? ⟨w.heap.size,3,none⟩=some (.int .i64 file):=lF hbx
   change World.cell? (w.alloc (.cells #[.int .i64 kind,.string old,.string name,.int .i64 file] 175)) _=_ at c0;show Calls _ _ #[_,.agg #[.int .i64 kind,.string old,.string name,.int .i64 file],_] w _
   clear hbx;go_enter Tryz.func123,Tryz.ntmps123;go_wp2_with fail;refine HREF.out.mono ?_;rintro e w1 ⟨rfl,hb1⟩;have HB1:=hZ (HB.out.trans (hb1.mono HB.out.size))
   clear hb1 c0 d0 d1 d2 d3;go_wp2_with fail;go_ret;exact⟨rfl,⟨((H.out.below HB1.out).sup (fun b hb=>.inl hb) (fun b hb=>hb.elim (fun hb=>Nat.lt_of_lt_of_le (H.out.lt b hb) HB1.out.size) (fun hb=>hb.2))).more (Nat.le_succ n),(Off.refl S w).below HB1.out (Nat.le_refl _)⟩⟩
theorem Ev{w:World}{r n:Nat}{m:DM}{S:Nat→Prop}(h:RefAt w r n m S)(kv:Value)(ks:List Int)(hk:IntsRd S w kv ks)(hn:n≤1000000000000):
  Calls Tryz.prog 68 #[.pointer (some ⟨r,0,none⟩),kv] w fun e w'=>e=.returned (.tuple #[])∧nM r n (m.crash ks) S w w':=by
 have hf:=hZ (qW h kv ks hk hn);have H:=hZ h
 obtain⟨⟨fv,nv,sv,pv,kv0,ro,h1⟩,-,-⟩:=h;have c0:=h1.cells.1
 clear h1 hk;unfold DM.crash
 cases ho:m.off with
 |true=>
  rw[ho]at c0;go_enter Tryz.func68,Tryz.ntmps68;go_wp2_with fail;go_end0;exact⟨rfl,H.out.sup (fun b hb=>.inl hb) (fun b hb=>hb.elim (H.out.lt b) (fun hb=>hb.2)),Off.refl S w⟩
 |false=>
  rw[ho]at c0;go_enter Tryz.func68,Tryz.ntmps68;go_wp2_with fail;refine hf.out.mono ?_;rintro e w1 ⟨rfl,hp⟩;have HP:=hZ hp
  clear hp;go_wp2_with fail;go_end0;exact⟨rfl,HP.out⟩
end Go.Proofs.YtdkedmngeahjiaaGreatDoor
