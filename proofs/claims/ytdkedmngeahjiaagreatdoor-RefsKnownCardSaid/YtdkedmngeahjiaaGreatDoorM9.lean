/- Texts of the seat, one behind the other: Keys, FailP. -/
import Derived.Test.YtdkedmngeahjiaaGreatDoorM3
import Derived.Test.YtdkedmngeahjiaaGreatDoorShelf
import Derived.CallsIn
import Derived.Test.YtdkedmngeahjiaaGreatDoorActs
import Derived.Test.YtdkedmngeahjiaaGreatDoorM6
import Derived.Laws.BitsLemmas
set_option maxRecDepth 100000
set_option maxHeartbeats 25600000
/- Contracts of maps.Keys and slices.Sorted at a table, and of maps.Clone. -/
namespace Go.Proofs.YtdkedmngeahjiaaGreatDoor
theorem iW{p:Prop}(h:p:=by rw[nC];exact hq):p:=h
open Go Go.RowKit Go.Maps Go.Sort Go.Shelf
theorem yH(l:Tab):strKeys (rE l)=l.map (·.1):=by
 show(l.map qS).map (fun p=>strOf p.1)=_;rw[List.map_map]
 rfl
theorem DI:∀{a b:Bs},bytesBefore a b=true→a<b
 |[],[],h=>aK
 |[],y::ys,_=>List.nil_lt_cons y ys
 |_::_,[],h=>aK
 |x::xs,y::ys,h=>by
  rw[List.cons_lt_cons_iff];unfold bytesBefore at h;simp only[Bool.or_eq_true,Bool.and_eq_true,decide_eq_true_eq,beq_iff_eq]at h;rcases h with h|⟨h,h2⟩
  ·exact .inl h
  ·exact .inr ⟨h,DI h2⟩
theorem Gc{l:Tab}{ss:List Bs}(hr:mF l)(hp:ss.Perm (strKeys (rE l))):ss.mergeSort (fun x y=>decide (x≤y))=l.map (·.1):=by
 rw[yH]at hp;have h1:=mergeSort_of_perm hp
 refine h1.trans (List.mergeSort_of_pairwise ?_);rw[List.pairwise_map];exact List.Pairwise.imp (fun{a b} h=>decide_eq_true (List.le_of_lt (DI h))) hr
def IH(p:Bs×Nat):Value:=.string ⟨p.1.toArray⟩
theorem DJ(b:Nat)(w:World):Calls Tryz.prog 53 #[.map (some b)] w fun e w'=>e=.returned (.func (.func 114) #[] #[.pointer (some ⟨w.heap.size,0,none⟩)])∧w'=w.alloc (.cells #[.map (some b)] 85):=
 (callsIn_wide (n:=5)).1 (Tryz.maps_Keys_53 (some b) w)
theorem Bq{w:World}{b:Nat}{l:Tab}(h:rB w b l)(hl:l.length≤8796093022208):
  Calls Tryz.prog 52 #[.func (.func 114) #[] #[.pointer (some ⟨w.heap.size,0,none⟩)]] (w.alloc (.cells #[.map (some b)] 85)) fun e w'=>∃v,e=.returned v∧w'.ownsRow (w.heap.size+1) 9 1 v l.length (l.map IH)∧Below (w.heap.size+1) (w.alloc (.cells #[.map (some b)] 85)) w':=by
 have hr:=h.rising mH;have hsz:Maps.size (rE l)=l.length:=by show(l.map qS).length=_;exact List.length_map _
 refine((callsIn_wide (n:=5)).1 (Tryz.slices_Sorted_keys_52_53 b l.length (rE l) pN w h (by rw[hsz];unfold maxLen;omega) (by rw[hsz];omega))).mono ?_;rintro e w' ⟨v,ss,rfl,hp,hrow,-,hb⟩;rw[World.size_alloc]at hrow hb;have hk:=Gc hr hp
 have hlen:ss.length=l.length:=by rw[hp.length_eq,yH,List.length_map]
 rw[hk,hlen,List.map_map]at hrow;exact⟨v,rfl,hrow,hb⟩
theorem Cw{w:World}{b:Nat}{l:Tab}(h:rB w b l):Calls Tryz.prog 97 #[.map (some b)] w fun e w'=>e=.returned (.map (some w.heap.size))∧rB w' w.heap.size l∧Below w.heap.size w w':=
 (AnyW.maps_Clone_owns Tryz.cloneT 9 pN b l.length (rE l) w h).mono fun _ _ ⟨h1,h2,_,h4⟩=>⟨h1,h2,h4⟩
end Go.Proofs.YtdkedmngeahjiaaGreatDoor
/- The states of fail's two loops. -/
namespace Go.Proofs.YtdkedmngeahjiaaGreatDoor
open Go Go.RowKit Go.Maps Go.Shelf Go.Sort
attribute [local go_sem] sR sS qN qO
theorem Lk(w:World)(bk:Nat)(p:Option Addr)(cap:Nat)(h:w.cell? ⟨bk,0,none⟩=some (.slice p 0 cap)):
  Calls Tryz.prog 126 #[.pointer (some ⟨bk,0,none⟩)] w fun e w'=>e=.returned (.int .i64 0)∧w'=w:=by
 go_enter Tryz.func126,Tryz.ntmps126;go_wp2_with fail;go_ret;exact cF
theorem JZ(w:World)(bk b off n cap:Nat)(k:Int)(h:w.heap[bk]?=some (.cells #[.slice (some ⟨b,off,none⟩) (n+1) cap] 51 (0,0)))(hc:w.cell? ⟨b,off,none⟩=some (.int .i64 k))(hn:n+1≤cap)(hcap:cap≤maxLen):
  Calls Tryz.prog 126 #[.pointer (some ⟨bk,0,none⟩)] w fun e w'=>e=.returned (.int .i64 k)∧∃o',(0<n→o'=off+1)∧w'=w.setCell ⟨bk,0,none⟩ (.slice (some ⟨b,o',none⟩) n (cap-1)):=by
 have ck:w.cell? ⟨bk,0,none⟩=some (.slice (some ⟨b,off,none⟩) (n+1) cap):=lF h;have fk:w.frozen? ⟨bk,0,none⟩=false:=lI h
 unfold maxLen at hcap;go_enter Tryz.func126,Tryz.ntmps126;go_wp2_with fail
 ·go_ret;exact⟨rfl,off,aC,rfl⟩
 ·go_ret;exact⟨rfl,off+1,fun _=>rfl,rfl⟩
theorem Gd{S:Nat→Prop}{w:World}{bk:Nat}{kv:Value}{ks:List Int}(h:w.heap[bk]?=some (.cells #[kv] 51 (0,0)))(hk:IntsRd S w kv ks):
  Calls Tryz.prog 126 #[.pointer (some ⟨bk,0,none⟩)] w fun e w'=>e=.returned (.int .i64 (ks.headD 0))∧∃kv',w'.heap[bk]?=some (.cells #[kv'] 51 (0,0))∧IntsRd S w' kv' ks.tail∧Off (fun b=>b=bk) w w'∧w'.heap.size=w.heap.size:=by
 obtain⟨p,cap,rfl,⟨h1,h2⟩,h3⟩:=hk
 cases ks with
 |nil=>
  refine(Lk w bk p cap (lF h)).mono ?_;rintro e w' ⟨rfl,rfl⟩;exact⟨rfl,_,h,⟨p,cap,rfl,⟨h1,h2⟩,h3⟩,Off.refl _ _,rfl⟩
 |cons k r=>
  obtain⟨-,b,off,rfl,hc,hb,-⟩:=h3 0 k rfl;refine(JZ w bk b off r.length cap k h hc h1 h2).mono ?_;rintro e w' ⟨rfl,o',ho,rfl⟩
  have hw:(w.setCell ⟨bk,0,none⟩ (.slice (some ⟨b,o',none⟩) r.length (cap-1))).heap[bk]?=some (.cells #[.slice (some ⟨b,o',none⟩) r.length (cap-1)] 51 (0,0)):=by
   rw[lY h,lM (lH h)]
   rfl
  refine⟨rfl,_,hw,⟨_,_,rfl,⟨by simp only[List.tail_cons,List.length_cons]at h1⊢;omega,aC⟩,fun j x hj=>?_⟩,(Off.refl _ w).setCell _ _ (fun _=>rfl),World.size_setCell _ _ _⟩;obtain⟨hx,b',off',e,hc',hb',hs⟩:=h3 (j+1) x hj;cases e
  have hne:b≠bk:=fun e=>by
   subst e;rw[lF h]at hc';rw[show off+(j+1)=(off+j)+1 by omega]at hc';cases hc'
  have hr:0<r.length:=by
   cases r with
   |nil=>cases hj
   |cons _ _=>exact Nat.succ_pos _
  refine⟨hx,b,o',rfl,?_,by rw[World.size_setCell];exact hb',hs.imp id (fun⟨cs,fz,h5⟩=>⟨cs,fz,(Below.heap_setCell _ _ _ _ hne).trans h5⟩)⟩;rw[lK (Below.heap_setCell _ _ _ _ hne),ho hr,show off+1+j=off+(j+1) by omega];exact hc'
theorem zF(ps:List DOp)(i:Nat)(o:DOp)(ho:ps[i]?=some o)(ks:List Int)(t:Tab):lJ (ps.take (i+1)) ks t=if(ks.drop i).headD 0%2=1 then o.act (lJ (ps.take i) ks t)else lJ (ps.take i) ks t:=by
 induction ps generalizing i ks t with
 |nil=>cases ho
 |cons q r ih=>
  cases i with
  |zero=>
   cases ho;rw[List.take_succ_cons,List.take_zero,lJ,lJ]
   rfl
  |succ i=>
   rw[List.take_succ_cons,lJ,ih i ho,List.take_succ_cons,lJ];have e:(ks.tail.drop i)=ks.drop (i+1):=by cases ks<;>simp
   rw[e]
theorem OpsAt.at{S:Nat→Prop}{w:World}{loc:Nat→Nat}:∀{vs:List Value} {os:List DOp} (i:Nat) (o:DOp),OpsAt S w loc vs os→os[i]?=some o→∃v,vs[i]?=some v∧OpAt S w loc v o
 |v::vs,o'::os,0,o,h,ho=>by cases ho;exact⟨v,rfl,h.1⟩
 |v::vs,o'::os,i+1,o,h,ho=>OpsAt.at i o h.2 ho
 |[],[],i,o,_,ho=>kO
 |[],_::_,i,o,h,_=>h.elim
 |_::_,[],i,o,h,_=>h.elim
theorem Cx{w:World}{base n:Nat}{t:TypeId}{v:Value}{xs:List Value}(h:w.ownsRow base t 1 v n xs):∃p cap,v=.slice p n cap∧∀(i:Nat) (u:Value),xs[i]?=some u→∃g cs,p=some ⟨g,0,none⟩∧w.heap[g]?=some (.cells cs t (0,0))∧cs[i]?=some u:=by
 rcases h.2 with⟨rfl,h0⟩|⟨g,cap,cur,rfl,_,hg,h1,h2,h3,h4⟩
 ·refine⟨none,0,by rw[h0],fun i u hi=>?_⟩;have:=h.1
  rw[h0,Nat.zero_mul]at this;rw[List.eq_nil_of_length_eq_zero this]at hi;cases hi
 ·refine⟨_,cap,rfl,fun i u hi=>⟨g,cur,rfl,hg,?_⟩⟩;rw[←h4,List.getElem?_take]at hi;split at hi
  ·rw[←Array.getElem?_toList];exact hi
  ·cases hi
structure FailA (S:Nat→Prop) (w wr:World) (bs:Nat) (loc:Nat→Nat) (m:DM) (ks:List Int) (i:Nat):Prop where
 box:∃kv,wr.heap[w.heap.size]?=some (.cells #[kv] 51 (0,0))∧IntsRd S wr kv (ks.drop i)
 tab:rB wr bs (oX loc (lJ (m.pend.take i) ks m.safe))
 off:Off (fun b=>b=bs) w wr
theorem IntsRd.keep{S S':Nat→Prop}{w w':World}{kv:Value}{ks:List Int}(h:IntsRd S w kv ks)(hz:w.heap.size≤w'.heap.size)(hs:∀b,S' b→b<w.heap.size→S b)(hb:∀b,b<w.heap.size→(¬S b∨∃cs fz,w.heap[b]?=some (.cells cs 3 fz))→w'.heap[b]?=w.heap[b]?):IntsRd S' w' kv ks:=by
 obtain⟨p,cap,h0,h1,h2⟩:=h;refine⟨p,cap,h0,h1,fun j k hj=>?_⟩;obtain⟨h3,b,off,h4,h5,h6,h7⟩:=h2 j k hj;refine⟨h3,b,off,h4,(lK (hb b h6 h7)).trans h5,Nat.lt_of_lt_of_le h6 hz,?_⟩;rcases h7 with h7|⟨cs,fz,h7⟩
 ·exact .inl (fun x=>h7 (hs b x h6))
 ·exact .inr ⟨cs,fz,(hb b h6 (.inr ⟨cs,fz,h7⟩)).trans h7⟩
theorem Ie{w:World}{a n:Nat}{m:DM}{S:Nat→Prop}{bn bs:Nat}{pv fv kv:Value}{loc:Nat→Nat}{ks:List Int}(h:DiskIn w a n m S bn bs pv fv loc)(hk:IntsRd S w kv ks):FailA S w (w.alloc (.cells #[kv] 51)) bs loc m ks 0:=
 ⟨⟨kv,lP _ _,hk.keep cO (fun _ x _=>x) (fun b hb _=>Below.heap_alloc _ _ b hb)⟩,by rw[List.take_zero];exact h.safe.keep (Below.heap_alloc _ _ _ h.safe.lt),(Off.refl _ _).alloc _⟩
theorem Au(n:Int):bits .and .i64 n 1=n%2:=by
 have h127:(BitVec.ofInt 64 1).toNat=2^1-1:=aA
 have key:(BitVec.ofInt 64 n&&&BitVec.ofInt 64 1).toNat=(n% ((2^64:Nat):Int)).toNat%2^1:=by
  rw[BitVec.toNat_and,BitVec.toNat_ofInt,h127,Nat.and_two_pow_sub_one_eq_mod]
 show IntKind.i64.wrap ((BitVec.ofInt 64 n&&&BitVec.ofInt 64 1).toNat:Nat)=n%2;rw[key,IntKind.wrap_i64];omega
theorem yI(n:Int):bits .and .i64 n 3=n%4:=by
 have h127:(BitVec.ofInt 64 3).toNat=2^2-1:=aA
 have key:(BitVec.ofInt 64 n&&&BitVec.ofInt 64 3).toNat=(n% ((2^64:Nat):Int)).toNat%2^2:=by
  rw[BitVec.toNat_and,BitVec.toNat_ofInt,h127,Nat.and_two_pow_sub_one_eq_mod]
 show IntKind.i64.wrap ((BitVec.ofInt 64 n&&&BitVec.ofInt 64 3).toNat:Nat)=n%4;rw[key,IntKind.wrap_i64];omega
theorem Ge{w wr w1:World}{a n i:Nat}{m:DM}{S:Nat→Prop}{bn bs:Nat}{pv fv v:Value}{loc:Nat→Nat}{ks:List Int}{o:DOp}(h:DiskIn w a n m S bn bs pv fv loc)(hA:FailA S w wr bs loc m ks i)(hO:OpAt S w loc v o)(h1:Off (fun b=>b=w.heap.size) wr w1):
  w1.cell? ⟨a,3,none⟩=some (.map (some bs))∧OpAt S w1 loc v o∧rB w1 bs (oX loc (lJ (m.pend.take i) ks m.safe))∧Off (fun b=>b=bs) w w1:=by
 have hz:=hA.off.size;have hk:∀b,b<w.heap.size→w1.heap[b]?=wr.heap[b]?:=fun b hb=>h1.block b aC aC
 have hk2:∀b,b<w.heap.size→b≠bs→w1.heap[b]?=w.heap[b]?:=fun b hb hn=>(hk b hb).trans (hA.off.block b hb hn)
 have hab:a≠bs:=fun e=>h.safe.ne h.head e.symm
 refine⟨(lK (hk2 a (lH h.head) hab)).trans h.cells.2.2.2.1,hO.keep (fun b t cs hS hc _=>hk2 b (h.lt b hS) (fun e=>h.safe.ne hc e.symm)) (fun _ x=>x) (fun _ _ _=>rfl),hA.tab.keep (hk bs h.safe.lt),hA.off.trans h1 (fun b hb e=>?_)⟩;have e':b=w.heap.size:=e
 omega
theorem DK{w w1 w3:World}{a n i:Nat}{m:DM}{S:Nat→Prop}{bn bs:Nat}{pv fv kv:Value}{loc:Nat→Nat}{ks:List Int}(h:DiskIn w a n m S bn bs pv fv loc)(ho:Off (fun b=>b=bs) w w1)(hb:w1.heap[w.heap.size]?=some (.cells #[kv] 51 (0,0)))(hr:IntsRd S w1 kv (ks.drop i).tail)
  {l1:Tab} (hT1:rB w1 bs l1) (hg:w1.grownBy w3 (some bs)) (hT:rB w3 bs (oX loc (lJ (m.pend.take (i+1)) ks m.safe))):FailA S w w3 bs loc m ks (i+1):=by
 have hbs:=h.safe.lt
 have hr2:IntsRd S w3 kv (ks.drop i).tail:=hr.keep hg.size (fun _ x _=>x) (fun b hb2 h7=>hg.block b hb2 (fun e=>by
  cases e;rcases h7 with h7|⟨cs,fz,h7⟩
  ·exact h7 h.ss
  ·exact hT1.ne h7 rfl))
 refine⟨⟨kv,(hg.block _ (lH hb) (fun e=>by cases e;omega)).trans hb,by rw[List.tail_drop]at hr2;exact hr2⟩,hT,ho.grown hg (fun _=>rfl)⟩
theorem yJ(t:Tab)(i:Nat)(p:Bs×Nat)(hp:t[i]?=some p)(ks:List Int)(fs:List Fil):mG (t.take (i+1)) ks fs=(mG (t.take i) ks fs).set p.2 ((mG (t.take i) ks fs)[p.2]!.cut ((ks.drop i).headD 0)):=by
 induction t generalizing i ks fs with
 |nil=>cases hp
 |cons q r ih=>
  cases i with
  |zero=>
   cases hp;rw[List.take_succ_cons,List.take_zero,mG,mG]
   rfl
  |succ i=>
   rw[List.take_succ_cons,mG,ih i hp,List.take_succ_cons,mG];have e:(ks.tail.drop i)=ks.drop (i+1):=by cases ks<;>simp
   rw[e]
theorem DiskIn.fileB{w:World}{a n:Nat}{m:DM}{S:Nat→Prop}{bn bs:Nat}{pv fv:Value}{loc:Nat→Nat}(h:DiskIn w a n m S bn bs pv fv loc){i:Nat}(hi:i<m.files.length):S (loc i)∧w.heap[loc i]?=some (.cells #[.string m.files[i]!.data,.int .i64 m.files[i]!.safe] 95 (0,0)):=h.fileAt hi
structure FailB (S:Nat→Prop) (w wr:World) (bs:Nat) (loc:Nat→Nat) (m:DM) (ks:List Int) (np:Option Addr) (j:Nat):Prop where
 box:∃kv,wr.heap[w.heap.size]?=some (.cells #[kv] 51 (0,0))∧IntsRd S wr kv (ks.drop (m.pend.length+j))
 tab:rB wr bs (oX loc (lJ m.pend ks m.safe))
 file:∀i f,(mG ((lJ m.pend ks m.safe).take j) (ks.drop m.pend.length) m.files)[i]?=some f→wr.heap[loc i]?=some (.cells #[.string f.data,.int .i64 f.safe] 95 (0,0))
 off:Off (fun b=>b=bs∨∃i,i<m.files.length∧b=loc i) w wr
 row:∀(i:Nat) (p:Bs×Nat),(lJ m.pend ks m.safe)[i]?=some p→∃g cs,np=some ⟨g,0,none⟩∧wr.heap[g]?=some (.cells cs 9 (0,0))∧cs[i]?=some (.string ⟨p.1.toArray⟩)
theorem Gf{w wr w2:World}{a n:Nat}{m:DM}{S:Nat→Prop}{bn bs:Nat}{pv fv kv:Value}{loc:Nat→Nat}{ks:List Int}{np:Option Addr}(h:DiskIn w a n m S bn bs pv fv loc)(hA:Off (fun b=>b=bs) w wr)(hb:wr.heap[w.heap.size]?=some (.cells #[kv] 51 (0,0)))(hr:IntsRd S wr kv (ks.drop m.pend.length))(hT:rB wr bs (oX loc (lJ m.pend ks m.safe)))
  (h2:Below (wr.heap.size+1) (wr.alloc (.cells #[.map (some bs)] 85)) w2)
  (hnp:∀(i:Nat) (u:Value),((oX loc (lJ m.pend ks m.safe)).map IH)[i]?=some u→∃g cs,np=some ⟨g,0,none⟩∧w2.heap[g]?=some (.cells cs 9 (0,0))∧cs[i]?=some u):FailB S w w2 bs loc m ks np 0:=by
 have hz:=h2.size;rw[World.size_alloc]at hz;have hk:∀b,b<wr.heap.size→w2.heap[b]?=wr.heap[b]?:=fun b hb=>(h2.block b aC).trans (Below.heap_alloc wr _ b hb)
 have hz0:=hA.size;refine⟨⟨kv,(hk _ (lH hb)).trans hb,?_⟩,hT.keep (hk _ hT.lt),fun i f hf=>?_,?_,fun i p hp=>hnp i _ ?_⟩
 ·rw[Nat.add_zero];exact hr.keep aC (fun _ x _=>x) (fun b hb _=>hk b hb)
 ·rw[List.take_zero]at hf;have h3:=h.file i f hf
  have h4:=lH h3.2;exact((hk _ aC).trans (hA.block _ h4 (fun e=>h.safe.ne h3.2 e.symm))).trans h3.2
 ·have h5:Off (fun b=>b=bs∨∃i,i<m.files.length∧b=loc i) w wr:=hA.mono (fun _ _ e=>.inl e);exact(h5.alloc _).below h2 aC
 ·unfold oX;rw[List.map_map,List.getElem?_map,hp]
  rfl
theorem NF{fs:List Fil}{i:Nat}(h:i<fs.length):fs[i]?=some fs[i]!:=by
 rw[getElem!_pos fs i h];exact List.getElem?_eq_getElem h
theorem Ll{w wr:World}{a n j:Nat}{m:DM}{S:Nat→Prop}{bn bs:Nat}{pv fv:Value}{loc:Nat→Nat}{ks:List Int}{np:Option Addr}(h:DiskIn w a n m S bn bs pv fv loc)(hB:FailB S w wr bs loc m ks np j)(hj:j<(lJ m.pend ks m.safe).length):
  ∃(p:Bs×Nat) (F:Fil) (g:Nat),(lJ m.pend ks m.safe)[j]?=some p∧p.2<m.files.length∧np=some ⟨g,0,none⟩∧wr.cell? ⟨g,j,none⟩=some (.string ⟨p.1.toArray⟩)∧lS (lJ m.pend ks m.safe) p.1=some p.2∧
   (mG ((lJ m.pend ks m.safe).take j) (ks.drop m.pend.length) m.files)[p.2]! =F∧F.safe≤F.data.size∧F.data.size≤m.room∧wr.heap[loc p.2]?=some (.cells #[.string F.data,.int .i64 F.safe] 95 (0,0))∧p.1.length≤maxLen∧wr.cell? ⟨a,3,none⟩=some (.map (some bs)):=by
 have hids:∀p∈lJ m.pend ks m.safe,p.2<m.files.length:=qB (Q:=fun t=>∀p∈t,p.2<m.files.length) m.pend (fun o h2 t ht=>BE o ht (fun k i e=>h.ok.pendI k i (e▸h2))) ks _ h.ok.safeI;have hrise:mF (lJ m.pend ks m.safe):=qB (Q:=mF) m.pend (fun o _ t ht=>rH o ht) ks _ h.ok.safe
 have hids2:∀p∈(lJ m.pend ks m.safe).take j,p.2<m.files.length:=fun p hp=>hids p (List.mem_of_mem_take hp)
 have hp:(lJ m.pend ks m.safe)[j]?=some (lJ m.pend ks m.safe)[j]:=List.getElem?_eq_getElem hj;obtain⟨g,cs,h1,h2,h3⟩:=hB.row j _ hp;have hm:(lJ m.pend ks m.safe)[j]∈lJ m.pend ks m.safe:=List.getElem_mem hj
 have hq:=hids _ hm;have hql:(lJ m.pend ks m.safe)[j].2<(mG ((lJ m.pend ks m.safe).take j) (ks.drop m.pend.length) m.files).length:=iW
 have hF:=tS ((lJ m.pend ks m.safe).take j) (ks.drop m.pend.length) m.files hids2 h.ok.file _ (get!_mem hql)
 have hkey:=strKeys_le hB.tab Tryz.underlying9 (lJ m.pend ks m.safe)[j].1 (by
  rw[yH];exact List.mem_map.2 ⟨((lJ m.pend ks m.safe)[j].1,loc (lJ m.pend ks m.safe)[j].2),List.mem_map.2 ⟨_,hm,rfl⟩,rfl⟩)
 refine⟨_,_,g,hp,hq,h1,?_,mO hrise hm,rfl,hF.1,hF.2,hB.file _ _ (NF hql),hkey,?_⟩
 ·rw[lF h2];exact h3
 ·refine(lK (hB.off.block a (lH h.head) (fun e=>?_))).trans h.cells.2.2.2.1;rcases e with e|⟨i,hi,e⟩
  ·exact h.safe.ne h.head e.symm
  ·exact qT (h.fileB hi).2 h.head (oY aA) e
theorem If{w wr w1 w4:World}{a n j:Nat}{m:DM}{S:Nat→Prop}{bn bs:Nat}{pv fv kv:Value}{loc:Nat→Nat}{ks:List Int}{np:Option Addr}{p:Bs×Nat}{F:Fil}(h:DiskIn w a n m S bn bs pv fv loc)(hB:FailB S w wr bs loc m ks np j)
  (hp:(lJ m.pend ks m.safe)[j]?=some p) (hq:p.2<m.files.length) (hF:(mG ((lJ m.pend ks m.safe).take j) (ks.drop m.pend.length) m.files)[p.2]! =F)
  (hb:w1.heap[w.heap.size]?=some (.cells #[kv] 51 (0,0))) (hr:IntsRd S w1 kv (ks.drop (m.pend.length+j)).tail) (h1:Off (fun b=>b=w.heap.size) wr w1)
  (h4:Off (fun b=>b=loc p.2) w1 w4) (hf4:w4.heap[loc p.2]?=some (.cells #[.string (F.cut ((ks.drop (m.pend.length+j)).headD 0)).data,.int .i64 (F.cut ((ks.drop (m.pend.length+j)).headD 0)).safe] 95 (0,0))):FailB S w w4 bs loc m ks np (j+1):=by
 have hz1:=hB.off.size;have hz2:=h1.size
 have hz4:=h4.size;have hfl:=h.fileB hq
 have hfs:=lH hfl.2;have hf1:w1.heap[loc p.2]?=wr.heap[loc p.2]?:=h1.block _ aC aC
 have hfw:∃cs,wr.heap[loc p.2]?=some (.cells cs 95 (0,0)):=by
  have hql:p.2<(mG ((lJ m.pend ks m.safe).take j) (ks.drop m.pend.length) m.files).length:=iW;exact⟨_,hB.file _ _ (List.getElem?_eq_getElem hql)⟩
 obtain⟨fcs,hfw⟩:=hfw;have hfw1:=hf1.trans hfw
 have hk:∀b,b<wr.heap.size→b≠w.heap.size→b≠loc p.2→w4.heap[b]?=wr.heap[b]?:=fun b hb hn hn2=>(h4.block b aC hn2).trans (h1.block b hb hn)
 obtain⟨kv0,hb0,-⟩:=hB.box;have hT1:rB w1 bs _:=hB.tab.keep (h1.block bs hB.tab.lt (fun e=>hB.tab.ne hb0 e))
 refine⟨⟨kv,(h4.block _ (lH hb) (fun e=>?_)).trans hb,?_⟩,hT1.keep (h4.block bs hT1.lt (fun e=>hT1.ne hfw1 e)),fun i f hi=>?_,?_,fun i q hqq=>?_⟩
 ·have e':w.heap.size=loc p.2:=e;omega
 ·have h5:IntsRd S w4 kv (ks.drop (m.pend.length+j)).tail:=hr.keep hz4 (fun _ x _=>x) (fun b hb2 h7=>h4.block b hb2 (fun e=>by
   have e':b=loc p.2:=e;subst e';rcases h7 with h7|⟨cs,fz,h7⟩
   ·exact h7 hfl.1
   ·rw[hfw1]at h7;cases h7))
  rw[List.tail_drop]at h5;exact h5
 ·rw[yJ _ j p hp,hF,List.drop_drop]at hi;rw[List.getElem?_set]at hi;by_cases e:p.2=i
  ·subst e;rw[if_pos rfl,if_pos iW]at hi;cases hi;exact hf4
  ·rw[if_neg e]at hi;have h5:=hB.file i f hi
   have hil:i<m.files.length:=by
    have:=(List.getElem?_eq_some_iff.1 hi).1;rwa[nC]at this
   exact(hk _ (lH h5) (fun e2=>qT hb0 h5 (oY aA) e2) (fun e2=>e (h.inj _ _ hq hil e2.symm))).trans h5
 ·refine(hB.off.trans h1 (fun i hi e=>?_)).trans h4 (fun i _ e=>.inr ⟨p.2,hq,e⟩);have e':i=w.heap.size:=e
  omega
 ·obtain⟨g,cs,e1,e2,e3⟩:=hB.row i q hqq;exact⟨g,cs,e1,(hk g (lH e2) (fun e=>qT hb0 e2 (oY aA) e) (fun e=>qT hfw e2 (oY aA) e)).trans e2,e3⟩
theorem Off.undrew{S:Nat→Prop}{w w':World}{q:Nat}(h:Off S (w.drewN q) w'):Off S w w':=⟨h.os,h.tape,h.output,h.size,h.block⟩
theorem Lm{S:Nat→Prop}{w:World}{bk fb:Nat}{kv:Value}{ks:List Int}{F:Fil}(q:Nat)(h:w.heap[bk]?=some (.cells #[kv] 51 (0,0)))(hk:IntsRd S w kv ks)(hf:w.heap[fb]?=some (.cells #[.string F.data,.int .i64 F.safe] 95 (0,0))):
  Calls Tryz.prog 126 #[.pointer (some ⟨bk,0,none⟩)] (w.drewN q) fun e w'=>e=.returned (.int .i64 (ks.headD 0))∧w'.cell? ⟨fb,0,none⟩=some (.string F.data)∧w'.cell? ⟨fb,1,none⟩=some (.int .i64 F.safe)∧w'.frozen? ⟨fb,0,none⟩=false∧w'.frozen? ⟨fb,1,none⟩=false∧Hid (w'.heap[fb]?=some (.cells #[.string F.data,.int .i64 F.safe] 95 (0,0)))∧
   ∃kv',Hid (w'.heap[bk]?=some (.cells #[kv'] 51 (0,0)))∧Hid (IntsRd S w' kv' ks.tail)∧Hid (Off (fun b=>b=bk) w w'):=by
 refine(Gd (w:=w.drewN q) h hk).mono ?_;rintro e w' ⟨rfl,kv',h1,h2,h3,-⟩;have hne:fb≠bk:=qT h hf (oY aA)
 have hf':w'.heap[fb]?=_:=(h3.block fb (lH hf) hne).trans hf;exact⟨rfl,lF hf',lF hf',lI hf',lI hf',hZ hf',kv',hZ h1,hZ h2,hZ h3.undrew⟩
theorem EG(n:Nat):Lib.repeatL [0] n=List.replicate n 0:=by
 induction n with
 |zero=>rfl
 |succ n ih=>rw[Lib.repeatL,ih];rfl
theorem Gg(n:Nat)(w:World)(h:n≤140737488355328):
  Calls Tryz.prog 127 #[.string ⟨#[0]⟩,.int .i64 n] w fun e w'=>e=.returned (.string ⟨(List.replicate n 0).toArray⟩)∧Below w.heap.size w w':=by
 refine(Tryz.strings_Repeat ⟨#[0]⟩ n w aC ?_).mono ?_
 ·show 1*n≤_;omega
 ·rintro e w' ⟨he,hb⟩;refine⟨?_,hb⟩;rw[he,←EG]
theorem EH{w:World}{l:Nat}{F:Fil}{X z:Int}{d:ByteArray}(hz:z=(d.size:Int))(h:w.heap[l]?=some (.cells #[.string F.data,.int .i64 F.safe] 95 (0,0)))(hd:F.left X=d):
  ((w.setCell ⟨l,0,none⟩ (.string d)).setCell ⟨l,1,none⟩ (.int .i64 z)).heap[l]?=some (.cells #[.string (F.cut X).data,.int .i64 (F.cut X).safe] 95 (0,0)):=by
 rw[lY h,mM (lH h),lM (lH h)];unfold Fil.cut;rw[hd,hz]
 rfl
theorem Ln{w:World}{l:Nat}{F:Fil}{X:Int}(h:w.heap[l]?=some (.cells #[.string F.data,.int .i64 F.safe] 95 (0,0)))(hX:X%4=1):
  (w.setCell ⟨l,1,none⟩ (.int .i64 F.data.size)).heap[l]?=some (.cells #[.string (F.cut X).data,.int .i64 (F.cut X).safe] 95 (0,0)):=by
 rw[lY h,lM (lH h)];have hd:F.left X=F.data:=by unfold Fil.left;rw[if_neg aC,if_pos hX]
 unfold Fil.cut;rw[hd]
 rfl
theorem Nn{F:Fil}{X:Int}(h:X%4=0):F.left X=F.data.extract 0 F.safe:=by unfold Fil.left;rw[if_pos h]
theorem No{F:Fil}{X:Int}{R:Nat}(h:X%4=2)(hR:F.safe+R=F.data.size):F.left X=F.data.extract 0 (F.safe+R/2):=by
 unfold Fil.left;rw[if_neg aC,if_neg aC,if_pos h,show F.data.size-F.safe=R by omega]
theorem Np{F:Fil}{X:Int}{R:Nat}(h:X%4=3)(hR:F.safe+R=F.data.size):F.left X=F.data.extract 0 F.safe++⟨Array.replicate R 0⟩:=by
 unfold Fil.left;rw[if_neg aC,if_neg aC,if_neg aC,show F.data.size-F.safe=R by omega]
 rfl
structure InvR (w1:World) (l:Nat) (F:Fil) (W:World):Prop where
 c0:W.cell? ⟨l,0,none⟩=some (.string F.data)
 c1:W.cell? ⟨l,1,none⟩=some (.int .i64 F.safe)
 hh:W.heap[l]?=some (.cells #[.string F.data,.int .i64 F.safe] 95 (0,0))
 bel:Below w1.heap.size w1 W
theorem InvR.of{w1 W:World}{l:Nat}{F:Fil}(h:w1.heap[l]?=some (.cells #[.string F.data,.int .i64 F.safe] 95 (0,0)))(hb:Below w1.heap.size w1 W):InvR w1 l F W:=by
 have hh:W.heap[l]?=_:=(hb.block l (lH h)).trans h;exact⟨lF hh,lF hh,hh,hb⟩
theorem zR{w wr:World}{a n j:Nat}{m:DM}{S:Nat→Prop}{bn bs:Nat}{pv fv:Value}{loc:Nat→Nat}{ks:List Int}{np:Option Addr}(h:DiskIn w a n m S bn bs pv fv loc)(hB:FailB S w wr bs loc m ks np j):wr.heap[a]?=some (.cells (qZ m bn bs pv fv) 88 (0,0)):=by
 refine(hB.off.block a (lH h.head) (fun e=>?_)).trans h.head;rcases e with e|⟨i,hi,e⟩
 ·exact h.safe.ne h.head e.symm
 ·exact qT (h.fileB hi).2 h.head (oY aA) e
theorem Lo{w wr wc:World}{a n:Nat}{m:DM}{S:Nat→Prop}{bn bs:Nat}{pv fv:Value}{loc:Nat→Nat}{ks:List Int}{np:Option Addr}(h:DiskIn w a n m S bn bs pv fv loc)(hB:FailB S w wr bs loc m ks np (lJ m.pend ks m.safe).length)
  (hc:Below wr.heap.size wr wc) (hT:rB wc wr.heap.size (oX loc (lJ m.pend ks m.safe))):
  DiskPost a n (m.fail ks) S w (((((wc.setCell ⟨a,2,none⟩ (.map (some wr.heap.size))).setCell ⟨a,4,none⟩ (.slice none 0 0)).setCell ⟨a,0,none⟩ (.bool true)).setCell ⟨a,5,none⟩ (.int .i64 0)).setCell ⟨a,6,none⟩ (.slice none 0 0)):=by
 have hz1:=hB.off.size;have hz2:=hc.size
 have hz3:=hT.lt;have ha:=lH h.head
 have hha:wc.heap[a]?=some (.cells (qZ m bn bs pv fv) 88 (0,0)):=(hc.block a aC).trans (zR h hB)
 have e1:((((wc.setCell ⟨a,2,none⟩ (.map (some wr.heap.size))).setCell ⟨a,4,none⟩ (.slice none 0 0)).setCell ⟨a,0,none⟩ (.bool true)).setCell ⟨a,5,none⟩ (.int .i64 0)).setCell ⟨a,6,none⟩ (.slice none 0 0)=setBlk wc a (.cells (qZ (m.fail ks) wr.heap.size bs (.slice none 0 0) (.slice none 0 0)) 88 (0,0)):=by
  rw[lY hha];simp only[mM (lH hha)]
  rfl
 rw[e1];have hk:∀b,b≠a→(setBlk wc a (.cells (qZ (m.fail ks) wr.heap.size bs (.slice none 0 0) (.slice none 0 0)) 88 (0,0))).heap[b]?=wc.heap[b]?:=fun b hn=>mS hn
 have hsz:(setBlk wc a (.cells (qZ (m.fail ks) wr.heap.size bs (.slice none 0 0) (.slice none 0 0)) 88 (0,0))).heap.size=wc.heap.size:=pA;have hfile:=hB.file
 rw[List.take_length]at hfile;have hok:=h.ok.fail ks
 refine⟨⟨wr.heap.size,bs,.slice none 0 0,.slice none 0 0,loc,?_⟩,?_⟩
 ·exact{
   head:=lM aC
   sa:=.inl h.sa
   sn:=.inr ⟨hz1,by rw[hsz];exact hz3⟩
   ss:=.inl h.ss
   ne:=fun e=>by have:=hB.tab.lt;omega
   now:=hT.keep (hk _ aC)
   safe:=hB.tab.keep ((hk bs (h.safe.ne h.head)).trans (hc.block bs hB.tab.lt))
   file:=fun i f hf=>by
    have h1:=hfile i f hf
    have hi:i<m.files.length:=by
     have:=(List.getElem?_eq_some_iff.1 hf).1;unfold DM.fail at this;rwa[nC]at this
    exact⟨.inl (h.fileB hi).1,((hk _ (qT (zR h hB) h1 (oY aA))).trans (hc.block _ (lH h1))).trans h1⟩
   inj:=fun i j hi hj=>h.inj i j (by unfold DM.fail at hi;rwa[nC]at hi) (by unfold DM.fail at hj;rwa[nC]at hj)
   pend:=Ej _ _ _
   fate:=Ab _ _
   ok:=hok
   lt:=fun b hb=>by
    rcases hb with hb|⟨_,hb⟩
    ·have:=h.lt b hb;omega
    ·exact hb}
 ·refine((hB.off.mono (S':=S) (fun b hb e=>?_)).below hc hz1).setBlk (fun _=>h.sa);rcases e with e|⟨i,hi,e⟩
  ·rw[e];exact h.ss
  ·rw[e];exact(h.fileB hi).1
theorem II(w:World)(l q:Nat)(u v:Value):Off (fun b=>b=l) w (((w.drewN q).setCell ⟨l,0,none⟩ u).setCell ⟨l,1,none⟩ v):=(((Off.refl (fun b=>b=l) w).draws q).setCell _ _ (fun _=>rfl)).setCell _ _ (fun _=>rfl)
theorem Lp{w w':World}(l:Nat)(u v:Value)(h:Below w.heap.size w w'):Off (fun b=>b=l) w ((w'.setCell ⟨l,0,none⟩ u).setCell ⟨l,1,none⟩ v):=(((Off.refl (fun b=>b=l) w).below h (Nat.le_refl _)).setCell _ _ (fun _=>rfl)).setCell _ _ (fun _=>rfl)
end Go.Proofs.YtdkedmngeahjiaaGreatDoor
