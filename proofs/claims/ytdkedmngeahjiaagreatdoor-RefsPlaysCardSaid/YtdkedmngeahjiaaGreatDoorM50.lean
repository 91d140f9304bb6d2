/- Texts of the seat, one behind the other: OpenRow, OpenT, RfDig, RfOpA, RpOpA. -/
import Derived.Test.YtdkedmngeahjiaaGreatDoorProg
import Derived.Test.YtdkedmngeahjiaaGreatDoorM1
import Derived.Deep.Slices
import Derived.Deep.Fields
import Derived.ChangeSame
import Derived.Carry
import Derived.ProofKit
import Derived.OpenShut
import Derived.Test.YtdkedmngeahjiaaGreatDoorM19
import Derived.Test.YtdkedmngeahjiaaGreatDoorDigB
import Derived.Test.YtdkedmngeahjiaaGreatDoorRfActs
import Derived.Test.YtdkedmngeahjiaaGreatDoorM40
set_option maxRecDepth 100000
set_option maxHeartbeats 25600000
/- A slice among the arguments, of any elements: read as data, and as it lies in memory. -/
namespace Go.Proofs.YtdkedmngeahjiaaGreatDoor
open Go.ChangeShapes Go.WideShapes Go.RowKit Go.Deep
section
variable {H:Type} {enc:TypeId × Value→H} {w:World} {held:Bool}
theorem weightsAllIn {P:Program} {e:TypeId}:∀ {l:List (DataW H)} {d:DataW H},d∈l→∀ k∈d.weights P e,k∈DataW.weightsAll P e l
 |x :: r,d,hd,k,hk=>by
  rw [DataW.weightsAll,List.mem_append]
  rcases List.mem_cons.1 hd with rfl | h
  ·exact .inl hk
  ·exact .inr (weightsAllIn h k hk)
theorem open_row {P:Program} {t e:TypeId} (C B:Nat) (ht:P.underlying t=some (.slice e)) (hc:P.cellsOf e=C) (hb:P.bytesOf e=B) (hC:0 < C) {n:Nat} {v:Value} {x:DataW H × List MemPlace} (h:DataW.trod enc P w 0 (fun _=>true) held n t [v]=some x) :
  ∃ (len cap:Nat) (p:Option Addr) (D:Nat→DataW H) (Pl:Nat→List MemPlace) (n':Nat),v=.slice p len cap∧len≤cap∧cap≤maxLen ∧
   (∀ i,i < len→∃ b off,p=some ⟨b,off,none⟩∧b < w.heap.size∧∃ cs:List Value,cs.length=C∧(∀ j,j < C→w.cell? ⟨b,off+(i * C+j),none⟩=cs[j]?)∧DataW.trod enc P w 0 (fun _=>true) held n' e cs=some (D i,Pl i)) ∧
   (∀ Bd,(∀ k∈x.1.weights P t,k≤Bd)→len * B≤Bd∧∀ i,i < len→∀ k∈(D i).weights P e,k≤Bd):=by
 rcases open_slice ht h with ⟨h0,-⟩ | ⟨a',len,cap,m,n',D,Pl,hcs,-,hl,hm,hmm,hx,hi⟩
 ·have e:v=.slice none 0 0:=by simpa using h0
  subst e
  exact ⟨0,0,none,fun _=>.nil,fun _=>[],0,rfl,Nat.le_refl _,Nat.zero_le _,(fun i hi=>absurd hi (Nat.not_lt_zero _)),fun Bd _=>⟨by omega,fun i hi=>absurd hi (Nat.not_lt_zero _)⟩⟩
 ·have e:v=.slice (some a') len cap:=by simpa using hcs
  subst e
  rw [if_pos rfl] at hmm
  subst hmm
  rw [hc] at hi
  refine ⟨len,m,some a',D,Pl,n',rfl,hl,hm,fun i hil=>?_,fun Bd hB=>?_⟩
  ·obtain ⟨b,off,spot⟩:=a'
   have hs:spot=none∧b < w.heap.size:=by
    obtain ⟨cs0,k1,-⟩:=hi 0 (by omega)
    obtain ⟨-,klen,k3⟩:=World.cells?_some k1
    have g0:=k3 0 hC
    rw [Nat.zero_mul,Go.Deep.add_add,List.getElem?_eq_getElem (by omega)] at g0
    have g1:w.cell? ⟨b,off,spot⟩=some cs0[0]:=g0
    refine ⟨by simpa using World.cell?_spot g1,?_⟩
    unfold World.cell? at g1
    split at g1
    ·rename_i hh
     exact blk_lt hh
    ·cases g1
   obtain ⟨rfl,hbs⟩:=hs
   obtain ⟨cs',h1,h2⟩:=hi i (by omega)
   obtain ⟨-,hlen,h3⟩:=World.cells?_some h1
   refine ⟨b,off,rfl,hbs,cs',hlen,fun j hj=>?_,h2⟩
   have:=h3 j hj
   rw [Go.Deep.add_add] at this
   rw [← this]
   unfold Addr.add
   split
   ·rename_i e0;rw [e0];rfl
   ·rfl
  ·rw [hx] at hB
   have hwt:(DataW.slice ((List.range len).map D) ((List.range (m - len)).map fun j=>D (len+j)):DataW H).weights P t=(((List.range len).map D).length+((List.range (m - len)).map fun j=>D (len+j)).length) * B :: (DataW.weightsAll P e ((List.range len).map D) ++ DataW.weightsAll P e ((List.range (m - len)).map fun j=>D (len+j))):=by
    rw [DataW.weights,ht]
    simp only [hb]
   rw [hwt] at hB
   have h1:=hB _ (List.mem_cons_self ..)
   rw [List.length_map,List.length_map,List.length_range,List.length_range] at h1
   refine ⟨Nat.le_trans (Nat.mul_le_mul_right B (by omega)) h1,fun i hil k hk=>hB k (List.mem_cons_of_mem _ (List.mem_append.2 (.inl (weightsAllIn (List.mem_map.2 ⟨i,List.mem_range.2 hil,rfl⟩) k hk))))⟩
end
end Go.Proofs.YtdkedmngeahjiaaGreatDoor
/- Texts among the arguments: read as data, and as they lie in memory; a number among the arguments. -/
namespace Go.Proofs.YtdkedmngeahjiaaGreatDoor
open Go.ChangeShapes Go.WideShapes Go.RowKit Go.Deep
section
variable {H:Type} {enc:TypeId × Value→H} {w:World} {held:Bool}
theorem tx_ln1 {α:Type} {l:List α} (h:l.length=1):∃ a0,l=[a0]:=by
 match l,h with
 |[a0],_=>exact ⟨_,rfl⟩
theorem open_num {v:Value} {d:DataW H} {ps:List MemPlace} {r:Reach} {b0:Nat} (hv:Value.okWide Tryz.prog w r b0 3 v) (h:DataW.Trod enc Tryz.prog w 0 (fun _=>true) held 3 v d ps) :
  ∃ x:Int,v=.int .i64 x∧-9223372036854775808≤x∧x≤9223372036854775807:=by
 obtain ⟨fuel,hf⟩:=h
 obtain ⟨x,rfl⟩:=okWide_int Tryz.underlying3 hv
 obtain ⟨s,h1,h2,h3⟩:=DataW.trod_int Tryz.underlying3 hf
 have h1:[Value.int .i64 x]=[.int .i64 s]:=h1
 obtain rfl:x=s:=by simpa using h1
 simp only [Lit.wf,Bool.and_eq_true,decide_eq_true_eq] at h3
 exact ⟨x,rfl,h3⟩
theorem open_texts {n:Nat} {v:Value} {x:DataW H × List MemPlace} (h:DataW.trod enc Tryz.prog w 0 (fun _=>true) held n 31 [v]=some x) :
  ∃ (p:Option Addr) (cap:Nat) (l:List ByteArray),v=.slice p l.length cap∧TextsRd w (.slice p l.length cap) l∧((∀ k∈x.1.weights Tryz.prog 31,k≤140737488351232)→l.length≤8800000000000∧∀ s∈l,s.size≤140737488351232):=by
 obtain ⟨len,cap,p,D,Pl,n',rfl,hl,hm,hi,hw⟩:=open_row 1 16 Tryz.underlying31 (by kernel_rfl) (by kernel_rfl) (by decide) h
 obtain ⟨F,hF⟩:=choose_lt (α:=ByteArray) (n:=len) (p:=fun i s=>(∃ b off,p=some ⟨b,off,none⟩∧b < w.heap.size∧w.cell? ⟨b,off+i,none⟩=some (.string s))∧((∀ k∈(D i).weights Tryz.prog 9,k≤140737488351232)→s.size≤140737488351232)) (fun i hil=>by
  obtain ⟨b,off,e,hb,cs,hcl,hc,ht⟩:=hi i hil
  obtain ⟨a0,rfl⟩:=tx_ln1 hcl
  obtain ⟨s,h1,h2,-⟩:=DataW.trod_string Tryz.underlying9 ht
  obtain rfl:=(List.cons.inj h1).1
  refine ⟨s,⟨b,off,e,hb,?_⟩,fun hB=>?_⟩
  ·have:=hc 0 (by decide)
   rwa [Nat.mul_one,Nat.add_zero] at this
  ·have hD:D i=.lit (.string s.data.toList):=by first | exact h2 | exact congrArg Prod.fst h2
   rw [hD] at hB
   refine hB s.size ?_
   simp only [DataW.weights,List.mem_cons,List.mem_singleton,List.not_mem_nil,or_false]
   rfl)
 have hlen:((List.range len).map F).length=len:=by rw [List.length_map,List.length_range]
 have hget:∀ {i:Nat} {s:ByteArray},((List.range len).map F)[i]?=some s→i < len∧F i=s:=fun {i s} h=>by
  rw [List.getElem?_map] at h
  by_cases hi:i < len
  ·rw [List.getElem?_range hi] at h
   exact ⟨hi,by simpa using h⟩
  ·rw [List.getElem?_eq_none (by simpa using hi)] at h
   cases h
 refine ⟨p,cap,(List.range len).map F,by rw [hlen],⟨p,cap,by rw [hlen],fun i s his=>?_⟩,fun hB=>⟨?_,fun s hs=>?_⟩⟩
 ·obtain ⟨hil,rfl⟩:=hget his
  exact (hF i hil).1
 ·rw [hlen]
  have:=(hw _ hB).1
  omega
 ·obtain ⟨i,hi⟩:=List.getElem?_of_mem hs
  obtain ⟨hil,rfl⟩:=hget hi
  exact (hF i hil).2 ((hw _ hB).2 i hil)
end
end Go.Proofs.YtdkedmngeahjiaaGreatDoor
/- A digest among the arguments. -/
namespace Go.Proofs.YtdkedmngeahjiaaGreatDoor
open Go.ChangeShapes Go.WideShapes Go.RowKit Go.Deep
def cellB:Value→UInt8
 |.int _ n=>UInt8.ofNat n.toNat
 |_=>0
section
variable {H:Type} {enc:TypeId × Value→H} {w:World} {held:Bool}
theorem dig_cells {fuel:Nat} {cs:List Value} {x:DataW H × List MemPlace} (h:DataW.trod enc Tryz.prog w 0 (fun _=>true) held fuel 33 cs=some x):(cs.map cellB).length=32∧cs=(cs.map cellB).map byteV:=by
 have hce:Tryz.prog.cellsOf 5=1:=by kernel_rfl
 have hct:Tryz.prog.cellsOf 33=32:=by kernel_rfl
 obtain ⟨xs,m,-,-,hl,hn,hi⟩:=DataW.trod_array Tryz.underlying33 h
 rw [hct] at hl
 refine ⟨by rw [List.length_map,hl],List.ext_getElem? fun i=>?_⟩
 rw [List.map_map,List.getElem?_map]
 by_cases hi32:i < 32
 ·have h1:=hi i hi32
  rw [hce,List.getElem?_eq_getElem (by omega),Nat.mul_one] at h1
  obtain ⟨n,e1,-,e3⟩:=DataW.trod_int Tryz.underlying5 h1
  have h4:=congrArg (fun l:List Value=>l[0]?) e1
  simp only [List.getElem?_take,List.getElem?_drop] at h4
  have h5:cs[i]?=some (.int .u8 n):=by simpa using h4
  rw [h5]
  simp only [Lit.wf,Bool.and_eq_true,decide_eq_true_eq] at e3
  show some (Value.int .u8 n)=some (byteV (UInt8.ofNat n.toNat))
  have h6:n=((UInt8.ofNat n.toNat).toNat:Int):=by
   rw [UInt8.toNat_ofNat']
   have:0≤n∧n≤255:=e3
   omega
  rw [show byteV (UInt8.ofNat n.toNat)=Value.int .u8 ((UInt8.ofNat n.toNat).toNat:Int) from rfl,← h6]
 ·rw [List.getElem?_eq_none (by omega)]
  rfl
theorem open_dig {v:Value} {d:DataW H} {ps:List MemPlace} {r:Reach} {b0:Nat} (hv:Value.okWide Tryz.prog w r b0 33 v) (h:DataW.Trod enc Tryz.prog w 0 (fun _=>true) held 33 v d ps) :
  ∃ D:List UInt8,D.length=32∧v=digV D:=by
 obtain ⟨fuel,hf⟩:=h
 have h1:∃ cs:Array Value,v=.agg cs:=by
  unfold Value.okWide at hv
  rw [Tryz.underlying33] at hv
  obtain ⟨cs,h1,-⟩:=hv
  exact ⟨cs,h1⟩
 obtain ⟨cs,rfl⟩:=h1
 obtain ⟨h2,h3⟩:=dig_cells (cs:=cs.toList) hf
 refine ⟨_,h2,?_⟩
 unfold digV
 rw [← h3]
end
end Go.Proofs.YtdkedmngeahjiaaGreatDoor
/- Acts on names among the arguments: read as data, and as they lie in memory. -/
namespace Go.Proofs.YtdkedmngeahjiaaGreatDoor
open Go.ChangeShapes Go.WideShapes Go.RowKit Go.Deep
section
variable {H:Type} {enc:TypeId × Value→H} {w:World} {held:Bool}
theorem on1 {α:Type} {l:List α} (h:l.length=1):∃ a0,l=[a0]:=by
 match l,h with
 |[a0],_=>exact ⟨_,rfl⟩
theorem on3 {α:Type} {l:List α} (h:l.length=3):∃ a0 a1 a2,l=[a0,a1,a2]:=by
 match l,h with
 |[a0,a1,a2],_=>exact ⟨_,_,_,rfl⟩
theorem on5 {α:Type} {l:List α} (h:l.length=5):∃ a0 a1 a2 a3 a4,l=[a0,a1,a2,a3,a4]:=by
 match l,h with
 |[a0,a1,a2,a3,a4],_=>exact ⟨_,_,_,_,_,rfl⟩
theorem on36 {cs:List Value} (h:cs.length=36):∃ a dl b n k,dl.length=32∧cs=a :: (dl ++ [b,n,k]):=by
 cases cs with
 |nil=>cases h
 |cons a r =>
  rw [List.length_cons] at h
  have h1:(r.drop 32).length=3:=by rw [List.length_drop];omega
  obtain ⟨b,n,k,e⟩:=on3 h1
  exact ⟨a,r.take 32,b,n,k,by rw [List.length_take];omega,by rw [← e,List.take_append_drop]⟩
theorem reads_strR {n:Nat} {v:Value} {y:DataW H × List MemPlace} (h:DataW.trod enc Tryz.prog w 0 (fun _=>true) held n 9 [v]=some y):∃ s:ByteArray,v=.string s∧y.1=.lit (.string s.data.toList):=by
 obtain ⟨s,h1,h2,_⟩:=DataW.trod_string Tryz.underlying9 h
 exact ⟨s,(List.cons.inj h1).1,by rw [h2]⟩
theorem reads_intR {n:Nat} {v:Value} {y:DataW H × List MemPlace} (h:DataW.trod enc Tryz.prog w 0 (fun _=>true) held n 3 [v]=some y):∃ x:Int,v=.int .i64 x∧y.1=.lit (.int .i64 x)∧bigI x:=by
 obtain ⟨s,h1,h2,h3⟩:=DataW.trod_int Tryz.underlying3 h
 simp only [Lit.wf,Bool.and_eq_true,decide_eq_true_eq] at h3
 exact ⟨s,(List.cons.inj h1).1,by rw [h2],h3⟩
theorem open_intsR {n:Nat} {v:Value} {x:DataW H × List MemPlace} (h:DataW.trod enc Tryz.prog w 0 (fun _=>true) held n 51 [v]=some x) :
  ∃ ks:List Int,IntsIn w v ks∧∀ B,(∀ k∈x.1.weights Tryz.prog 51,k≤B)→ks.length * 8≤B:=by
 obtain ⟨len,cap,p,D,Pl,n',rfl,hl,hm,hi,hw⟩:=open_row 1 8 Tryz.underlying51 (by kernel_rfl) (by kernel_rfl) (by decide) h
 obtain ⟨F,hF⟩:=choose_lt (α:=Int) (n:=len) (p:=fun i k=>bigI k∧∃ b off,p=some ⟨b,off,none⟩∧b < w.heap.size∧w.cell? ⟨b,off+i,none⟩=some (.int .i64 k)) (fun i hil=>by
  obtain ⟨b,off,e,hb,cs,hcl,hc,ht⟩:=hi i hil
  obtain ⟨a0,rfl⟩:=on1 hcl
  obtain ⟨k,rfl,-,hk⟩:=reads_intR ht
  refine ⟨k,hk,b,off,e,hb,?_⟩
  have:=hc 0 (by decide)
  rwa [Nat.mul_one,Nat.add_zero] at this)
 refine ⟨(List.range len).map F,⟨p,cap,by rw [List.length_map,List.length_range],by rw [List.length_map,List.length_range];exact ⟨hl,hm⟩,fun j k hj=>?_⟩,fun B hB=>by rw [List.length_map,List.length_range];exact (hw B hB).1⟩
 rw [List.getElem?_map] at hj
 by_cases hjl:j < len
 ·rw [List.getElem?_range hjl] at hj
  obtain rfl:F j=k:=by simpa using hj
  obtain ⟨h1,b,off,e,hb,hc⟩:=hF j hjl
  exact ⟨h1,b,off,e,hc,hb,.inl (fun x=>x)⟩
 ·rw [List.getElem?_eq_none (by simpa using hjl)] at hj
  cases hj
theorem open_actR {n:Nat} {cs:List Value} {x:DataW H × List MemPlace} (h:DataW.trod enc Tryz.prog w 0 (fun _=>true) held n 59 cs=some x) :
  ∃ (m:ActR) (kv:Value),cs=m.cells kv∧IntsIn w kv m.keep∧((∀ k∈x.1.weights Tryz.prog 59,k≤140737488351232)→m.Fits):=by
 obtain ⟨xs,n1,rfl,rfl,hl,hxl,hf⟩:=DataW.trod_struct Tryz.underlying59 h
 have hcM:Tryz.prog.cellsOf 59=36:=by kernel_rfl
 have hcS:Tryz.prog.cellsOf 9=1:=by kernel_rfl
 have hcI:Tryz.prog.cellsOf 3=1:=by kernel_rfl
 have hcB:Tryz.prog.cellsOf 4=1:=by kernel_rfl
 have hcF:Tryz.prog.cellsOf 51=1:=by kernel_rfl
 have hcD:Tryz.prog.cellsOf 33=32:=by kernel_rfl
 rw [hcM] at hl
 obtain ⟨a0,dl,a2,a3,a4,hdl,rfl⟩:=on36 hl
 obtain ⟨y0,y1,y2,y3,y4,rfl⟩:=on5 hxl
 have d0:((a0 :: (dl ++ [a2,a3,a4])).drop 0).take 1=[a0]:=rfl
 have d1:((a0 :: (dl ++ [a2,a3,a4])).drop 1).take 32=dl:=by rw [List.drop_succ_cons,List.drop_zero,List.take_left' hdl]
 have k2:dl.drop 32=[]:=List.drop_eq_nil_of_le (by omega)
 have k3:dl.drop 33=[]:=List.drop_eq_nil_of_le (by omega)
 have k4:dl.drop 34=[]:=List.drop_eq_nil_of_le (by omega)
 have d2:((a0 :: (dl ++ [a2,a3,a4])).drop 33).take 1=[a2]:=by simp [List.drop_append,hdl,k2,k3,k4]
 have d3:((a0 :: (dl ++ [a2,a3,a4])).drop 34).take 1=[a3]:=by simp [List.drop_append,hdl,k2,k3,k4]
 have d4:((a0 :: (dl ++ [a2,a3,a4])).drop 35).take 1=[a4]:=by simp [List.drop_append,hdl,k2,k3,k4]
 have h0:=hf 0 _ rfl
 have h1:=hf 1 _ rfl
 have h2:=hf 2 _ rfl
 have h3:=hf 3 _ rfl
 have h4:=hf 4 _ rfl
 simp only [List.getElem_toArray,List.getElem_cons_zero,List.getElem_cons_succ,hcS,hcI,hcF,hcB,hcD,d0,d1,d2,d3,d4,List.getElem?_cons_zero,List.getElem?_cons_succ] at h0 h1 h2 h3 h4
 obtain ⟨s0,rfl,e0⟩:=reads_strR h0
 obtain ⟨q1,q2⟩:=dig_cells h1
 obtain ⟨b2,e2a,e2⟩:=DataW.trod_bool Tryz.underlying4 h2
 obtain rfl:a2=.bool b2:=(List.cons.inj e2a).1
 obtain ⟨s3,rfl,e3,b3⟩:=reads_intR h3
 clear k2 k3 k4
 obtain ⟨ks,k1,k2⟩:=open_intsR h4
 refine ⟨⟨s0,dl.map cellB,b2,s3,ks⟩,a4,?_,k1,fun hB=>?_⟩
 ·unfold ActR.cells
  show Value.string s0 :: (dl ++ _)=.string s0 :: ((dl.map cellB).map byteV ++ _)
  rw [← q2]
 ·have hB':∀ k∈(DataW.agg [y0.1,y1.1,y2.1,y3.1,y4.1]).weights Tryz.prog 59,k≤140737488351232:=hB
  rw [e0,e2,e3] at hB'
  simp only [DataW.weights,DataW.weightsEach,Tryz.underlying59,List.map_cons,List.map_nil,List.append_nil,List.nil_append,List.cons_append,List.mem_cons,List.mem_append,or_imp,forall_and,forall_eq] at hB'
  obtain ⟨g1,-,g3⟩:=hB'
  exact ⟨q1,b3,g1,k2 _ g3⟩
instance:Inhabited ActR:=⟨⟨⟨#[]⟩,[],false,0,[]⟩⟩
theorem getMapR {α:Type} {F:Nat→α} {len i:Nat} {m:α} (h:((List.range len).map F)[i]?=some m):i < len∧F i=m:=by
 rw [List.getElem?_map] at h
 by_cases hi:i < len
 ·rw [List.getElem?_range hi] at h
  exact ⟨hi,by simpa using h⟩
 ·rw [List.getElem?_eq_none (by simpa using hi)] at h
  cases h
theorem open_actsR {n:Nat} {v:Value} {x:DataW H × List MemPlace} (h:DataW.trod enc Tryz.prog w 0 (fun _=>true) held n 56 [v]=some x) :
  ∃ l:List ActR,ActsR w v l∧((∀ k∈x.1.weights Tryz.prog 56,k≤140737488351232)→l.length≤8800000000000∧∀ m∈l,m.Fits):=by
 obtain ⟨len,cap,p,D,Pl,n',rfl,hl,hm,hi,hw⟩:=open_row 36 88 Tryz.underlying56 (by kernel_rfl) (by kernel_rfl) (by decide) h
 obtain ⟨F,hF⟩:=choose_lt (α:=ActR) (n:=len) (p:=fun i m=>(∃ b off kv,p=some ⟨b,off,none⟩∧b < w.heap.size∧(∀ j,j < 36→w.cell? ⟨b,off+(i * 36+j),none⟩=(m.cells kv)[j]?)∧IntsIn w kv m.keep)∧((∀ k∈(D i).weights Tryz.prog 59,k≤140737488351232)→m.Fits)) (fun i hil=>by
  obtain ⟨b,off,e,hb,cs,hcl,hc,ht⟩:=hi i hil
  obtain ⟨m,kv,rfl,hk,hs⟩:=open_actR ht
  exact ⟨m,⟨b,off,kv,e,hb,fun j hj=>hc j hj,hk⟩,hs⟩)
 refine ⟨(List.range len).map F,⟨p,cap,by rw [List.length_map,List.length_range],fun i m him=>?_⟩,fun hB=>⟨?_,fun m hm=>?_⟩⟩
 ·obtain ⟨hil,rfl⟩:=getMapR him
  exact (hF i hil).1
 ·have:=(hw _ hB).1
  rw [List.length_map,List.length_range]
  omega
 ·obtain ⟨i,hir,rfl⟩:=List.mem_map.1 hm
  have hil:=List.mem_range.1 hir
  exact (hF i hil).2 ((hw _ hB).2 i hil)
end
end Go.Proofs.YtdkedmngeahjiaaGreatDoor
/- Steps of RefsPlays among the arguments: read as data, and as they lie in memory. -/
namespace Go.Proofs.YtdkedmngeahjiaaGreatDoor
open Go.ChangeShapes Go.WideShapes Go.RowKit Go.Deep
section
variable {H:Type} {enc:TypeId × Value→H} {w:World} {held:Bool}
theorem on6 {α:Type} {l:List α} (h:l.length=6):∃ a0 a1 a2 a3 a4 a5,l=[a0,a1,a2,a3,a4,a5]:=by
 match l,h with
 |[a0,a1,a2,a3,a4,a5],_=>exact ⟨_,_,_,_,_,_,rfl⟩
theorem on37 {cs:List Value} (h:cs.length=37):∃ k a dl b n v,dl.length=32∧cs=k :: a :: (dl ++ [b,n,v]):=by
 cases cs with
 |nil=>cases h
 |cons k r =>
  obtain ⟨a,dl,b,n,v,h1,rfl⟩:=on36 (cs:=r) (by rw [List.length_cons] at h;omega)
  exact ⟨k,a,dl,b,n,v,h1,rfl⟩
theorem open_opR {n:Nat} {cs:List Value} {x:DataW H × List MemPlace} (h:DataW.trod enc Tryz.prog w 0 (fun _=>true) held n 53 cs=some x) :
  ∃ (m:OpR) (kv:Value),cs=m.cells kv∧IntsIn w kv m.keep∧((∀ k∈x.1.weights Tryz.prog 53,k≤140737488351232)→m.Fits):=by
 obtain ⟨xs,n1,rfl,rfl,hl,hxl,hf⟩:=DataW.trod_struct Tryz.underlying53 h
 have hcM:Tryz.prog.cellsOf 53=37:=by kernel_rfl
 have hcS:Tryz.prog.cellsOf 9=1:=by kernel_rfl
 have hcI:Tryz.prog.cellsOf 3=1:=by kernel_rfl
 have hcF:Tryz.prog.cellsOf 51=1:=by kernel_rfl
 have hcD:Tryz.prog.cellsOf 33=32:=by kernel_rfl
 rw [hcM] at hl
 obtain ⟨q0,a0,dl,a2,a3,a4,hdl,rfl⟩:=on37 hl
 obtain ⟨z0,y0,y1,y2,y3,y4,rfl⟩:=on6 hxl
 have dq:((q0 :: a0 :: (dl ++ [a2,a3,a4])).drop 0).take 1=[q0]:=rfl
 have d0:((q0 :: a0 :: (dl ++ [a2,a3,a4])).drop 1).take 1=[a0]:=rfl
 have d1:((q0 :: a0 :: (dl ++ [a2,a3,a4])).drop 2).take 32=dl:=by rw [List.drop_succ_cons,List.drop_succ_cons,List.drop_zero,List.take_left' hdl]
 have k2:dl.drop 32=[]:=List.drop_eq_nil_of_le (by omega)
 have k3:dl.drop 33=[]:=List.drop_eq_nil_of_le (by omega)
 have k4:dl.drop 34=[]:=List.drop_eq_nil_of_le (by omega)
 have d2:((q0 :: a0 :: (dl ++ [a2,a3,a4])).drop 34).take 1=[a2]:=by simp [List.drop_append,hdl,k2,k3,k4]
 have d3:((q0 :: a0 :: (dl ++ [a2,a3,a4])).drop 35).take 1=[a3]:=by simp [List.drop_append,hdl,k2,k3,k4]
 have d4:((q0 :: a0 :: (dl ++ [a2,a3,a4])).drop 36).take 1=[a4]:=by simp [List.drop_append,hdl,k2,k3,k4]
 have hq:=hf 0 _ rfl
 have h0:=hf 1 _ rfl
 have h1:=hf 2 _ rfl
 have h2:=hf 3 _ rfl
 have h3:=hf 4 _ rfl
 have h4:=hf 5 _ rfl
 simp only [List.getElem_toArray,List.getElem_cons_zero,List.getElem_cons_succ,hcS,hcI,hcF,hcD,dq,d0,d1,d2,d3,d4,List.getElem?_cons_zero,List.getElem?_cons_succ] at hq h0 h1 h2 h3 h4
 obtain ⟨z,rfl,eq,bq⟩:=reads_intR hq
 obtain ⟨s0,rfl,e0⟩:=reads_strR h0
 obtain ⟨q1,q2⟩:=dig_cells h1
 obtain ⟨t2,rfl,e2⟩:=reads_strR h2
 obtain ⟨s3,rfl,e3,b3⟩:=reads_intR h3
 clear k2 k3 k4
 obtain ⟨ks,k1,k2⟩:=open_intsR h4
 refine ⟨⟨z,s0,dl.map cellB,t2,s3,ks⟩,a4,?_,k1,fun hB=>?_⟩
 ·unfold OpR.cells
  show Value.int .i64 z :: Value.string s0 :: (dl ++ _)=.int .i64 z :: .string s0 :: ((dl.map cellB).map byteV ++ _)
  rw [← q2]
 ·have hB':∀ k∈(DataW.agg [z0.1,y0.1,y1.1,y2.1,y3.1,y4.1]).weights Tryz.prog 53,k≤140737488351232:=hB
  rw [eq,e0,e2,e3] at hB'
  simp only [DataW.weights,DataW.weightsEach,Tryz.underlying53,List.map_cons,List.map_nil,List.append_nil,List.nil_append,List.cons_append,List.mem_cons,List.mem_append,or_imp,forall_and,forall_eq] at hB'
  obtain ⟨g1,-,g2,g3⟩:=hB'
  exact ⟨q1,bq,b3,g1,g2,k2 _ g3⟩
instance:Inhabited OpR:=⟨⟨0,⟨#[]⟩,[],⟨#[]⟩,0,[]⟩⟩
theorem open_opsR {n:Nat} {v:Value} {x:DataW H × List MemPlace} (h:DataW.trod enc Tryz.prog w 0 (fun _=>true) held n 48 [v]=some x) :
  ∃ l:List OpR,OpsR w v l∧((∀ k∈x.1.weights Tryz.prog 48,k≤140737488351232)→l.length≤1360000000000∧∀ m∈l,m.Fits):=by
 obtain ⟨len,cap,p,D,Pl,n',rfl,hl,hm,hi,hw⟩:=open_row 37 104 Tryz.underlying48 (by kernel_rfl) (by kernel_rfl) (by decide) h
 obtain ⟨F,hF⟩:=choose_lt (α:=OpR) (n:=len) (p:=fun i m=>(∃ b off kv,p=some ⟨b,off,none⟩∧b < w.heap.size∧(∀ j,j < 37→w.cell? ⟨b,off+(i * 37+j),none⟩=(m.cells kv)[j]?)∧IntsIn w kv m.keep)∧((∀ k∈(D i).weights Tryz.prog 53,k≤140737488351232)→m.Fits)) (fun i hil=>by
  obtain ⟨b,off,e,hb,cs,hcl,hc,ht⟩:=hi i hil
  obtain ⟨m,kv,rfl,hk,hs⟩:=open_opR ht
  exact ⟨m,⟨b,off,kv,e,hb,fun j hj=>hc j hj,hk⟩,hs⟩)
 refine ⟨(List.range len).map F,⟨p,cap,by rw [List.length_map,List.length_range],fun i m him=>?_⟩,fun hB=>⟨?_,fun m hm=>?_⟩⟩
 ·obtain ⟨hil,rfl⟩:=getMapR him
  exact (hF i hil).1
 ·have:=(hw _ hB).1
  rw [List.length_map,List.length_range]
  omega
 ·obtain ⟨i,hir,rfl⟩:=List.mem_map.1 hm
  have hil:=List.mem_range.1 hir
  exact (hF i hil).2 ((hw _ hB).2 i hil)
end
end Go.Proofs.YtdkedmngeahjiaaGreatDoor
