/- What the arguments and the listed variables of BlobsSafe are: acts, numbers, constants. -/
import Derived.Test.YtecgikanophonaaGreatDoorProg
import Derived.Test.YtecgikanophonaaGreatDoorM1
import Derived.Deep.Slices
import Derived.Deep.Fields
import Derived.ChangeSame
import Derived.Carry
import Derived.ProofKit
import Derived.OpenShut
import Derived.Test.YtecgikanophonaaGreatDoorTexts
import Derived.Test.YtecgikanophonaaGreatDoorPlayX
import Derived.Test.YtecgikanophonaaGreatDoorM40
import Derived.Test.YtecgikanophonaaGreatDoorRows
import Derived.LaidLaws
import Derived.LaidHandle
import Derived.Deep.DeepHandedRow
import Derived.Deep.DeepLaidRun
set_option maxRecDepth 100000
set_option maxHeartbeats 25600000
namespace Go.Proofs.YtecgikanophonaaGreatDoor
open Go.ChangeShapes Go.WideShapes Go.RowKit Go.Deep
section
variable {H:Type} {enc:TypeId × Value→H} {w:World} {held:Bool}
theorem weightsAllIn {P:Program} {e:TypeId}:∀ {l:List (DataW H)} {d:DataW H},d∈l→∀ k∈d.weights P e,k∈DataW.weightsAll P e l
 |x :: r,d,hd,k,hk=>by
  rw [DataW.weightsAll,List.mem_append]
  rcases List.mem_cons.1 hd with rfl | h
  ·exact .inl hk
  ·exact .inr (weightsAllIn h k hk)
theorem open_row {P:Program} {t e:TypeId} (C B:Nat) (ht:P.underlying t=some (.slice e)) (hc:P.cellsOf e=C) (hb:P.bytesOf e=B) (hC:0 < C) {n:Nat} {v:Value} {x:DataW H × List MemPlace} (h:DataW.trod enc P w 0 (fun _=>true) held n t [v]=some x) :
  ∃ (len cap:Nat) (p:Option Addr) (D:Nat→DataW H) (Pl:Nat→List MemPlace) (n':Nat),v=.slice p len cap∧len≤cap∧cap≤maxLen ∧
   (∀ i,i < len→∃ b off,p=some ⟨b,off,none⟩∧b < w.heap.size∧∃ cs:List Value,cs.length=C∧(∀ j,j < C→w.cell? ⟨b,off+(i * C+j),none⟩=cs[j]?)∧DataW.trod enc P w 0 (fun _=>true) held n' e cs=some (D i,Pl i)) ∧
   (∀ Bd,(∀ k∈x.1.weights P t,k≤Bd)→len * B≤Bd∧∀ i,i < len→∀ k∈(D i).weights P e,k≤Bd):=by
 rcases open_slice ht h with ⟨h0,-⟩ | ⟨a',len,cap,m,n',D,Pl,hcs,-,hl,hm,hmm,hx,hi⟩
 ·have e:v=.slice none 0 0:=by simpa using h0
  subst e
  exact ⟨0,0,none,fun _=>.nil,fun _=>[],0,rfl,Nat.le_refl _,Nat.zero_le _,(fun i hi=>absurd hi (Nat.not_lt_zero _)),fun Bd _=>⟨by omega,fun i hi=>absurd hi (Nat.not_lt_zero _)⟩⟩
 ·have e:v=.slice (some a') len cap:=by simpa using hcs
  subst e
  rw [if_pos rfl] at hmm
  subst hmm
  rw [hc] at hi
  refine ⟨len,m,some a',D,Pl,n',rfl,hl,hm,fun i hil=>?_,fun Bd hB=>?_⟩
  ·obtain ⟨b,off,spot⟩:=a'
   have hs:spot=none∧b < w.heap.size:=by
    obtain ⟨cs0,k1,-⟩:=hi 0 (by omega)
    obtain ⟨-,klen,k3⟩:=World.cells?_some k1
    have g0:=k3 0 hC
    rw [Nat.zero_mul,Go.Deep.add_add,List.getElem?_eq_getElem (by omega)] at g0
    have g1:w.cell? ⟨b,off,spot⟩=some cs0[0]:=g0
    refine ⟨by simpa using World.cell?_spot g1,?_⟩
    unfold World.cell? at g1
    split at g1
    ·rename_i hh
     exact blk_lt hh
    ·cases g1
   obtain ⟨rfl,hbs⟩:=hs
   obtain ⟨cs',h1,h2⟩:=hi i (by omega)
   obtain ⟨-,hlen,h3⟩:=World.cells?_some h1
   refine ⟨b,off,rfl,hbs,cs',hlen,fun j hj=>?_,h2⟩
   have:=h3 j hj
   rw [Go.Deep.add_add] at this
   rw [← this]
   unfold Addr.add
   split
   ·rename_i e0;rw [e0];rfl
   ·rfl
  ·rw [hx] at hB
   have hwt:(DataW.slice ((List.range len).map D) ((List.range (m - len)).map fun j=>D (len+j)):DataW H).weights P t=(((List.range len).map D).length+((List.range (m - len)).map fun j=>D (len+j)).length) * B :: (DataW.weightsAll P e ((List.range len).map D) ++ DataW.weightsAll P e ((List.range (m - len)).map fun j=>D (len+j))):=by
    rw [DataW.weights,ht]
    simp only [hb]
   rw [hwt] at hB
   have h1:=hB _ (List.mem_cons_self ..)
   rw [List.length_map,List.length_map,List.length_range,List.length_range] at h1
   refine ⟨Nat.le_trans (Nat.mul_le_mul_right B (by omega)) h1,fun i hil k hk=>hB k (List.mem_cons_of_mem _ (List.mem_append.2 (.inl (weightsAllIn (List.mem_map.2 ⟨i,List.mem_range.2 hil,rfl⟩) k hk))))⟩
end
end Go.Proofs.YtecgikanophonaaGreatDoor
namespace Go.Proofs.YtecgikanophonaaGreatDoor
open Go.ChangeShapes Go.WideShapes Go.RowKit Go.Deep
section
variable {H:Type} {enc:TypeId × Value→H} {w:World} {held:Bool}
theorem tx_ln1 {α:Type} {l:List α} (h:l.length=1):∃ a0,l=[a0]:=by
 match l,h with
 |[a0],_=>exact ⟨_,rfl⟩
theorem open_num {v:Value} {d:DataW H} {ps:List MemPlace} {r:Reach} {b0:Nat} (hv:Value.okWide Tryz.prog w r b0 3 v) (h:DataW.Trod enc Tryz.prog w 0 (fun _=>true) held 3 v d ps) :
  ∃ x:Int,v=.int .i64 x∧-9223372036854775808≤x∧x≤9223372036854775807:=by
 obtain ⟨fuel,hf⟩:=h
 obtain ⟨x,rfl⟩:=okWide_int Tryz.underlying3 hv
 obtain ⟨s,h1,h2,h3⟩:=DataW.trod_int Tryz.underlying3 hf
 have h1:[Value.int .i64 x]=[.int .i64 s]:=h1
 obtain rfl:x=s:=by simpa using h1
 simp only [Lit.wf,Bool.and_eq_true,decide_eq_true_eq] at h3
 exact ⟨x,rfl,h3⟩
end
end Go.Proofs.YtecgikanophonaaGreatDoor
namespace Go.Proofs.YtecgikanophonaaGreatDoor
open Go.ChangeShapes Go.WideShapes Go.RowKit Go.Deep
section
variable {H:Type} {enc:TypeId × Value→H} {w:World} {held:Bool}
theorem ln1 {α:Type} {l:List α} (h:l.length=1):∃ a0,l=[a0]:=by
 match l,h with
 |[a0],_=>exact ⟨_,rfl⟩
theorem ln4 {α:Type} {l:List α} (h:l.length=4):∃ a0 a1 a2 a3,l=[a0,a1,a2,a3]:=by
 match l,h with
 |[a0,a1,a2,a3],_=>exact ⟨_,_,_,_,rfl⟩
def strL (s:ByteArray):DataW H:=.lit (.string s.data.toList)
theorem reads_str {n:Nat} {v:Value} {y:DataW H × List MemPlace} (h:DataW.trod enc Tryz.prog w 0 (fun _=>true) held n 9 [v]=some y):∃ s:ByteArray,v=.string s∧y.1=strL s:=by
 obtain ⟨s,h1,h2,_⟩:=DataW.trod_string Tryz.underlying9 h
 exact ⟨s,(List.cons.inj h1).1,by rw [h2];rfl⟩
theorem reads_int {n:Nat} {v:Value} {y:DataW H × List MemPlace} (h:DataW.trod enc Tryz.prog w 0 (fun _=>true) held n 3 [v]=some y):∃ x:Int,v=.int .i64 x∧y.1=.lit (.int .i64 x)∧bigI x:=by
 obtain ⟨s,h1,h2,h3⟩:=DataW.trod_int Tryz.underlying3 h
 simp only [Lit.wf,Bool.and_eq_true,decide_eq_true_eq] at h3
 exact ⟨s,(List.cons.inj h1).1,by rw [h2],h3⟩
theorem open_ints {n:Nat} {v:Value} {x:DataW H × List MemPlace} (h:DataW.trod enc Tryz.prog w 0 (fun _=>true) held n 50 [v]=some x) :
  ∃ ks:List Int,IntsRd (fun b=>w.heap.size≤b) w v ks∧∀ B,(∀ k∈x.1.weights Tryz.prog 50,k≤B)→ks.length * 8≤B:=by
 obtain ⟨len,cap,p,D,Pl,n',rfl,hl,hm,hi,hw⟩:=open_row 1 8 Tryz.underlying50 (by kernel_rfl) (by kernel_rfl) (by decide) h
 obtain ⟨F,hF⟩:=choose_lt (α:=Int) (n:=len) (p:=fun i k=>bigI k∧∃ b off,p=some ⟨b,off,none⟩∧b < w.heap.size∧w.cell? ⟨b,off+i,none⟩=some (.int .i64 k)) (fun i hil=>by
  obtain ⟨b,off,e,hb,cs,hcl,hc,ht⟩:=hi i hil
  obtain ⟨a0,rfl⟩:=ln1 hcl
  obtain ⟨k,rfl,-,hk⟩:=reads_int ht
  refine ⟨k,hk,b,off,e,hb,?_⟩
  have:=hc 0 (by decide)
  rwa [Nat.mul_one,Nat.add_zero] at this)
 refine ⟨(List.range len).map F,⟨p,cap,by rw [List.length_map,List.length_range],by rw [List.length_map,List.length_range];exact ⟨hl,hm⟩,fun j k hj=>?_⟩,fun B hB=>by rw [List.length_map,List.length_range];exact (hw B hB).1⟩
 rw [List.getElem?_map] at hj
 by_cases hjl:j < len
 ·rw [List.getElem?_range hjl] at hj
  obtain rfl:F j=k:=by simpa using hj
  obtain ⟨h1,b,off,e,hb,hc⟩:=hF j hjl
  exact ⟨h1,b,off,e,hc,hb,.inl (by omega)⟩
 ·rw [List.getElem?_eq_none (by simpa using hjl)] at hj
  cases hj
theorem ints_in {S:Nat→Prop} {w:World} {kv:Value} {ks:List Int} (h:IntsRd S w kv ks):IntsIn w kv ks:=by
 obtain ⟨p,cap,h1,h2,h3⟩:=h
 exact ⟨p,cap,h1,h2,fun j k hj=>by
  obtain ⟨h4,b,off,h5,h6,h7,-⟩:=h3 j k hj
  exact ⟨h4,b,off,h5,h6,h7,.inl (fun x=>x)⟩⟩
theorem open_act {n:Nat} {cs:List Value} {x:DataW H × List MemPlace} (h:DataW.trod enc Tryz.prog w 0 (fun _=>true) held n 52 cs=some x) :
  ∃ (m:ActM) (kv:Value),cs=(m.cells kv).toList∧IntsIn w kv m.keep∧((∀ k∈x.1.weights Tryz.prog 52,k≤140737488351232)→m.Fits):=by
 obtain ⟨xs,n1,rfl,rfl,hl,hxl,hf⟩:=DataW.trod_struct Tryz.underlying52 h
 have hcM:Tryz.prog.cellsOf 52=4:=by kernel_rfl
 have hcS:Tryz.prog.cellsOf 9=1:=by kernel_rfl
 have hcI:Tryz.prog.cellsOf 3=1:=by kernel_rfl
 have hcF:Tryz.prog.cellsOf 50=1:=by kernel_rfl
 rw [hcM] at hl
 obtain ⟨a0,a1,a2,a3,rfl⟩:=ln4 hl
 obtain ⟨y0,y1,y2,y3,rfl⟩:=ln4 hxl
 have h0:=hf 0 _ rfl
 have h1:=hf 1 _ rfl
 have h2:=hf 2 _ rfl
 have h3:=hf 3 _ rfl
 simp only [List.getElem_toArray,List.getElem_cons_zero,List.getElem_cons_succ,hcS,hcI,hcF,List.drop_zero,List.drop_succ_cons,List.take_succ_cons,List.take_zero,List.getElem?_cons_zero,List.getElem?_cons_succ] at h0 h1 h2 h3
 obtain ⟨s0,rfl,e0,b0⟩:=reads_int h0
 obtain ⟨s1,rfl,e1⟩:=reads_str h1
 obtain ⟨s2,rfl,e2,b2⟩:=reads_int h2
 obtain ⟨ks,k1,k2⟩:=open_ints h3
 refine ⟨⟨s0,s1,s2,ks⟩,a3,rfl,ints_in k1,fun hB=>?_⟩
 have hB':∀ k∈(DataW.agg [y0.1,y1.1,y2.1,y3.1]).weights Tryz.prog 52,k≤140737488351232:=hB
 rw [e0,e1,e2] at hB'
 simp only [strL,DataW.weights,DataW.weightsEach,Tryz.underlying52,List.map_cons,List.map_nil,List.append_nil,List.nil_append,List.cons_append,List.mem_cons,forall_eq_or_imp] at hB'
 obtain ⟨g1,g3⟩:=hB'
 exact ⟨b0,b2,g1,k2 _ g3⟩
instance:Inhabited ActM:=⟨⟨0,⟨#[]⟩,0,[]⟩⟩
theorem getMap {α:Type} {F:Nat→α} {len i:Nat} {m:α} (h:((List.range len).map F)[i]?=some m):i < len∧F i=m:=by
 rw [List.getElem?_map] at h
 by_cases hi:i < len
 ·rw [List.getElem?_range hi] at h
  exact ⟨hi,by simpa using h⟩
 ·rw [List.getElem?_eq_none (by simpa using hi)] at h
  cases h
theorem open_acts {n:Nat} {v:Value} {x:DataW H × List MemPlace} (h:DataW.trod enc Tryz.prog w 0 (fun _=>true) held n 45 [v]=some x) :
  ∃ l:List ActM,ActsAt w v l∧((∀ k∈x.1.weights Tryz.prog 45,k≤140737488351232)→l.length≤8800000000000∧∀ m∈l,m.Fits):=by
 obtain ⟨len,cap,p,D,Pl,n',rfl,hl,hm,hi,hw⟩:=open_row 4 56 Tryz.underlying45 (by kernel_rfl) (by kernel_rfl) (by decide) h
 obtain ⟨F,hF⟩:=choose_lt (α:=ActM) (n:=len) (p:=fun i m=>(∃ b off kv,p=some ⟨b,off,none⟩∧b < w.heap.size∧(∀ j,j < 4→w.cell? ⟨b,off+(i * 4+j),none⟩=(m.cells kv)[j]?)∧IntsIn w kv m.keep)∧((∀ k∈(D i).weights Tryz.prog 52,k≤140737488351232)→m.Fits)) (fun i hil=>by
  obtain ⟨b,off,e,hb,cs,hcl,hc,ht⟩:=hi i hil
  obtain ⟨m,kv,rfl,hk,hs⟩:=open_act ht
  exact ⟨m,⟨b,off,kv,e,hb,fun j hj=>by rw [hc j hj,Array.getElem?_toList],hk⟩,hs⟩)
 refine ⟨(List.range len).map F,⟨p,cap,by rw [List.length_map,List.length_range],fun i m him=>?_⟩,fun hB=>⟨?_,fun m hm=>?_⟩⟩
 ·obtain ⟨hil,rfl⟩:=getMap him
  exact (hF i hil).1
 ·have:=(hw _ hB).1
  rw [List.length_map,List.length_range]
  omega
 ·obtain ⟨i,hir,rfl⟩:=List.mem_map.1 hm
  have hil:=List.mem_range.1 hir
  exact (hF i hil).2 ((hw _ hB).2 i hil)
end
end Go.Proofs.YtecgikanophonaaGreatDoor
namespace Go.Proofs.YtecgikanophonaaGreatDoor
open Go Go.ChangeShapes Go.WideShapes Go.ChangeAt Go.RowKit
theorem gErr : Tryz.prog.globalNamed "errors.errorType" = some 1 := by kernel_rfl
theorem gDig : Tryz.prog.globalNamed "strata/digest.rounds" = some 3 := by kernel_rfl
theorem gRef : Tryz.prog.globalNamed "strata/strataref03.rounds" = some 2 := by kernel_rfl
theorem gBeg : Tryz.prog.globalNamed "strata/strataref03.begin" = some 0 := by kernel_rfl
theorem tDig:(Tryz.prog.globals[3]?).map (·.type)=some 169:=by kernel_rfl
theorem tRef:(Tryz.prog.globals[2]?).map (·.type)=some 169:=by kernel_rfl
theorem tBeg:(Tryz.prog.globals[0]?).map (·.type)=some 97:=by kernel_rfl
theorem rType : (Tryz.prog.cutTypes.find? (·.1 == "internal/reflectlite.rtype")).map (·.2) = some 193 := by kernel_rfl
theorem typesSize:∃ n,Tryz.prog.types.size=n∧((List.range n).filter fun t=>Tryz.prog.rowNamed t [101,114,114,111,114])=[26]:=⟨_,rfl,by kernel_rfl⟩
theorem hType:typeHandle Tryz.prog 26=.pointer (some ⟨5,26,none⟩):=by kernel_rfl
theorem cell_lt {W:World} {b i:Nat} {v:Value} (h:W.cell? ⟨b,i,none⟩=some v):b < W.heap.size:=by
 unfold World.cell? at h
 split at h
 ·rename_i hh
  exact blk_lt hh
 ·cases h
theorem errT_of {W : World} (h : handlesMet Tryz.prog [("errors.errorType", Rows.laid_errors_errorType)] W) : ErrT W := by
 obtain ⟨name,u,ty,e1,e2,e3,e4,e5⟩:=h _ (List.mem_singleton.2 rfl)
 have en:name=[101,114,114,111,114]:=(Option.some.inj e1).symm
 subst en
 obtain rfl:=Option.some.inj (rType.symm.trans e2)
 obtain ⟨n,hn,hr⟩:=typesSize
 have hm:ty∈(List.range n).filter fun t=>Tryz.prog.rowNamed t [101,114,114,111,114]:=List.mem_filter.2 ⟨List.mem_range.2 (by rw [← hn];exact e3),e4⟩
 rw [hr] at hm
 obtain rfl:=List.mem_singleton.1 hm
 rw [hType] at e5
 have hc:W.cell? ⟨1,0,none⟩=some (.iface 193 (.agg #[.pointer (some ⟨5,26,none⟩)])):=by simpa using World.var?_cell gErr e5 0
 exact ⟨hc,cell_lt hc⟩
theorem laidVars_mem {P:Program} {w:World}:∀ {l:List (String × DataW Unit)} {ps:List MemPlace},DataW.LaidVars P w l ps→∀ {n:String} {d:DataW Unit},(n,d)∈l →
  ∃ g t cs fuel p,P.globalNamed n=some g∧(P.globals[g]?).map (·.type)=some t∧w.var? P n=some cs∧DataW.trod (fun _=>()) P w 0 (fun _=>true) false fuel t cs.toList=some (d,p)
 |[],_,_,_,_,hm=>by cases hm
 |(n',d') :: r,_,h,n,d,hm=>by
  obtain ⟨g,t,cs,fuel,p,q,h1,h2,h3,h4,h5,-⟩:=h
  rcases List.mem_cons.1 hm with e | hm
  ·cases e
   exact ⟨g,t,cs,fuel,p,h1,h2,h3,h4⟩
  ·exact laidVars_mem h5 hm
theorem arr_laid {w:World} {t:TypeId} {n fuel:Nat} {cs:List Value} {ks:List Int} {p:List MemPlace} (ht:Tryz.prog.underlying t=some (.array n 96))
  (h:DataW.trod (fun _=>()) Tryz.prog w 0 (fun _=>true) false fuel t cs=some (.agg (ks.map fun k=>.lit (.int .u32 k)),p)):∀ (i:Nat) (k:Int),ks[i]?=some k→cs[i]?=some (.int .u32 k):=by
 have hce:Tryz.prog.cellsOf 96=1:=by kernel_rfl
 obtain ⟨xs,m,-,hx,-,hn,hi⟩:=DataW.trod_array ht h
 have hxk:ks.map (fun k=>(DataW.lit (.int .u32 k):DataW Unit))=xs.map (·.1):=by
  have:=(Prod.mk.inj hx).1
  exact DataW.agg.inj this
 intro i k hk
 have hl:xs.length=ks.length:=by
  have:=congrArg List.length hxk
  rw [List.length_map,List.length_map] at this
  exact this.symm
 have hik:=(List.getElem?_eq_some_iff.1 hk).1
 have hix:i < xs.length:=by omega
 have h1:=hi i (by omega)
 rw [hce,List.getElem?_eq_getElem hix,Nat.mul_one] at h1
 have h2:(xs.map (·.1))[i]?=some (DataW.lit (.int .u32 k)):=by rw [← hxk,List.getElem?_map,hk];rfl
 rw [List.getElem?_map,List.getElem?_eq_getElem hix] at h2
 obtain ⟨n',e1,e2,-⟩:=DataW.trod_int Tryz.underlying96 h1
 rw [e2] at h2
 have h3:n'=k:=by
  have:=Option.some.inj h2
  simp only [DataW.lit.injEq,Lit.int.injEq] at this
  exact this.2
 rw [h3] at e1
 have h4:=congrArg (fun l:List Value=>l[0]?) e1
 simp only [List.getElem?_take,List.getElem?_drop] at h4
 simpa using h4
theorem rounds_t {W : World} {l : List (String × DataW Unit)} {ps : List MemPlace} (h : DataW.LaidVars Tryz.prog W l ps) (hm : ("strata/digest.rounds", Rows.laid_strata_digest_rounds) ∈ l) : RoundsT W := by
 obtain ⟨g,t,cs,fuel,p,h1,h2,h3,h4⟩:=laidVars_mem h hm
 obtain rfl:=Option.some.inj (h1.symm.trans gDig)
 obtain rfl:=Option.some.inj (h2.symm.trans tDig)
 have h5:=arr_laid (ks:=rk) Tryz.underlying169 h4
 have h6:∀ i k,rk[i]?=some k→W.cell? ⟨3,i,none⟩=some (.int .u32 k):=fun i k hk=>by
  rw [World.var?_cell gDig h3,← Array.getElem?_toList]
  exact h5 i k hk
 exact ⟨h6,cell_lt (h6 0 _ rfl)⟩
theorem rounds_r {W : World} {l : List (String × DataW Unit)} {ps : List MemPlace} (h : DataW.LaidVars Tryz.prog W l ps) (hm : ("strata/strataref03.rounds", Rows.laid_strata_strataref03_rounds) ∈ l) : RoundsR W := by
 obtain ⟨g,t,cs,fuel,p,h1,h2,h3,h4⟩:=laidVars_mem h hm
 obtain rfl:=Option.some.inj (h1.symm.trans gRef)
 obtain rfl:=Option.some.inj (h2.symm.trans tRef)
 have h5:=arr_laid (ks:=rk) Tryz.underlying169 h4
 have h6:∀ i k,rk[i]?=some k→W.cell? ⟨2,i,none⟩=some (.int .u32 k):=fun i k hk=>by
  rw [World.var?_cell gRef h3,← Array.getElem?_toList]
  exact h5 i k hk
 exact ⟨h6,cell_lt (h6 0 _ rfl)⟩
def r8L:List Int:=[0x6a09e667,0xbb67ae85,0x3c6ef372,0xa54ff53a,0x510e527f,0x9b05688c,0x1f83d9ab,0x5be0cd19]
theorem begin_r {W : World} {l : List (String × DataW Unit)} {ps : List MemPlace} (h : DataW.LaidVars Tryz.prog W l ps) (hm : ("strata/strataref03.begin", Rows.laid_strata_strataref03_begin) ∈ l) : BeginR W := by
 obtain ⟨g,t,cs,fuel,p,h1,h2,h3,h4⟩:=laidVars_mem h hm
 obtain rfl:=Option.some.inj (h1.symm.trans gBeg)
 obtain rfl:=Option.some.inj (h2.symm.trans tBeg)
 have h5:=arr_laid (ks:=r8L) Tryz.underlying97 h4
 have h6:∀ i k,r8L[i]?=some k→W.cell? ⟨0,i,none⟩=some (.int .u32 k):=fun i k hk=>by
  rw [World.var?_cell gBeg h3,← Array.getElem?_toList]
  exact h5 i k hk
 refine ⟨fun j hj=>h6 j _ ?_,cell_lt (h6 0 _ rfl)⟩
 rcases (show j=0∨j=1∨j=2∨j=3∨j=4∨j=5∨j=6∨j=7 by omega) with rfl | rfl | rfl | rfl | rfl | rfl | rfl | rfl <;> rfl
end Go.Proofs.YtecgikanophonaaGreatDoor
