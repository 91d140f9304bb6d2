/- RefsKnown: the examples; each operation of a Set, a Delete and an Open struck with every fate; files laid by others; rooms about the limit; forms of references: all as the document says; the card, with the listed package-level variables tied to the program's text. It has no input and no condition. -/
import Derived.Test.YtdkedmngeahjiaaGreatDoorM49
import Derived.Test.YtdkedmngeahjiaaGreatDoorRfLaid
import Derived.Test.YtdkedmngeahjiaaGreatDoorCards
import Derived.Test.YtdkedmngeahjiaaGreatDoorTie
import Derived.LaidLaws
import Derived.LaidHandle
import Derived.OpenShut
import Derived.Deep.DeepHandedRow
import Derived.Deep.DeepLaidRun
set_option maxRecDepth 100000
set_option maxHeartbeats 25600000
namespace Go.Proofs.YtdkedmngeahjiaaGreatDoor
open Go Go.ChangeShapes Go.WideShapes Go.ChangeAt Go.RowKit
theorem Ns:Tryz.prog.globalNamed "strata/strataref03.rounds" =some 2:=by kernel_rfl
theorem Nt:Tryz.prog.globalNamed "strata/strataref03.begin" =some 1:=by kernel_rfl
theorem NH:(Tryz.prog.globals[2]?).map (·.type)=some 226:=aE
theorem NI:(Tryz.prog.globals[1]?).map (·.type)=some 184:=aE
theorem IK{W:World}{b i:Nat}{v:Value}(h:W.cell? ⟨b,i,none⟩=some v):b<W.heap.size:=by
 unfold World.cell? at h;split at h
 ·rename_i hh;exact lH hh
 ·cases h
theorem wZ{P:Program}{w:World}:∀{l:List (String×DataW Unit)} {ps:List MemPlace},DataW.LaidVars P w l ps→∀{n:String} {d:DataW Unit},(n,d)∈l→
  ∃g t cs fuel p,P.globalNamed n=some g∧(P.globals[g]?).map (·.type)=some t∧w.var? P n=some cs∧DataW.trod (fun _=>()) P w 0 (fun _=>true) false fuel t cs.toList=some (d,p)
 |[],_,_,_,_,hm=>by cases hm
 |(n',d')::r,_,h,n,d,hm=>by
  obtain⟨g,t,cs,fuel,p,q,h1,h2,h3,h4,h5,-⟩:=h;rcases List.mem_cons.1 hm with e|hm
  ·cases e;exact⟨g,t,cs,fuel,p,h1,h2,h3,h4⟩
  ·exact wZ h5 hm
theorem Gn{w:World}{t:TypeId}{n fuel:Nat}{cs:List Value}{ks:List Int}{p:List MemPlace}(ht:Tryz.prog.underlying t=some (.array n 183))
  (h:DataW.trod (fun _=>()) Tryz.prog w 0 (fun _=>true) false fuel t cs=some (.agg (ks.map fun k=>.lit (.int .u32 k)),p)):∀(i:Nat) (k:Int),ks[i]?=some k→cs[i]?=some (.int .u32 k):=by
 have hce:Tryz.prog.cellsOf 183=1:=aE;obtain⟨xs,m,-,hx,-,hn,hi⟩:=DataW.trod_array ht h
 have hxk:ks.map (fun k=>(DataW.lit (.int .u32 k):DataW Unit))=xs.map (·.1):=by
  have:=(Prod.mk.inj hx).1;exact DataW.agg.inj this
 intro i k hk
 have hl:xs.length=ks.length:=by
  have:=congrArg List.length hxk;rw[List.length_map,List.length_map]at this;exact this.symm
 have hik:=(List.getElem?_eq_some_iff.1 hk).1;have hix:i<xs.length:=aC
 have h1:=hi i aC;rw[hce,List.getElem?_eq_getElem hix,Nat.mul_one]at h1;have h2:(xs.map (·.1))[i]?=some (DataW.lit (.int .u32 k)):=by rw[←hxk,List.getElem?_map,hk];rfl
 rw[List.getElem?_map,List.getElem?_eq_getElem hix]at h2;obtain⟨n',e1,e2,-⟩:=DataW.trod_int Tryz.underlying183 h1;rw[e2]at h2
 have h3:n'=k:=by
  have:=Option.some.inj h2;simp only[DataW.lit.injEq,Lit.int.injEq]at this;exact this.2
 rw[h3]at e1;have h4:=congrArg (fun l:List Value=>l[0]?) e1
 simp only[List.getElem?_take,List.getElem?_drop]at h4;simpa using h4
theorem Ly{W:World}{l:List (String×DataW Unit)}{ps:List MemPlace}(h:DataW.LaidVars Tryz.prog W l ps)(hm:("strata/strataref03.rounds",Rows.laid_strata_strataref03_rounds)∈l):zZ W:=by
 obtain⟨g,t,cs,fuel,p,h1,h2,h3,h4⟩:=wZ h hm;obtain rfl:=Option.some.inj (h1.symm.trans Ns);obtain rfl:=Option.some.inj (h2.symm.trans NH);have h5:=Gn (ks:=rk) Tryz.underlying226 h4
 have h6:∀i k,rk[i]?=some k→W.cell? ⟨2,i,none⟩=some (.int .u32 k):=fun i k hk=>by
  rw[World.var?_cell Ns h3,←Array.getElem?_toList];exact h5 i k hk
 exact⟨h6,IK (h6 0 _ rfl)⟩
def r8L:List Int:=[0x6a09e667,0xbb67ae85,0x3c6ef372,0xa54ff53a,0x510e527f,0x9b05688c,0x1f83d9ab,0x5be0cd19]
theorem MC{W:World}{l:List (String×DataW Unit)}{ps:List MemPlace}(h:DataW.LaidVars Tryz.prog W l ps)(hm:("strata/strataref03.begin",Rows.laid_strata_strataref03_begin)∈l):GU W:=by
 obtain⟨g,t,cs,fuel,p,h1,h2,h3,h4⟩:=wZ h hm;obtain rfl:=Option.some.inj (h1.symm.trans Nt);obtain rfl:=Option.some.inj (h2.symm.trans NI);have h5:=Gn (ks:=r8L) Tryz.underlying184 h4
 have h6:∀i k,r8L[i]?=some k→W.cell? ⟨1,i,none⟩=some (.int .u32 k):=fun i k hk=>by
  rw[World.var?_cell Nt h3,←Array.getElem?_toList];exact h5 i k hk
 refine⟨fun j hj=>h6 j _ ?_,IK (h6 0 _ rfl)⟩;rcases (show j=0∨j=1∨j=2∨j=3∨j=4∨j=5∨j=6∨j=7 by omega)with rfl|rfl|rfl|rfl|rfl|rfl|rfl|rfl<;>rfl
def Lz:List (String×DataW Unit):=[("strata/strataref03.begin",Rows.laid_strata_strataref03_begin),("strata/strataref03.rounds",Rows.laid_strata_strataref03_rounds),("unicode/utf8.acceptRanges",Rows.laid_unicode_utf8_acceptRanges),("unicode/utf8.first",Rows.laid_unicode_utf8_first)]
theorem NJ{W:World}(h:laidMetH Tryz.prog Rows.refsKnownRow.laid W):CstW W:=by
 have h2:handlesMet Tryz.prog [("errors.errorType",Rows.laid_errors_errorType)] W:=h.2
 have h1:laidMet Tryz.prog Lz W:=h.1;obtain⟨ps,h1,-⟩:=h1;exact⟨Mz h2,Ly h1 (by simp[Lz]),MC h1 (by simp[Lz])⟩
noncomputable def zS (os:Os):World:=
 {World.holding Tryz.prog os ⟨#[],#[],[]⟩with heap:=(((((World.holding Tryz.prog os ⟨#[],#[],[]⟩).heap.modify 0 (Lv [.iface 198 (.agg #[.pointer (some ⟨6,25,none⟩)])])).modify 4 (Lv (MJ Rows.laid_unicode_utf8_first))).modify 5 (Lv (MJ Rows.laid_unicode_utf8_acceptRanges))).modify 2 (Lv (rk.map fun k=>.int .u32 k))).modify 1 (Lv (r8L.map fun k=>.int .u32 k))}
def witArgs:Array Value:=#[]
theorem LA(os:Os):laidMetH Tryz.prog Rows.refsKnownRow.laid ((zS os).forCall (fun _ _=>0) ⟨#[],witArgs,[]⟩).memory:=
 laidMetH_of_parts (laidMet_of_run3 8 aE aE aE) aE
theorem reads(os:Os){H:Type}(enc:TypeId×Value→H):∃places,DataW.whole enc Tryz.prog ((zS os).forCall (fun _ _=>0) ⟨#[],witArgs,[]⟩).memory Tryz.f7.params.toList Rows.refsKnownSpec.vars false witArgs.toList 8=some ([],[],places):=
 ⟨[],aE⟩
theorem LC(H:Type)(enc:TypeId×Value→H)(W:World)(base:Nat)(args:Array Value)(ds gs:List (DataW H))(before:List MemPlace)
  (hval:∀(j:Nat) t v,Tryz.f7.params[j]?=some t→args[j]?=some v→Value.okWide Tryz.prog W .any base t v)
  (hW:DataW.Whole enc Tryz.prog Tryz.f7.params.toList Rows.refsKnownSpec.vars false W args.toList ds gs before)
  (hwt:(DataW.weightsEach Tryz.prog (Tryz.f7.params.toList++(OpenSpec.ofChange Rows.refsKnownSpec).bare.plain.varTypes Tryz.prog) (ds++gs)).all (·≤reachBytes)=true)
  (hL:laidMetH Tryz.prog Rows.refsKnownRow.laid W):
  Calls Tryz.prog 7 args W fun e W'=>∃v,e=.returned v∧Rows.refsKnownSpec.post enc Tryz.prog Tryz.f7 false true false false W args v W':=by
 have hW':=hW;obtain⟨p,q,hA0,hV,rfl,hfz,hnd⟩:=hW;have hA:DataW.TrodAll enc Tryz.prog W 0 (fun _=>true) true Tryz.f7.params.toList args.toList ds p:=hA0
 rw[Tryz.params7]at hA;obtain⟨rfl,rfl,rfl⟩:=trodAll_none hA;obtain⟨rfl,rfl⟩:=trodVars_none hV;refine(CK W (NJ hL)).mono fun e W' ⟨he,hb⟩=>?_
 subst he;refine⟨_,rfl,_,_,_,[],[],[],hW',?_,?_,rfl,hb.frame _,fun h=>aK⟩
 ·exact trodAll_mk1 (shut_bool Tryz.underlying4 true)
 ·exact trodAll_mk0
theorem Na(os:Os)(started:os.Started)(H:Type)(enc:TypeId×Value→H)(F:Stop.Interp):
  ReturnsInHanded {} Tryz.checked os 7 .any ((OpenSpec.ofChange Rows.refsKnownSpec).preRow enc Tryz.prog Tryz.f7 Rows.refsKnownRow.domain false Rows.refsKnownRow.laid) (((OpenSpec.ofChange Rows.refsKnownSpec).at F).post enc Tryz.prog Tryz.f7 false true false false):=by
 obtain⟨places,hx⟩:=reads os enc
 refine returnsInHanded_of_row (C:=Tryz.checked) (s:=OpenSpec.ofChange Rows.refsKnownSpec) own started aE Tryz.func7
  (witness_row_at (enc:=enc) (C:=Tryz.checked) false (zS os) witArgs rfl aE aE aE
   (OpenSpec.preRow_of_cond 8 hx aE (fun k hk=>iN) aE (LA os))) ?_
 intro W base args ds gs before hval hW _ _ hwt hL _ _;exact LC H enc W base args ds gs before hval hW hwt hL
theorem NK:Rows.RefsKnownSaid:=
 OpenClaim.holds_of_cond 7 Tryz.f7 rfl rfl rfl rfl rfl rfl rfl ⟨rfl,rfl,rfl,rfl,rfl⟩ rfl rfl rfl rfl rfl aE Tryz.func7 aE
  (of_decide_eq_true aE) (by unfold Func.isWrapper;first|(rw[if_pos dX];kernel_rfl)|(rw[if_neg dX];exact⟨rfl,rfl⟩))
  (fun os started H enc _ F=>by rw[OpenClaim.pre_eq_preRow];exact Na os started H enc F)
theorem plain(f:FuncId)(fn:Func)(hf:Tryz.pinned.checked.prog.funcNamed "strata/stratalaw24.RefsKnown" =some f)(hfn:Tryz.pinned.checked.prog.funcs[f]? =some fn):
  true=Tryz.pinned.checked.prog.looks []∧∀(j:Nat) t,fn.params[j]?=some t→Tryz.pinned.checked.prog.wantsStandIn t=false:=by
 obtain rfl:f=7:=Option.some.inj ((show Tryz.prog.funcNamed "strata/stratalaw24.RefsKnown" =some 7 by kernel_rfl).symm.trans hf)|>.symm
 obtain rfl:fn=Tryz.f7:=(Option.some.inj (Tryz.func7.symm.trans hfn)).symm;refine⟨aE,fun j t ht=>?_⟩;rw[Tryz.params7]at ht;cases ht
theorem refsKnown_holds:Rows.RefsKnownCardSaid:=
 Claim7.holds_tied_plain_at .later [] _ _ _ _ NK (fun _ h=>aK) aE (fun _ h=>aK) refsKnown_row_tie rfl ⟨rfl,rfl⟩ aE rfl plain aE
#print axioms refsKnown_holds
end Go.Proofs.YtdkedmngeahjiaaGreatDoor
