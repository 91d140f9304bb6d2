/- BlobsPlays: over a disk of whatever room, with whatever width, whatever is called, whatever others do to the files, and wherever the power fails: each answer, and the files behind each, are as the document says; the card, with the listed package-level variables tied to the program text. No condition. -/
import Derived.Test.YtecgikanophonaaGreatDoorPlayX
import Derived.Test.YtecgikanophonaaGreatDoorBPlayOpen
import Derived.Test.YtecgikanophonaaGreatDoorCards
import Derived.Test.YtecgikanophonaaGreatDoorTie
import Derived.LaidLaws
import Derived.LaidHandle
import Derived.Deep.DeepHandedRow
import Derived.Deep.DeepLaidRun
set_option maxRecDepth 100000
set_option maxHeartbeats 25600000
namespace Go.Proofs.YtecgikanophonaaGreatDoor
open Go.ChangeShapes Go.WideShapes Go.ChangeAt Go.RowKit
theorem own:ownKnob Tryz.prog.godebug=none:=by kernel_rfl
theorem laidOut:laidOutB Tryz.prog=true:=by kernel_rfl
def dataL : List (String × DataW Unit) := [("strata/strataref03.begin", Rows.laid_strata_strataref03_begin), ("strata/strataref03.rounds", Rows.laid_strata_strataref03_rounds), ("strata/digest.rounds", Rows.laid_strata_digest_rounds)]
theorem halves {W:World} (h:laidMetH Tryz.prog Rows.blobsPlaysRow.laid W):ErrT W∧RoundsT W∧RoundsR W∧BeginR W:=by
 have h2 : handlesMet Tryz.prog [("errors.errorType", Rows.laid_errors_errorType)] W := h.2
 have h1:laidMet Tryz.prog dataL W:=h.1
 obtain ⟨ps,h1,-⟩:=h1
 exact ⟨errT_of h2,rounds_t h1 (by simp [dataL]),rounds_r h1 (by simp [dataL]),begin_r h1 (by simp [dataL])⟩
def putV (l:List Value):Obj→Obj
 |.cells _ t frozen=>.cells l.toArray t frozen
 |o=>o
noncomputable def laidWorld (os:Os):World :=
 { World.holding Tryz.prog os ⟨#[],#[],[]⟩ with heap:=((((World.holding Tryz.prog os ⟨#[],#[],[]⟩).heap.modify 1 (putV [.iface 193 (.agg #[.pointer (some ⟨5,26,none⟩)])])).modify 3 (putV (rk.map fun k=>.int .u32 k))).modify 2 (putV (rk.map fun k=>.int .u32 k))).modify 0 (putV (r8L.map fun k=>.int .u32 k)) }
def witArgs:Array Value:=#[.int .i64 0,.int .i64 0,.slice none 0 0]
theorem laid_met (os:Os):laidMetH Tryz.prog Rows.blobsPlaysRow.laid ((laidWorld os).forCall (fun _ _=>0) ⟨#[],witArgs,[]⟩).memory :=
 laidMetH_of_parts (laidMet_of_run3 8 (by kernel_rfl) (by kernel_rfl) (by kernel_rfl)) (by kernel_rfl)
theorem reads (os:Os) {H:Type} (enc:TypeId × Value→H):∃ places,DataW.whole enc Tryz.prog ((laidWorld os).forCall (fun _ _=>0) ⟨#[],witArgs,[]⟩).memory Tryz.f6.params.toList Rows.blobsPlaysSpec.vars false witArgs.toList 8=some ([.lit (.int .i64 0),.lit (.int .i64 0),.nil],[],places) :=
 ⟨[],by kernel_rfl⟩
theorem contract (H:Type) (enc:TypeId × Value→H) (W:World) (base:Nat) (args:Array Value) (ds gs:List (DataW H)) (before:List MemPlace)
  (hval:∀ (j:Nat) t v,Tryz.f6.params[j]?=some t→args[j]?=some v→Value.okWide Tryz.prog W .any base t v)
  (hW:DataW.Whole enc Tryz.prog Tryz.f6.params.toList Rows.blobsPlaysSpec.vars false W args.toList ds gs before)
  (hwt:(DataW.weightsEach Tryz.prog (Tryz.f6.params.toList ++ (OpenSpec.ofChange Rows.blobsPlaysSpec).bare.plain.varTypes Tryz.prog) (ds ++ gs)).all (·≤reachBytes)=true)
  (hL:laidMetH Tryz.prog Rows.blobsPlaysRow.laid W) :
  Calls Tryz.prog 6 args W fun e W'=>∃ v,e=.returned v∧Rows.blobsPlaysSpec.post enc Tryz.prog Tryz.f6 false true false false W args v W':=by
 have hW':=hW
 obtain ⟨p,q,hA0,hV,rfl,hfz,hnd⟩:=hW
 have hA:DataW.TrodAll enc Tryz.prog W 0 (fun _=>true) true Tryz.f6.params.toList args.toList ds p:=hA0
 rw [Tryz.params6] at hA
 rw [Tryz.params6] at hval hwt
 obtain ⟨v0,v1,v2,d0,d1,d2,q0,q1,q2,rfl,rfl,rfl,h0,h1,h2⟩:=trodAll_three hA
 obtain ⟨rfl,rfl⟩:=trodVars_none hV
 clear hA0
 have hlt0:∀ x∈q0,x.block < W.heap.size:=fun x hx=>by simpa using hW'.lt x (by simp [hx])
 have hlt1:∀ x∈q1,x.block < W.heap.size:=fun x hx=>by simpa using hW'.lt x (by simp [hx])
 have hlt2:∀ x∈q2,x.block < W.heap.size:=fun x hx=>by simpa using hW'.lt x (by simp [hx])
 have hw2:∀ k∈d2.weights Tryz.prog 45,k≤140737488351232:=fun k hk=>by
  have:=List.all_eq_true.1 hwt k (List.mem_append.2 (.inr (List.mem_append.2 (.inr (by simpa [DataW.weightsEach] using hk)))))
  exact of_decide_eq_true this
 obtain ⟨x0,rfl,b01,b02⟩:=open_num (hval 0 3 v0 rfl rfl) h0
 obtain ⟨x1,rfl,b11,b12⟩:=open_num (hval 1 3 v1 rfl rfl) h1
 obtain ⟨fuel2,hf2⟩:=h2
 obtain ⟨a2,len2,cap2,rfl⟩:=okWide_slice Tryz.underlying45 (hval 2 45 v2 rfl rfl)
 obtain ⟨l2,k2,g2⟩:=open_acts hf2
 obtain ⟨n2,m2⟩:=g2 hw2
 obtain ⟨p2,c2,e2,-⟩:=id k2
 obtain ⟨rfl,rfl,rfl⟩:a2=p2∧len2=l2.length∧cap2=c2:=by simpa using e2
 obtain ⟨r1,r2,r3,r4⟩:=halves hL
 refine (plays_any W r1 r2 r3 r4 x0 x1 b01 b02 b11 b12 _ _ l2 k2 n2 m2).mono fun e W' ⟨he,hb⟩=>?_
 subst he
 refine ⟨_,rfl,_,_,_,[],q0 ++ (q1 ++ q2),[],hW',?_,?_,rfl,hb.frame _,fun h=>by cases h⟩
 ·exact trodAll_mk1 (shut_bool Tryz.underlying4 true)
 ·exact trodAll_mk3 (Below.trod laidOut (by kernel_rfl) (of_decide_eq_true (by kernel_rfl)) h0 hb hlt0) (Below.trod laidOut (by kernel_rfl) (of_decide_eq_true (by kernel_rfl)) h1 hb hlt1) (Below.trod laidOut (by kernel_rfl) (of_decide_eq_true (by kernel_rfl)) ⟨fuel2,hf2⟩ hb hlt2)
theorem lifted (os:Os) (started:os.Started) (H:Type) (enc:TypeId × Value→H) (F:Stop.Interp) :
  ReturnsInHanded {} Tryz.checked os 6 .any ((OpenSpec.ofChange Rows.blobsPlaysSpec).preRow enc Tryz.prog Tryz.f6 Rows.blobsPlaysRow.domain false Rows.blobsPlaysRow.laid) (((OpenSpec.ofChange Rows.blobsPlaysSpec).at F).post enc Tryz.prog Tryz.f6 false true false false):=by
 obtain ⟨places,hx⟩:=reads os enc
 refine returnsInHanded_of_row (C:=Tryz.checked) (s:=OpenSpec.ofChange Rows.blobsPlaysSpec) own started (by kernel_rfl) Tryz.func6
  (witness_row_at (enc:=enc) (C:=Tryz.checked) false (laidWorld os) witArgs rfl (by kernel_rfl) (by kernel_rfl) (by kernel_rfl)
   (OpenSpec.preRow_of_cond 8 hx (by kernel_rfl) (fun k hk=>by cases hk) (by kernel_rfl) (laid_met os))) ?_
 intro W base args ds gs before hval hW _ _ hwt hL _ _
 exact contract H enc W base args ds gs before hval hW hwt hL
theorem said:Rows.BlobsPlaysSaid :=
 OpenClaim.holds_of_cond 6 Tryz.f6 rfl rfl rfl rfl rfl rfl rfl ⟨rfl,rfl,rfl,rfl,rfl⟩ rfl rfl rfl rfl rfl (by kernel_rfl) Tryz.func6 (by kernel_rfl)
  (of_decide_eq_true (by kernel_rfl)) (by unfold Func.isWrapper;first | (rw [if_pos (by decide +kernel)];kernel_rfl) | (rw [if_neg (by decide +kernel)];exact ⟨rfl,rfl⟩))
  (fun os started H enc _ F=>by rw [OpenClaim.pre_eq_preRow];exact lifted os started H enc F)
theorem plain (f : FuncId) (fn : Func) (hf : Tryz.pinned.checked.prog.funcNamed "strata/stratalaw23.BlobsPlays" = some f) (hfn : Tryz.pinned.checked.prog.funcs[f]? = some fn) :
  true=Tryz.pinned.checked.prog.looks []∧∀ (j:Nat) t,fn.params[j]?=some t→Tryz.pinned.checked.prog.wantsStandIn t=false:=by
 obtain rfl : f = 6 := Option.some.inj ((show Tryz.prog.funcNamed "strata/stratalaw23.BlobsPlays" = some 6 by kernel_rfl).symm.trans hf) |>.symm
 obtain rfl:fn=Tryz.f6:=(Option.some.inj (Tryz.func6.symm.trans hfn)).symm
 refine ⟨by kernel_rfl,fun j t ht=>?_⟩
 rw [Tryz.params6] at ht
 have h:=Array.mem_of_getElem? ht
 simp only [List.mem_toArray,List.mem_cons,List.not_mem_nil,or_false] at h
 rcases h with rfl | rfl | rfl
 ·exact (show Tryz.prog.wantsStandIn 3=false by kernel_rfl)
 ·exact (show Tryz.prog.wantsStandIn 3=false by kernel_rfl)
 ·exact (show Tryz.prog.wantsStandIn 45=false by kernel_rfl)
theorem blobsPlays_holds:Rows.BlobsPlaysCardSaid :=
 Claim7.holds_tied_plain_at .later [] _ _ _ _ said (fun _ h=>by cases h) (by kernel_rfl) (fun _ h=>by cases h) blobsPlays_row_tie rfl ⟨rfl,rfl⟩ (by kernel_rfl) rfl plain (by kernel_rfl)
#print axioms blobsPlays_holds
end Go.Proofs.YtecgikanophonaaGreatDoor
