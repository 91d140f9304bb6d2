import Derived.Test.YtdkedmngeahjiaaGreatDoorM27
import Derived.Test.YtdkedmngeahjiaaGreatDoorM30
import Derived.Test.YtdkedmngeahjiaaGreatDoorM11
set_option maxRecDepth 100000
set_option maxHeartbeats 25600000
namespace Go.Proofs.YtdkedmngeahjiaaGreatDoor
open Go Go.RowKit
theorem nQ(s:ByteArray)(n:Int)(w:World):
  Calls Tryz.prog 34 #[.string s,nG n] w fun e w'=>e=.returned (nT s n)∧w=w':=by
 by_cases h0:n=0
 ·subst h0;show Calls _ _ #[.string s,.nilIface] _ _
  go_enter Tryz.func34,Tryz.ntmps34;go_wp2_with fail;go_ret;exact cF
 ·rw[show nG n=.iface 71 (.int .i64 n)from if_neg h0,show nT s n=.iface 132 (.agg #[.string s,.iface 71 (.int .i64 n)])from if_neg h0];go_enter Tryz.func34,Tryz.ntmps34;go_wp2_with fail;go_ret;exact cF
def rY:ByteArray:=⟨#[114,101,102,101,114,101,110,99,101]⟩
def vG(s:List UInt8):Value:=.tuple #[lV ((nO s).getD []),nT rY (if(nO s).isSome then 0 else 31)]
theorem Cy{s:List UInt8}(h:AC s=false):vG s=.tuple #[.string ⟨#[]⟩,AF rY 31]:=by
 unfold vG;rw[IO h]
 rfl
theorem Ii{s:ByteArray}(h:AC s.data.toList=true):vG s.data.toList=.tuple #[.string (if 58∈s.data.toList then s else s++⟨#[58,108,97,116,101,115,116]⟩),.nilIface]:=by
 unfold vG;rw[LI h];by_cases h1:58∈s.data.toList
 ·rw[if_pos h1,if_pos h1]
  rfl
 ·rw[if_neg h1,if_neg h1];refine congrArg (fun x=>Value.tuple #[.string x,.nilIface]) ?_;refine ByteArray.ext ?_;rw[ByteArray.data_append];refine Array.ext' ?_;rw[Array.toList_append]
  rfl
theorem rZ(s:ByteArray)(hs:(s.size:Int)≤140737488355328)(w:World):
  Calls Tryz.prog 9 #[.string s] w fun e w'=>e=.returned (vG s.data.toList)∧Below w.heap.size w w':=by
 have hrf:=fun W:World=>L6 s hs W
 have h31:=fun W:World=>nQ rY 31 W
 rw[show nG 31=.iface 71 (.int .i64 31)from rfl]at h31;unfold rY at h31;have hct:=fun W:World=>Tryz.strings_Contains_one s 58 W
 cases hR:AC s.data.toList with
 |false=>
  rw[hR]at hrf;have hrf2:∀W:World,Calls Tryz.prog 33 #[.string s] W fun e w'=>e=.returned (.iface 71 (.int .i64 31))∧Below W.heap.size W w':=hrf
  have HFV:=hZ (Cy hR);clear hrf hR;go_enter Tryz.func9,Tryz.ntmps9;go_wp2_with (first|(go_at_call 33;refine(hrf2 _).mono ?_;rintro e w1 ⟨rfl,hb1⟩;have HB1:=hZ hb1;clear hb1)|(go_at_call 34;refine(h31 _).mono ?_;rintro e w2 ⟨rfl,rfl⟩));go_ret2;exact⟨by rw[HFV.out];rfl,HB1.out⟩
 |true=>
  rw[hR]at hrf;have hrf2:∀W:World,Calls Tryz.prog 33 #[.string s] W fun e w'=>e=.returned .nilIface∧Below W.heap.size W w':=hrf
  have HFV:=hZ (Ii hR);by_cases hm:58∈s.data.toList
  ·have hd:decide (0≤Lib.indexByte s.data.toList 58)=true:=by
    obtain⟨a,b,h1,h2⟩:=List.eq_append_cons_of_mem hm;rw[h1,BW b h2];exact decide_eq_true aC
   rw[hd]at hct;have HM:=hZ hm
   clear hrf hR hm hd;go_enter Tryz.func9,Tryz.ntmps9;go_wp2_with (first|(go_at_call 33;refine(hrf2 _).mono ?_;rintro e w1 ⟨rfl,hb1⟩;have HB1:=hZ hb1;clear hb1)|(go_at_call 35;refine(hct _).mono ?_;rintro e w2 ⟨rfl,rfl⟩));go_ret2;exact⟨by rw[HFV.out,if_pos HM.out];rfl,HB1.out⟩
  ·have hd:decide (0≤Lib.indexByte s.data.toList 58)=false:=by rw[C9 hm];rfl
   rw[hd]at hct;have HM:=hZ hm
   clear hrf hR hm hd;go_enter Tryz.func9,Tryz.ntmps9;go_wp2_with (first|(go_at_call 33;refine(hrf2 _).mono ?_;rintro e w1 ⟨rfl,hb1⟩;have HB1:=hZ hb1;clear hb1)|(go_at_call 35;refine(hct _).mono ?_;rintro e w2 ⟨rfl,rfl⟩));go_ret2;exact⟨by rw[HFV.out,if_neg HM.out];rfl,HB1.out⟩
theorem J7(f:ByteArray):Lib.trimPrefix f.data.toList [114,101,102,115,47]=nS f:=by
 unfold Lib.trimPrefix nS
 have h:Lib.hasPrefix f.data.toList refHead=true↔f.data.toList.take 5=refHead:=by
  unfold Lib.hasPrefix;rw[List.isPrefixOf_iff_prefix];constructor
  ·rintro⟨r,hr⟩;rw[←hr]
   rfl
  ·intro h;exact⟨f.data.toList.drop 5,by rw[←h];exact List.take_append_drop 5 _⟩
 show(if Lib.hasPrefix f.data.toList refHead=true then _ else _)=_;by_cases h1:f.data.toList.take 5=refHead
 ·rw[if_pos (h.2 h1),if_pos h1]
  rfl
 ·rw[if_neg (fun e=>h1 (h.1 e)),if_neg h1]
theorem Gl(f:ByteArray):(nS f).length≤f.size:=by
 unfold nS;split
 ·rw[List.length_drop];exact Nat.sub_le _ _
 ·exact Nat.le_refl _
theorem Cz(f:ByteArray)(hs:(f.size:Int)≤140737488355328)(w:World):
  Calls Tryz.prog 43 #[.string f] w fun e w'=>e=.returned (.tuple #[lV (nS f),.bool (qP f)])∧Below w.heap.size w w':=by
 have htp:=fun W:World=>Tryz.strings_TrimPrefix f ⟨#[114,101,102,115,47]⟩ W
 rw[show(⟨#[114,101,102,115,47]⟩:ByteArray).data.toList=[114,101,102,115,47]from rfl,J7]at htp;have htl:=Gl f
 have hfu:=fun W:World=>rZ ⟨(nS f).toArray⟩ (show(((nS f).length:Nat):Int)≤140737488355328 by omega) W
 rw[show(⟨(nS f).toArray⟩:ByteArray).data.toList=nS f from rfl]at hfu;have hR:qP f=(nO (nS f)==some (nS f)):=rfl
 rw[hR];unfold vG lV at hfu;unfold lV
 have hne:nO (nS f)=none∨∃u,nO (nS f)=some u:=by
  cases nO (nS f)with
  |none=>exact .inl rfl
  |some u=>exact .inr ⟨u,rfl⟩
 have hl:∀u:List UInt8,((⟨u.toArray⟩:ByteArray).toList==(⟨(nS f).toArray⟩:ByteArray).toList)=(u==nS f):=fun u=>by rw[Lib.toList_data,Lib.toList_data]
 obtain⟨T,hT⟩:∃T:ByteArray,(⟨(nS f).toArray⟩:ByteArray)=T:=⟨_,rfl⟩
 rw[hT]at htp hfu hl⊢;generalize nO (nS f)=O at hfu hne⊢;rcases hne with rfl|⟨u,rfl⟩
 ·have hfu2:∀W:World,Calls Tryz.prog 9 #[.string T] W fun e w'=>e=.returned (.tuple #[.string ⟨#[]⟩,.iface 132 (.agg #[.string rY,nJ 31])])∧Below W.heap.size W w':=hfu
  clear hfu hl hR hT;go_enter Tryz.func43,Tryz.ntmps43;go_wp2_with (first|(go_at_call 89;refine(htp _).mono ?_;rintro e w1 ⟨rfl,rfl⟩)|(go_at_call 9;refine(hfu2 _).mono ?_;rintro e w2 ⟨rfl,hb2⟩;have HB2:=hZ hb2;clear hb2));go_ret2;exact gT
 ·have hfu2:∀W:World,Calls Tryz.prog 9 #[.string T] W fun e w'=>e=.returned (.tuple #[.string ⟨u.toArray⟩,.nilIface])∧Below W.heap.size W w':=hfu
  have hl2:=hl u
  obtain⟨U,hU⟩:∃U:ByteArray,(⟨u.toArray⟩:ByteArray)=U:=⟨_,rfl⟩
  rw[hU]at hfu2 hl2;have hq:(some u==some (nS f))=(u==nS f):=rfl
  rw[hq];have HQ:=hZ hl2
  rw[←hl2];clear hfu hl hR hT hl2 hq hU;go_enter Tryz.func43,Tryz.ntmps43;go_wp2_with (first|(go_at_call 89;refine(htp _).mono ?_;rintro e w1 ⟨rfl,rfl⟩)|(go_at_call 9;refine(hfu2 _).mono ?_;rintro e w2 ⟨rfl,hb2⟩;have HB2:=hZ hb2;clear hb2));go_ret2;exact gT
end Go.Proofs.YtdkedmngeahjiaaGreatDoor
