import Derived.Test.YtdkedmngeahjiaaGreatDoorM11
import Derived.Test.YtdkedmngeahjiaaGreatDoorRfTag
import Derived.Test.YtdkedmngeahjiaaGreatDoorShelf
import Derived.WalkSpells
import Derived.WalkLawsBesides
set_option maxRecDepth 100000
set_option maxHeartbeats 25600000
namespace Go.Proofs.YtdkedmngeahjiaaGreatDoor
open Go Go.RowKit
theorem Gm(oth:List UInt8)(b:UInt8):decide (Lib.indexByte oth b<0)=!oth.contains b:=by
 cases h:oth.contains b with
 |true=>
  have hm:b∈oth:=by simpa using h
  refine decide_eq_false fun hlt=>?_
  have h1:Lib.indexByte oth b=-1:=by
   have:=Lib.indexByte_ge oth b;omega
  obtain⟨k,hk⟩:=List.mem_iff_getElem?.1 hm;exact Lib.indexByte_none h1 k hk
 |false=>
  have hm:b∉oth:=by
   intro hm;have:oth.contains b=true:=by simpa using hm
   rw[h]at this;cases this
  refine decide_eq_true ?_;have:=Lib.indexByte_ge oth b
  by_cases h0:Lib.indexByte oth b=-1
  ·omega
  ·obtain⟨o,ho⟩:∃o:Nat,Lib.indexByte oth b=o:=⟨(Lib.indexByte oth b).toNat,aC⟩
   exact absurd (List.mem_of_getElem? (Lib.indexByte_some ho).1) hm
theorem Ij(b:UInt8):pT b=(decide ((97:Int)≤(b.toNat:Int))&&decide ((b.toNat:Int)≤122)):=sN b 97 122
theorem Lw(b:UInt8):xN b=(decide ((48:Int)≤(b.toNat:Int))&&decide ((b.toNat:Int)≤57)):=sN b 48 57
theorem Lx(b:UInt8):DU b=(decide ((65:Int)≤(b.toNat:Int))&&decide ((b.toNat:Int)≤90)):=sN b 65 90
theorem MA(oth:List UInt8)(caps:Bool)(b:UInt8):okB oth caps b=(((decide ((97:Int)≤(b.toNat:Int))&&decide ((b.toNat:Int)≤122))||(decide ((48:Int)≤(b.toNat:Int))&&decide ((b.toNat:Int)≤57))||(caps&&(decide ((65:Int)≤(b.toNat:Int))&&decide ((b.toNat:Int)≤90))))|| !decide (Lib.indexByte oth b<0)):=by
 unfold okB;rw[Ij,Lw,Lx,Gm,Bool.not_not]
theorem M6{oth:List UInt8}{caps:Bool}{l:List UInt8}{i:Nat}{b:UInt8}(hb:l[i]?=some b)(h:(l.take i).all (okB oth caps)=true)(ho:okB oth caps b=true):(l.take (i+1)).all (okB oth caps)=true:=by
 rw[List.take_add_one,hb,List.all_append,h];simp[ho]
theorem M7{oth:List UInt8}{caps:Bool}{l:List UInt8}{i:Nat}{b:UInt8}(hb:l[i]?=some b)(ho:okB oth caps b=false):ofM oth caps l=false:=
 DV ho (List.mem_of_getElem? hb)
theorem M8{oth:List UInt8}{caps:Bool}{l:List UInt8}(h:l.all (okB oth caps)=true):ofM oth caps l=!l.isEmpty:=by
 unfold ofM;rw[h,Bool.true_and]
theorem Ik(s oth:ByteArray)(caps:Bool)(hs:(s.size:Int)≤140737488355328)(w:World):
  Calls Tryz.prog 77 #[.string s,.string oth,.bool caps] w fun e w'=>e=.returned (.bool (ofM oth.data.toList caps s.data.toList))∧w=w':=by
 have hls:s.data.toList.length=s.size:=Array.length_toList;go_enter Tryz.func77,Tryz.ntmps77;go_wp2_with fail;go_loopw [11] (fun iv wr=>∃i:Nat,(i:Int)≤(s.size:Int)∧iv=.int .i64 i∧Hid ((s.data.toList.take i).all (okB oth.data.toList caps)=true)∧wr=w) (fun iv _=>s.size-(intOf iv).toNat)
 case atStart=>exact⟨0,aC,rfl,hZ rfl,rfl⟩
 case round=>
  obtain⟨i,hi,rfl,HJ,rfl⟩:=hrel;by_cases hlt:(i:Int)<(s.size:Int)
  ·obtain⟨b,hb,hg⟩:=BJ (show i<s.size by omega);have HB:=hZ hb
   have hz:=b.toNat_lt;have hg':s[i]'(show i<s.size by omega)=b:=hg _
   have hix:∀W:World,Calls Tryz.prog 134 #[.string oth,.int .u8 b.toNat] W fun e w'=>e=.returned (.int .i64 (Lib.indexByte oth.data.toList b))∧w'=W:=fun W=>by
    have h:=Tryz.strings_IndexByte oth (b.toNat:Int) W;rw[show((b.toNat:Int).toNat.toUInt8)=b by simp]at h;exact h
   have HOK:=hZ (MA oth.data.toList caps b);have hge:=Lib.indexByte_ge oth.data.toList b
   have hr:(b.toNat:Int)<48∨(48≤(b.toNat:Int)∧(b.toNat:Int)≤57)∨(57<(b.toNat:Int)∧(b.toNat:Int)<65)∨(65≤(b.toNat:Int)∧(b.toNat:Int)≤90)∨(90<(b.toNat:Int)∧(b.toNat:Int)<97)∨(97≤(b.toNat:Int)∧(b.toNat:Int)≤122)∨122<(b.toNat:Int):=aC;clear hb hg;generalize Lib.indexByte oth.data.toList b=X at hix HOK hge;have hx:X<0∨0≤X:=aC
   have hcp:caps=true∨caps=false:=by cases caps<;>simp
   rcases hcp with rfl|rfl<;>rcases hr with h1|⟨h1,h2⟩|⟨h1,h2⟩|⟨h1,h2⟩|⟨h1,h2⟩|⟨h1,h2⟩|h1<;>rcases hx with h3|h3
   all_goals
    go_wp2_with (go_at_call 134;refine(hix _).mono ?_;rintro e w1 ⟨rfl,rfl⟩)
    first
     |(refine⟨⟨i+1,aC,aG,hZ (M6 HB.out HJ.out (by
        rw[HOK.out];clear HOK HB HJ hix;simp
        omega)),trivial⟩,cN⟩)
     |(go_ret
       refine⟨?_,rfl⟩
       rw[M7 HB.out (by
        rw[HOK.out];clear HOK HB HJ hix;simp
        omega)]
       rfl)
  ·obtain rfl:i=s.size:=by omega
   have HT:Hid (ofM oth.data.toList caps s.data.toList=!s.data.toList.isEmpty):=hZ (M8 (by
    have:=HJ.out;rw[List.take_of_length_le aC]at this;exact this))
   go_wp2_with fail;go_ret;refine⟨BT ?_,rfl⟩;rw[HT.out];exact Im s
end Go.Proofs.YtdkedmngeahjiaaGreatDoor
