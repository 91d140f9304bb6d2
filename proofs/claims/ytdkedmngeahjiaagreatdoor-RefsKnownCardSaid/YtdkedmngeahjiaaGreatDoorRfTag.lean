import Derived.Test.YtdkedmngeahjiaaGreatDoorM11
import Derived.Test.YtdkedmngeahjiaaGreatDoorM2
set_option maxRecDepth 100000
set_option maxHeartbeats 25600000
namespace Go.Proofs.YtdkedmngeahjiaaGreatDoor
theorem bS{p:Prop}(h:p:=by exact⟨by rw[HX.out];rfl,rfl⟩):p:=h
open Go Go.RowKit
theorem sN(b:UInt8)(x y:Nat):(decide (x≤b.toNat)&&decide (b.toNat≤y))=(decide ((x:Int)≤(b.toNat:Int))&&decide ((b.toNat:Int)≤(y:Int))):=by
 rw[decide_eq_decide.2 (show x≤b.toNat↔(x:Int)≤(b.toNat:Int) by omega),decide_eq_decide.2 (show b.toNat≤y↔(b.toNat:Int)≤(y:Int) by omega)]
theorem yT(b c:UInt8):((b.toNat:Int) !=(c.toNat:Int))=!(b==c):=by
 have h:((b.toNat:Int)==(c.toNat:Int))=(b==c):=by
  rw[Bool.eq_iff_iff,beq_iff_eq,beq_iff_eq];exact⟨fun h=>UInt8.toNat_inj.1 aC,fun h=>by rw[h]⟩
 show(!((b.toNat:Int)==(c.toNat:Int)))=_;rw[h]
theorem Il(i j:Int)(p:Bool)(h:p=decide (i=j)):(i==j)=p:=by
 rw[h,Bool.eq_iff_iff,beq_iff_eq,decide_eq_true_iff]
theorem EJ(i j:Nat):(i==j)=decide ((i:Int)=(j:Int)):=by
 rw[Bool.eq_iff_iff,beq_iff_eq,decide_eq_true_iff];omega
theorem Im(s:ByteArray):(!s.toList.isEmpty)=!s.data.toList.isEmpty:=by
 rw[Lib.toList_data]
theorem DN(b:UInt8)(w:World):Calls Tryz.prog 132 #[.int .u8 b.toNat] w fun e w'=>e=.returned (.bool (pT b))∧w=w':=by
 have hz:=b.toNat_lt;have hx:pT b=(decide ((97:Int)≤(b.toNat:Int))&&decide ((b.toNat:Int)≤122)):=sN b 97 122
 by_cases h1:(97:Int)≤(b.toNat:Int)
 ·by_cases h2:(b.toNat:Int)≤122
  ·rw[decide_eq_true h1,decide_eq_true h2]at hx;have HX:=hZ hx
   clear hx;go_enter Tryz.func132,Tryz.ntmps132;go_wp2_with fail;go_ret;exact bS
  ·rw[decide_eq_true h1,decide_eq_false h2]at hx;have HX:=hZ hx
   clear hx;go_enter Tryz.func132,Tryz.ntmps132;go_wp2_with fail;go_ret;exact bS
 ·rw[decide_eq_false h1]at hx;have HX:=hZ hx
  clear hx;go_enter Tryz.func132,Tryz.ntmps132;go_wp2_with fail;go_ret;exact bS
theorem DO(b:UInt8)(w:World):Calls Tryz.prog 131 #[.int .u8 b.toNat] w fun e w'=>e=.returned (.bool (xN b))∧w=w':=by
 have hz:=b.toNat_lt;have hx:xN b=(decide ((48:Int)≤(b.toNat:Int))&&decide ((b.toNat:Int)≤57)):=sN b 48 57
 by_cases h1:(48:Int)≤(b.toNat:Int)
 ·by_cases h2:(b.toNat:Int)≤57
  ·rw[decide_eq_true h1,decide_eq_true h2]at hx;have HX:=hZ hx
   clear hx;go_enter Tryz.func131,Tryz.ntmps131;go_wp2_with fail;go_ret;exact bS
  ·rw[decide_eq_true h1,decide_eq_false h2]at hx;have HX:=hZ hx
   clear hx;go_enter Tryz.func131,Tryz.ntmps131;go_wp2_with fail;go_ret;exact bS
 ·rw[decide_eq_false h1]at hx;have HX:=hZ hx
  clear hx;go_enter Tryz.func131,Tryz.ntmps131;go_wp2_with fail;go_ret;exact bS
theorem In(b:UInt8)(w:World):Calls Tryz.prog 130 #[.int .u8 b.toNat] w fun e w'=>e=.returned (.bool (pT b||DU b))∧w=w':=by
 have hz:=b.toNat_lt;have hx:DU b=(decide ((65:Int)≤(b.toNat:Int))&&decide ((b.toNat:Int)≤90)):=sN b 65 90
 have hsm:=fun W:World=>DN b W
 cases hs:pT b with
 |true=>
  rw[hs]at hsm;go_enter Tryz.func130,Tryz.ntmps130;go_wp2_with (go_at_call 132;refine(hsm _).mono ?_;rintro e w1 ⟨rfl,rfl⟩);go_ret;exact cF
 |false=>
  rw[hs]at hsm;by_cases h1:(65:Int)≤(b.toNat:Int)
  ·by_cases h2:(b.toNat:Int)≤90
   ·rw[decide_eq_true h1,decide_eq_true h2]at hx;have HX:=hZ hx
    clear hx hs;go_enter Tryz.func130,Tryz.ntmps130;go_wp2_with (go_at_call 132;refine(hsm _).mono ?_;rintro e w1 ⟨rfl,rfl⟩);go_ret;exact bS
   ·rw[decide_eq_true h1,decide_eq_false h2]at hx;have HX:=hZ hx
    clear hx hs;go_enter Tryz.func130,Tryz.ntmps130;go_wp2_with (go_at_call 132;refine(hsm _).mono ?_;rintro e w1 ⟨rfl,rfl⟩);go_ret;exact⟨by rw[HX.out];exact congrArg (fun x=>Ending.returned (Value.bool x)) (decide_eq_false aC),rfl⟩
  ·rw[decide_eq_false h1]at hx;have HX:=hZ hx
   clear hx hs;go_enter Tryz.func130,Tryz.ntmps130;go_wp2_with (go_at_call 132;refine(hsm _).mono ?_;rintro e w1 ⟨rfl,rfl⟩);go_ret;exact bS
theorem BJ{s:ByteArray}{i:Nat}(h:i<s.size):∃b,s.data.toList[i]?=some b∧∀h',s[i]'h'=b:=by
 refine⟨s[i],?_,fun _=>rfl⟩;rw[List.getElem?_eq_getElem (by rw[Array.length_toList];exact h)];exact congrArg some (Array.getElem_toList _).symm
theorem MB(s:ByteArray)(hs:(s.size:Int)≤140737488355328)(w:World):Calls Tryz.prog 74 #[.string s] w fun e w'=>e=.returned (.bool (tK s.data.toList))∧w=w':=by
 have hls:s.data.toList.length=s.size:=Array.length_toList;go_enter Tryz.func74,Tryz.ntmps74;go_wp2_with fail;go_loopw [3] (fun iv wr=>∃i:Nat,(i:Int)≤(s.size:Int)∧iv=.int .i64 i∧Hid (∀j b,j<i→s.data.toList[j]?=some b→okT j b=true)∧wr=w) (fun iv _=>s.size-(intOf iv).toNat)
 case atStart=>exact⟨0,aC,rfl,hZ (fun j b hj=>absurd hj aC),rfl⟩
 case round=>
  obtain⟨i,hi,rfl,HJ,rfl⟩:=hrel;by_cases hlt:(i:Int)<(s.size:Int)
  ·obtain⟨b,hb,hg⟩:=BJ (show i<s.size by omega);have HB:=hZ hb
   have hg':s[i]'(show i<s.size by omega)=b:=hg _;have hle:=fun W:World=>In b W
   have hdi:=fun W:World=>DO b W
   have n95:((b.toNat:Int) !=95)=!(b==95):=yT b 95;have n46:((b.toNat:Int) !=46)=!(b==46):=yT b 46
   have n45:((b.toNat:Int) !=45)=!(b==45):=yT b 45;have ei:((i:Int)==0)=(i==0):=Il _ _ _ (EJ i 0)
   have HOK:Hid (okT i b=((pT b||DU b)||xN b||b==95||(!(i==0)&&(b==46||b==45)))):=hZ rfl;generalize (i==0)=Z at ei HOK;clear hb hg;generalize (b==95)=U at n95 HOK;generalize (b==46)=V at n46 HOK;generalize (b==45)=X at n45 HOK;generalize (pT b||DU b)=L at hle HOK;generalize xN b=D at hdi HOK
   have hcs:L=true∨(L=false∧D=true)∨(L=false∧D=false∧U=true)∨(L=false∧D=false∧U=false∧Z=true)∨(L=false∧D=false∧U=false∧Z=false∧V=true)∨(L=false∧D=false∧U=false∧Z=false∧V=false∧X=true)∨(L=false∧D=false∧U=false∧Z=false∧V=false∧X=false):=by
    cases L<;>cases D<;>cases U<;>cases Z<;>cases V<;>cases X<;>decide
   rcases hcs with rfl|⟨rfl,rfl⟩|⟨rfl,rfl,rfl⟩|⟨rfl,rfl,rfl,rfl⟩|⟨rfl,rfl,rfl,rfl,rfl⟩|⟨rfl,rfl,rfl,rfl,rfl,rfl⟩|⟨rfl,rfl,rfl,rfl,rfl,rfl⟩
   all_goals
    go_wp2_with (first|(go_at_call 130;refine(hle _).mono ?_;rintro e w1 ⟨rfl,rfl⟩)|(go_at_call 131;refine(hdi _).mono ?_;rintro e w1 ⟨rfl,rfl⟩))
    first
     |(refine⟨⟨i+1,aC,aG,hZ (fun j c hj hc=>?_),trivial⟩,cN⟩
       by_cases hji:j=i
       ·subst hji;rw[HB.out]at hc;cases hc;rw[HOK.out];simp
       ·exact HJ.out j c aC hc)
     |(go_ret
       refine⟨?_,rfl⟩;rw[LJ HB.out (by rw[HOK.out];rfl)]
       rfl)
  ·obtain rfl:i=s.size:=by omega
   have HT:Hid (tK s.data.toList=!s.data.toList.isEmpty):=hZ (LK (fun j b hb=>HJ.out j b (by
    have:=(List.getElem?_eq_some_iff.1 hb).1
    omega) hb))
   go_wp2_with fail;go_ret;refine⟨BT ?_,rfl⟩;rw[HT.out];exact Im s
theorem M9(n i:Nat)(b:UInt8):okP n i b=(pT b||xN b||(!(i==0)&& !(i+1==n)&&(b==46||(b==95||b==45)))):=by
 unfold okP
 have hc:sepB.contains b=(b==46||(b==95||b==45)):=by
  unfold sepB;simp only[List.contains,List.elem];cases b==46<;>cases b==95<;>cases b==45<;>rfl
 rw[hc]
theorem J9(s:ByteArray)(hs:(s.size:Int)≤140737488355328)(w:World):Calls Tryz.prog 75 #[.string s] w fun e w'=>e=.returned (.bool (oP s.data.toList))∧w=w':=by
 have hls:s.data.toList.length=s.size:=Array.length_toList;go_enter Tryz.func75,Tryz.ntmps75;go_wp2_with fail;go_loopw [3] (fun iv wr=>∃i:Nat,(i:Int)≤(s.size:Int)∧iv=.int .i64 i∧Hid (∀j b,j<i→s.data.toList[j]?=some b→okP s.data.toList.length j b=true)∧wr=w) (fun iv _=>s.size-(intOf iv).toNat)
 case atStart=>exact⟨0,aC,rfl,hZ (fun j b hj=>absurd hj aC),rfl⟩
 case round=>
  obtain⟨i,hi,rfl,HJ,rfl⟩:=hrel;by_cases hlt:(i:Int)<(s.size:Int)
  ·obtain⟨b,hb,hg⟩:=BJ (show i<s.size by omega);have HB:=hZ hb
   have hg':s[i]'(show i<s.size by omega)=b:=hg _;have hle:=fun W:World=>DN b W
   have hdi:=fun W:World=>DO b W
   have n95:((b.toNat:Int) !=95)=!(b==95):=yT b 95;have n46:((b.toNat:Int) !=46)=!(b==46):=yT b 46
   have n45:((b.toNat:Int) !=45)=!(b==45):=yT b 45;have ei:((i:Int)==0)=(i==0):=Il _ _ _ (EJ i 0)
   have ej:((i:Int)==(s.size:Int)-1)=(i+1==s.size):=Il _ _ _ ((EJ (i+1) s.size).trans (decide_eq_decide.2 aC));have hok:=M9 s.data.toList.length i b
   rw[hls]at hok;have HOK:Hid (okP s.data.toList.length i b=(pT b||xN b||(!(i==0)&& !(i+1==s.size)&&(b==46||(b==95||b==45))))):=hZ (by rw[hls];exact hok)
   clear hok;generalize (i==0)=Z at ei HOK;generalize (i+1==s.size)=Y at ej HOK;clear hb hg;generalize (b==95)=U at n95 HOK;generalize (b==46)=V at n46 HOK;generalize (b==45)=X at n45 HOK;generalize pT b=L at hle HOK;generalize xN b=D at hdi HOK
   have hcs:(Z=true∧(L=true∨L=false∧D=true∨L=false∧D=false))∨(Z=false∧Y=true∧(L=true∨L=false∧D=true∨L=false∧D=false))∨(Z=false∧Y=false∧(L=true∨L=false∧D=true∨L=false∧D=false∧V=true∨L=false∧D=false∧V=false∧U=true∨L=false∧D=false∧V=false∧U=false∧X=true∨L=false∧D=false∧V=false∧U=false∧X=false)):=by
    cases L<;>cases D<;>cases U<;>cases Z<;>cases V<;>cases X<;>cases Y<;>decide
   rcases hcs with⟨rfl,rfl|⟨rfl,rfl⟩|⟨rfl,rfl⟩⟩|⟨rfl,rfl,rfl|⟨rfl,rfl⟩|⟨rfl,rfl⟩⟩|⟨rfl,rfl,rfl|⟨rfl,rfl⟩|⟨rfl,rfl,rfl⟩|⟨rfl,rfl,rfl,rfl⟩|⟨rfl,rfl,rfl,rfl,rfl⟩|⟨rfl,rfl,rfl,rfl,rfl⟩⟩
   all_goals
    go_wp2_with (first|(go_at_call 132;refine(hle _).mono ?_;rintro e w1 ⟨rfl,rfl⟩)|(go_at_call 131;refine(hdi _).mono ?_;rintro e w1 ⟨rfl,rfl⟩))
    first
     |(refine⟨⟨i+1,aC,aG,hZ (fun j c hj hc=>?_),trivial⟩,cN⟩
       by_cases hji:j=i
       ·subst hji;rw[HB.out]at hc;cases hc;rw[HOK.out];simp
       ·exact HJ.out j c aC hc)
     |(go_ret
       refine⟨?_,rfl⟩;rw[IP HB.out (by rw[HOK.out];rfl)]
       rfl)
  ·obtain rfl:i=s.size:=by omega
   have HT:Hid (oP s.data.toList=!s.data.toList.isEmpty):=hZ (IQ (fun j b hb=>HJ.out j b (by
    have:=(List.getElem?_eq_some_iff.1 hb).1
    omega) hb))
   go_wp2_with fail;go_ret;refine⟨BT ?_,rfl⟩;rw[HT.out];exact Im s
end Go.Proofs.YtdkedmngeahjiaaGreatDoor
