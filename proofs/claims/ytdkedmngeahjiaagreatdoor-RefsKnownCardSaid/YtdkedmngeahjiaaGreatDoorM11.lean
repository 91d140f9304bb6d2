import Derived.Lib.SplitLaws
import Derived.Lib.SlTrimSet
import Derived.Test.YtdkedmngeahjiaaGreatDoorM1
import Derived.Test.YtdkedmngeahjiaaGreatDoorM3
import Derived.Test.YtdkedmngeahjiaaGreatDoorDiskA
import Derived.Test.YtdkedmngeahjiaaGreatDoorM10
set_option maxRecDepth 100000
set_option maxHeartbeats 25600000
namespace Go.Proofs.YtdkedmngeahjiaaGreatDoor
theorem eL{p:Prop}(h:p:=by rw[e];exact List.mem_cons_self ..):p:=h
open Go
def pT(b:UInt8):Bool:=decide (97≤b.toNat)&&decide (b.toNat≤122)
def DU(b:UInt8):Bool:=decide (65≤b.toNat)&&decide (b.toNat≤90)
def xN(b:UInt8):Bool:=decide (48≤b.toNat)&&decide (b.toNat≤57)
def okB(oth:List UInt8)(caps:Bool)(b:UInt8):Bool:=(pT b||xN b||(caps&&DU b))||oth.contains b
def ofM(oth:List UInt8)(caps:Bool)(l:List UInt8):Bool:=l.all (okB oth caps)&& !l.isEmpty
def tK(l:List UInt8):Bool:=ofM [95,46,45] true l&& !(l.head? ==some 46)&& !(l.head? ==some 45)
def sepB:List UInt8:=[46,95,45]
def oP(l:List UInt8):Bool:=ofM sepB false l&&(Lib.trimS l sepB==l)
def pcs(c:UInt8):List UInt8→List (List UInt8)
 |[]=>[[]]
 |b::r=>if b=c then []::pcs c r else match pcs c r with
  |[]=>[[b]]
  |p::q=>(b::p)::q
def oT:List UInt8:=[108,97,116,101,115,116]
def oW:List UInt8:=[115,99,114,97,116,99,104]
def goM(n t u:List UInt8):Option (List UInt8):=if u.length≤96∧n≠oW∧tK t=true∧(pcs 47 n).all oP=true then some u else none
def nO(s:List UInt8):Option (List UInt8):=
 if 96<s.length then none else
 match pcs 58 s with
 |[n]=>goM n oT (s++58::oT)
 |[n,t]=>goM n t s
 |_=>none
theorem wL(c:UInt8)(l:List UInt8):pcs c l≠[]:=by
 cases l with
 |nil=>simp[pcs]
 |cons b r=>
  unfold pcs;split
  ·simp
  ·split<;>simp
theorem uE{c:UInt8}:∀{l:List UInt8},c∉l→pcs c l=[l]
 |[],_=>rfl
 |b::r,h=>by
  have h1:c∉r:=fun hh=>h (List.mem_cons_of_mem _ hh)
  have h2:¬b=c:=fun e=>h eL
  rw[pcs,if_neg h2,uE h1]
theorem qY{c:UInt8}(b:List UInt8):∀{a:List UInt8},c∉a→pcs c (a++c::b)=a::pcs c b
 |[],_=>by rw[List.nil_append,pcs,if_pos rfl]
 |x::r,h=>by
  have h1:c∉r:=fun hh=>h (List.mem_cons_of_mem _ hh)
  have h2:¬x=c:=fun e=>h eL
  rw[List.cons_append,pcs,if_neg h2,qY b h1]
theorem rK(c:UInt8)(l:List UInt8):c∉l∨∃a b,l=a++c::b∧c∉a:=by
 by_cases h:c∈l
 ·obtain⟨a,b,h1,h2⟩:=List.eq_append_cons_of_mem h;exact .inr ⟨a,b,h1,h2⟩
 ·exact .inl h
theorem BL{c:UInt8}:∀{l:List UInt8},c∉l→Lib.index l [c]=-1
 |[],_=>rfl
 |b::r,h=>by
  have h1:c∉r:=fun hh=>h (List.mem_cons_of_mem _ hh)
  have h2:¬c=b:=fun e=>h eL
  unfold Lib.index;rw[BL h1];simp[List.isPrefixOf,h2]
theorem yL{c:UInt8}(b:List UInt8):∀{a:List UInt8},c∉a→Lib.index (a++c::b) [c]=a.length
 |[],_=>by simp[Lib.index,List.isPrefixOf]
 |x::r,h=>by
  have h1:c∉r:=fun hh=>h (List.mem_cons_of_mem _ hh)
  have h2:¬c=x:=fun e=>h eL
  rw[List.cons_append];unfold Lib.index;rw[yL b h1];have h3:((r.length:Int)== -1)=false:=beq_eq_false_iff_ne.2 aC
  simp[List.isPrefixOf,h2,h3]
theorem ET{c:UInt8}{l:List UInt8}(h:c∉l):Lib.cut l [c]=(l,[],false):=by
 unfold Lib.cut;rw[BL h]
 rfl
theorem CT{c:UInt8}(b:List UInt8){a:List UInt8}(h:c∉a):Lib.cut (a++c::b) [c]=(a,b,true):=by
 unfold Lib.cut;rw[yL b h,if_pos aC];simp
theorem CU(c:UInt8):∀(k:Nat) (l:List UInt8),l.count c=k→Lib.splitK [c] 0 k l=pcs c l:=by
 intro k
 induction k with
 |zero=>
  intro l h;rw[uE (List.count_eq_zero.1 h)]
  rfl
 |succ k ih=>
  intro l h;rcases rK c l with h1|⟨a,b,rfl,h1⟩
  ·rw[List.count_eq_zero.2 h1]at h;omega
  ·have h2:b.count c=k:=by
    rw[List.count_append,List.count_eq_zero.2 h1,List.count_cons_self]at h;omega
   unfold Lib.splitK;rw[yL b h1,qY b h1];have h3:((a.length:Int)== -1)=false:=beq_eq_false_iff_ne.2 aC
   rw[if_neg (by rw[h3];decide),Int.toNat_natCast,←ih b h2];simp
theorem wM(c:UInt8)(l:List UInt8):(pcs c l).length=l.count c+1:=by
 have h:=congrArg List.length (CU c _ l rfl);rw[←h];have h1:=Lib.splitB_data ⟨#[c]⟩ 0 (l.count c) ⟨l.toArray⟩
 have h2:=Lib.splitB_all ⟨#[c]⟩ (Nat.le_refl 1) 0 (l.count c) ⟨l.toArray⟩ (Lib.count_one c l);have h3:=congrArg List.length h1
 rw[List.length_map,h2]at h3;exact h3.symm
theorem BM(c b:UInt8):∀l:List UInt8,pcs c (l++[b])=if b=c then pcs c l++[[]]else(pcs c l).dropLast++[((pcs c l).getLast?).getD []++[b]]
 |[]=>by
  rw[List.nil_append];unfold pcs;split<;>rfl
 |x::r=>by
  have ih:=BM c b r;rw[List.cons_append];by_cases hx:x=c
  ·rw[pcs,if_pos hx,pcs,if_pos hx,ih];by_cases hb:b=c
   ·rw[if_pos hb,if_pos hb];rfl
   ·rw[if_neg hb,if_neg hb];have hn:=wL c r
    cases hp:pcs c r with
    |nil=>exact absurd hp hn
    |cons p q=>rfl
  ·rw[pcs,if_neg hx,pcs,if_neg hx,ih];have hn:=wL c r
   by_cases hb:b=c
   ·rw[if_pos hb,if_pos hb]
    cases hp:pcs c r with
    |nil=>exact absurd hp hn
    |cons p q=>rfl
   ·rw[if_neg hb,if_neg hb]
    cases hp:pcs c r with
    |nil=>exact absurd hp hn
    |cons p q=>
     cases q with
     |nil=>rfl
     |cons y z=>rfl
def AC(s:List UInt8):Bool:=
 decide (s.length+(if(Lib.cut s [58]).2.2 then 0 else 7)≤96)&& !((Lib.cut s [58]).1==oW)&&
  tK (if(Lib.cut s [58]).2.2 then(Lib.cut s [58]).2.1 else oT)&&(pcs 47 (Lib.cut s [58]).1).all oP
theorem DV{oth:List UInt8}{caps:Bool}{c:UInt8}(h:okB oth caps c=false){l:List UInt8}(hl:c∈l):ofM oth caps l=false:=by
 unfold ofM;rw[Bool.and_eq_false_iff];refine .inl (List.all_eq_false.2 ⟨c,hl,?_⟩);rw[h];decide
theorem LH{l:List UInt8}(hl:58∈l):tK l=false:=by
 unfold tK;rw[DV (c:=58) aA hl]
 rfl
theorem EU(n t u:List UInt8):(goM n t u).isSome=(decide (u.length≤96)&& !(n==oW)&&tK t&&(pcs 47 n).all oP):=by
 unfold goM;by_cases h1:u.length≤96<;>by_cases h2:n=oW<;>by_cases h3:tK t=true<;>by_cases h4:(pcs 47 n).all oP=true<;>simp[h1,h2,h3,h4]
theorem EV(s:List UInt8):(nO s).isSome=AC s:=by
 unfold nO AC;rcases rK 58 s with h|⟨a,b,rfl,h⟩
 ·rw[ET h,uE h];simp only;by_cases h1:96<s.length
  ·rw[if_pos h1];have:decide (s.length+(if false=true then 0 else 7)≤96)=false:=decide_eq_false iE
   rw[this]
   rfl
  ·rw[if_neg h1,EU];have:(s++58::oT).length=s.length+7:=by rw[List.length_append];rfl
   rw[this]
   rfl
 ·rw[CT b h,qY b h];simp only[if_true];by_cases h1:96<(a++58::b).length
  ·rw[if_pos h1];have:decide ((a++58::b).length+0≤96)=false:=decide_eq_false aC
   rw[this]
   rfl
  ·rw[if_neg h1];rcases rK 58 b with h2|⟨x,y,rfl,h2⟩
   ·rw[uE h2];simp only;rw[EU]
    rfl
   ·rw[qY y h2];have h3:tK (x++58::y)=false:=LH eZ
    rw[h3,Bool.and_false,Bool.false_and]
    cases hp:pcs 58 y with
    |nil=>exact absurd hp (wL _ _)
    |cons p q=>rfl
theorem LI{s:List UInt8}(h:AC s=true):nO s=some (if 58∈s then s else s++58::oT):=by
 rw[←EV]at h;unfold nO at h⊢;split at h
 ·cases h
 rename_i h1;rw[if_neg h1];rcases rK 58 s with h2|⟨a,b,rfl,h2⟩
 ·rw[uE h2]at h⊢;simp only at h⊢;rw[if_neg h2];unfold goM at h⊢;split at h
  ·rename_i h3;rw[if_pos h3]
  ·cases h
 ·rw[qY b h2]at h⊢;rw[if_pos eZ]
  cases hp:pcs 58 b with
  |nil=>exact absurd hp (wL _ _)
  |cons p q=>
   rw[hp]at h
   cases q with
   |nil=>
    simp only at h⊢;unfold goM at h⊢;split at h
    ·rename_i h3;rw[if_pos h3]
    ·cases h
   |cons _ _=>cases h
theorem IO{s:List UInt8}(h:AC s=false):nO s=none:=by
 rw[←EV]at h
 cases hf:nO s with
 |none=>rfl
 |some u=>rw[hf]at h;cases h
theorem pD{s u:List UInt8}(h:nO s=some u):nO u=some u∧u.length≤96∧58∈u:=by
 unfold nO at h;split at h
 ·cases h
 rename_i h1;rcases rK 58 s with h2|⟨a,b,rfl,h2⟩
 ·rw[uE h2]at h;simp only at h;unfold goM at h;split at h
  ·rename_i h3;cases h;refine⟨?_,h3.1,eZ⟩;unfold nO;rw[if_neg aC,qY _ h2,show pcs 58 oT=[oT]from aA];simp only;unfold goM;exact if_pos h3
  ·cases h
 ·rw[qY b h2]at h
  cases hp:pcs 58 b with
  |nil=>exact absurd hp (wL _ _)
  |cons p q=>
   rw[hp]at h
   cases q with
   |nil=>
    simp only at h;unfold goM at h;split at h
    ·rename_i h3;cases h;refine⟨?_,h3.1,eZ⟩;unfold nO;rw[if_neg h1,qY b h2,hp];simp only;unfold goM;exact if_pos h3
    ·cases h
   |cons _ _=>cases h
def okT(j:Nat)(b:UInt8):Bool:=(pT b||DU b)||xN b||b==95||(!(j==0)&&(b==46||b==45))
theorem LJ{l:List UInt8}{i:Nat}{b:UInt8}(hb:l[i]?=some b)(h:okT i b=false):tK l=false:=by
 cases ho:okB [95,46,45] true b with
 |false=>
  unfold tK;rw[DV ho (List.mem_of_getElem? hb)]
  rfl
 |true=>
  have h1:i=0∧(b=46∨b=45):=by
   unfold okB at ho;unfold okT at h
   have hc:([95,46,45]:List UInt8).contains b=(b==95||(b==46||b==45)):=by
    simp only[List.contains,List.elem];cases b==95<;>cases b==46<;>cases b==45<;>rfl
   rw[hc]at ho
   revert ho h
   cases pT b<;>cases DU b<;>cases xN b<;>cases hb1:b==95<;>cases hb2:b==46<;>cases hb3:b==45<;>cases hi:i==0<;>simp_all
  obtain⟨rfl,hx⟩:=h1;have hh:l.head?=some b:=by rw[←hb];cases l<;>rfl
  unfold tK;rw[hh];rcases hx with rfl|rfl
  ·rw[Bool.and_assoc];simp
  ·simp
theorem LK{l:List UInt8}(h:∀j b,l[j]?=some b→okT j b=true):tK l=!l.isEmpty:=by
 unfold tK
 have h1:l.all (okB [95,46,45] true)=true:=by
  rw[List.all_eq_true];intro b hb;obtain⟨j,hj⟩:=List.mem_iff_getElem?.1 hb;have h2:=h j b hj
  unfold okT at h2;unfold okB
  have hc:([95,46,45]:List UInt8).contains b=(b==95||(b==46||b==45)):=by
   simp only[List.contains,List.elem];cases b==95<;>cases b==46<;>cases b==45<;>rfl
  rw[hc]
  revert h2
  cases pT b<;>cases DU b<;>cases xN b<;>cases b==95<;>cases b==46<;>cases b==45<;>cases j==0<;>simp
 unfold ofM;rw[h1,Bool.true_and]
 cases l with
 |nil=>rfl
 |cons x r=>
  have h2:=h 0 x rfl
  have e1:(some x==some (46:UInt8))=false:=by
   rw[beq_eq_false_iff_ne];intro e;cases e
   revert h2;decide
  have e2:(some x==some (45:UInt8))=false:=by
   rw[beq_eq_false_iff_ne];intro e;cases e
   revert h2;decide
  rw[List.head?_cons,e1,e2]
  rfl
theorem EW(l cs:List UInt8):(Lib.trimLeftS l cs).length≤l.length:=by
 unfold Lib.trimLeftS;exact(List.dropWhile_sublist _).length_le
theorem Ki(l cs:List UInt8)(h:∀b,l.getLast?=some b→cs.contains b=false):Lib.trimRightS l cs=l:=by
 unfold Lib.trimRightS
 have h1:l.reverse.dropWhile (cs.contains ·)=l.reverse:=by
  cases hr:l.reverse with
  |nil=>rfl
  |cons b r=>
   have h2:l.getLast?=some b:=by rw[←List.head?_reverse,hr];rfl
   rw[List.dropWhile_cons,h b h2]
   rfl
 rw[h1,List.reverse_reverse]
theorem Kj(l cs:List UInt8)(h:∀b,l.head?=some b→cs.contains b=false):Lib.trimLeftS l cs=l:=by
 unfold Lib.trimLeftS
 cases l with
 |nil=>rfl
 |cons b r=>rw[List.dropWhile_cons,h b rfl];rfl
theorem EX{b:UInt8}{r cs:List UInt8}(h:cs.contains b=true):(Lib.trimLeftS (b::r) cs).length<(b::r).length:=by
 have h1:=EW r cs;unfold Lib.trimLeftS at h1⊢;rw[List.dropWhile_cons,if_pos h,List.length_cons];omega
theorem Kk{l:List UInt8}{b:UInt8}{cs:List UInt8}(hl:l.getLast?=some b)(h:cs.contains b=true):(Lib.trimRightS l cs).length<l.length:=by
 unfold Lib.trimRightS;rw[List.length_reverse]
 cases hr:l.reverse with
 |nil=>
  have:l=[]:=by simpa using hr
  subst this;cases hl
 |cons c r=>
  have h2:l.getLast?=some c:=by rw[←List.head?_reverse,hr];rfl
  rw[h2]at hl;cases hl;have h3:=EX (r:=r) h
  unfold Lib.trimLeftS at h3;rw[←hr]at h3⊢;rw[List.length_reverse]at h3;exact h3
theorem CV(l cs:List UInt8):(Lib.trimS l cs==l)=(!(l.head?.any cs.contains)&& !(l.getLast?.any cs.contains)):=by
 unfold Lib.trimS;by_cases h1:l.getLast?.any cs.contains=true
 ·obtain⟨b,hb,hc⟩:=Option.any_eq_true _ _|>.1 h1;have h2:=Kk hb hc
  have h3:=EW (Lib.trimRightS l cs) cs;rw[h1]
  have:(Lib.trimLeftS (Lib.trimRightS l cs) cs==l)=false:=by
   rw[beq_eq_false_iff_ne];intro e;have:=congrArg List.length e
   omega
  rw[this];simp
 ·have h1':l.getLast?.any cs.contains=false:=by simpa using h1
  rw[h1',Ki l cs (fun b hb=>by rw[hb]at h1';simpa using h1')]
  cases l with
  |nil=>rfl
  |cons b r=>
   cases hc:cs.contains b with
   |true=>
    have h2:=EX (r:=r) hc
    have:(Lib.trimLeftS (b::r) cs==b::r)=false:=by
     rw[beq_eq_false_iff_ne];intro e;have:=congrArg List.length e
     omega
    rw[this];have:(some b).any cs.contains=true:=hc
    rw[List.head?_cons,this]
    rfl
   |false=>
    rw[Kj _ _ (fun c hcc=>by cases hcc;exact hc)];have:(some b).any cs.contains=false:=hc
    rw[List.head?_cons,this];simp
def okP(n j:Nat)(b:UInt8):Bool:=pT b||xN b||(!(j==0)&& !(j+1==n)&&sepB.contains b)
theorem IP{l:List UInt8}{i:Nat}{b:UInt8}(hb:l[i]?=some b)(h:okP l.length i b=false):oP l=false:=by
 unfold oP
 cases ho:okB sepB false b with
 |false=>rw[DV ho (List.mem_of_getElem? hb)];rfl
 |true=>
  have hc:sepB.contains b=true∧(i=0∨i+1=l.length):=by
   unfold okB at ho;unfold okP at h
   revert ho h
   cases pT b<;>cases xN b<;>cases sepB.contains b<;>cases hi:i==0<;>cases hj:i+1==l.length<;>simp_all
  rw[CV];rcases hc.2 with rfl|hi
  ·have hh:l.head?=some b:=by rw[←hb];cases l<;>rfl
   rw[hh];have:(some b).any sepB.contains=true:=hc.1
   rw[this];simp
  ·have hh:l.getLast?=some b:=by rw[List.getLast?_eq_getElem?,←hi];exact hb
   rw[hh];have:(some b).any sepB.contains=true:=hc.1
   rw[this];simp
theorem IQ{l:List UInt8}(h:∀j b,l[j]?=some b→okP l.length j b=true):oP l=!l.isEmpty:=by
 unfold oP ofM
 have h1:l.all (okB sepB false)=true:=by
  rw[List.all_eq_true];intro b hb;obtain⟨j,hj⟩:=List.mem_iff_getElem?.1 hb;have h2:=h j b hj
  unfold okP at h2;unfold okB
  revert h2
  cases pT b<;>cases xN b<;>cases sepB.contains b<;>cases j==0<;>cases j+1==l.length<;>simp
 have hno:∀j b,(j=0∨j+1=l.length)→l[j]?=some b→sepB.contains b=false:=by
  intro j b hj hb;have h2:=h j b hb
  unfold okP at h2
  have hx:pT b=true∨xN b=true:=by
   revert h2
   rcases hj with rfl|hj
   ·cases pT b<;>cases xN b<;>simp
   ·rw[hj];cases pT b<;>cases xN b<;>simp
  have hn:b≠46∧b≠95∧b≠45:=by
   refine⟨?_,?_,?_⟩<;>(rintro rfl;revert hx;decide)
  unfold sepB;simp only[List.contains,List.elem,beq_eq_false_iff_ne.2 hn.1,beq_eq_false_iff_ne.2 hn.2.1,beq_eq_false_iff_ne.2 hn.2.2]
 rw[h1,CV,Bool.true_and]
 have e1:l.head?.any sepB.contains=false:=by
  cases hh:l.head? with
  |none=>rfl
  |some b=>exact hno 0 b (.inl rfl) (by rw[←hh];cases l<;>rfl)
 have e2:l.getLast?.any sepB.contains=false:=by
  cases hh:l.getLast? with
  |none=>rfl
  |some b=>
   refine hno (l.length-1) b ?_ (by rw[←hh,List.getLast?_eq_getElem?])
   cases l with
   |nil=>cases hh
   |cons x r=>exact .inr (by rw[List.length_cons];omega)
 rw[e1,e2];simp
open Go.RowKit
def pE(p:DM×Int)(f:DM→DM×Int):DM×Int:=if p.2=0 then f p.1 else p
theorem lN{p:DM×Int}{m:DM}(f:DM→DM×Int)(h:p=(m,0)):pE p f=f m:=by rw[h];rfl
theorem nU{p:DM×Int}{m:DM}{x:Int}(f:DM→DM×Int)(h:p=(m,x))(hx:x≠0):pE p f=(m,x):=by rw[h];exact if_neg hx
def refHead:List UInt8:=[114,101,102,115,47]
def handR:ByteArray:=⟨#[116,109,112,47,114,101,102]⟩
def nR(f:List UInt8):ByteArray:=⟨(refHead++f).toArray⟩
def nS(n:ByteArray):List UInt8:=if n.data.toList.take 5=refHead then n.data.toList.drop 5 else n.data.toList
def qP(n:ByteArray):Bool:=nO (nS n)==some (nS n)
def qF(m:DM):DM×Int:=pE (m.op (.remove handR)) fun m=>m.op .flush
def qQ(m:DM):DM×Int:=if(m.reads handR).2=0 then qF m else if(m.reads handR).2=10 then(m,0)else(m,(m.reads handR).2)
def pU(n:ByteArray)(p:DM×Int):DM×Int:=
 if p.2=0 then pE (p.1.op (.sync handR)) fun m=>pE (m.op (.rename handR n)) fun m=>m.op .flush
 else if p.2=28 then((qF p.1).1,28)else p
def qR(m:DM)(n t:ByteArray):DM×Int:=
 pE (qQ m) fun m=>pE (m.op (.create handR)) fun m=>pU n (m.op (.write handR t))
def DW(m:DM)(f:List UInt8):List UInt8×Int:=
 if(m.reads (nR f)).2≠0 then(zeroD,(m.reads (nR f)).2)else match nI (m.reads (nR f)).1 with
  |some d=>(d,0)
  |none=>(zeroD,30)
def xQ(m:DM)(n:ByteArray):DM×Int:=pE (m.op (.remove n)) fun m=>m.op .flush
def nL(m:DM):List ByteArray→Option (List (List UInt8×ByteArray))
 |[]=>some []
 |n::r=>if qP n then match nI (m.reads n).1,nL m r with
   |some _,some l=>some ((nS n,(m.reads n).1)::l)
   |_,_=>none
  else nL m r
def sB(m:DM):List (List UInt8×ByteArray)×Int:=
 if m.off then([],27)else match nL m (m.lists ⟨refHead.toArray⟩)with
  |some l=>(l,0)
  |none=>([],30)
def mN(m:DM)(n:ByteArray):Bool:=qP n&&(nI (m.reads n).1).isSome
def qG(m:DM):List ByteArray:=(if(m.reads handR).2=0 then [handR]else [])++(m.lists ⟨refHead.toArray⟩).filter fun n=>!mN m n
def oI:List ByteArray→DM→DM×Int
 |[],m=>(m,0)
 |n::r,m=>pE (m.op (.remove n)) (oI r)
def mX(m:DM):DM×Int:=
 if m.off then(m,27)else pE (oI (qG m) m) fun m'=>if qG m=[]then(m',0)else m'.op .flush
end Go.Proofs.YtdkedmngeahjiaaGreatDoor
