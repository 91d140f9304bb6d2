import Derived.Test.YtdkedmngeahjiaaGreatDoorM40
import Derived.Great.CaseRows
set_option maxRecDepth 100000
set_option maxHeartbeats 25600000
namespace Go.Proofs.YtdkedmngeahjiaaGreatDoor
open Go Go.RowKit
def opA(o:OpR)(kv:Value):Array Value:=(o.cells kv).toArray
def Bv(o:ActR)(kv:Value):Array Value:=(o.cells kv).toArray
theorem lL{α:Type}{l:List α}{n:Nat}(h:l.length=n+1):∃a r,l=a::r∧r.length=n:=by
 cases l with
 |nil=>cases h
 |cons a r=>exact⟨a,r,rfl,by rw[List.length_cons]at h;omega⟩
def z0:List UInt8:=List.replicate 32 0
section
variable (k z:Int) (s t:ByteArray) (p:Option Addr) (n c:Nat) (b:Bool)
theorem K0:Tryz.prog.built 53 [(0,.int .i64 k)]=some (opA ⟨k,⟨#[]⟩,z0,⟨#[]⟩,0,[]⟩ (.slice none 0 0)):=dJ
theorem K1:Tryz.prog.built 53 [(0,.int .i64 k),(1,.string s)]=some (opA ⟨k,s,z0,⟨#[]⟩,0,[]⟩ (.slice none 0 0)):=dJ
theorem IC:Tryz.prog.built 53 [(0,.int .i64 k),(1,.string s),(3,.string t)]=some (opA ⟨k,s,z0,t,0,[]⟩ (.slice none 0 0)):=dJ
theorem Ey(ks:List Int):Tryz.prog.built 53 [(0,.int .i64 k),(4,.int .i64 z),(5,.slice p n c)]=some (opA ⟨k,⟨#[]⟩,z0,⟨#[]⟩,z,ks⟩ (.slice p n c)):=dJ
theorem MS(ks:List Int):Tryz.prog.built 53 [(0,.int .i64 k),(5,.slice p n c)]=some (opA ⟨k,⟨#[]⟩,z0,⟨#[]⟩,0,ks⟩ (.slice p n c)):=dJ
theorem Jo(d0 d1 d2 d3 d4 d5 d6 d7 d8 d9 d10 d11 d12 d13 d14 d15 d16 d17 d18 d19 d20 d21 d22 d23 d24 d25 d26 d27 d28 d29 d30 d31:UInt8):Tryz.prog.built 53 [(0,.int .i64 k),(1,.string s),(2,.agg (List.map lG [d0,d1,d2,d3,d4,d5,d6,d7,d8,d9,d10,d11,d12,d13,d14,d15,d16,d17,d18,d19,d20,d21,d22,d23,d24,d25,d26,d27,d28,d29,d30,d31]).toArray)]=some (opA ⟨k,s,[d0,d1,d2,d3,d4,d5,d6,d7,d8,d9,d10,d11,d12,d13,d14,d15,d16,d17,d18,d19,d20,d21,d22,d23,d24,d25,d26,d27,d28,d29,d30,d31],⟨#[]⟩,0,[]⟩ (.slice none 0 0)):=dJ
theorem Jp(d0 d1 d2 d3 d4 d5 d6 d7 d8 d9 d10 d11 d12 d13 d14 d15 d16 d17 d18 d19 d20 d21 d22 d23 d24 d25 d26 d27 d28 d29 d30 d31:UInt8):Tryz.prog.built 59 [(0,.string s),(1,.agg (List.map lG [d0,d1,d2,d3,d4,d5,d6,d7,d8,d9,d10,d11,d12,d13,d14,d15,d16,d17,d18,d19,d20,d21,d22,d23,d24,d25,d26,d27,d28,d29,d30,d31]).toArray)]=some (Bv ⟨s,[d0,d1,d2,d3,d4,d5,d6,d7,d8,d9,d10,d11,d12,d13,d14,d15,d16,d17,d18,d19,d20,d21,d22,d23,d24,d25,d26,d27,d28,d29,d30,d31],false,0,[]⟩ (.slice none 0 0)):=dJ
theorem Jq(ks:List Int)(d0 d1 d2 d3 d4 d5 d6 d7 d8 d9 d10 d11 d12 d13 d14 d15 d16 d17 d18 d19 d20 d21 d22 d23 d24 d25 d26 d27 d28 d29 d30 d31:UInt8):Tryz.prog.built 59 [(0,.string s),(1,.agg (List.map lG [d0,d1,d2,d3,d4,d5,d6,d7,d8,d9,d10,d11,d12,d13,d14,d15,d16,d17,d18,d19,d20,d21,d22,d23,d24,d25,d26,d27,d28,d29,d30,d31]).toArray),(2,.bool b),(3,.int .i64 z),(4,.slice p n c)]=some (Bv ⟨s,[d0,d1,d2,d3,d4,d5,d6,d7,d8,d9,d10,d11,d12,d13,d14,d15,d16,d17,d18,d19,d20,d21,d22,d23,d24,d25,d26,d27,d28,d29,d30,d31],b,z,ks⟩ (.slice p n c)):=dJ
theorem Ez{D:List UInt8}(h:D.length=32):Tryz.prog.built 53 [(0,.int .i64 k),(1,.string s),(2,.agg (D.map lG).toArray)]=some (opA ⟨k,s,D,⟨#[]⟩,0,[]⟩ (.slice none 0 0)):=by
 obtain⟨d0,D0,rfl,h0⟩:=lL h;obtain⟨d1,D1,rfl,h1⟩:=lL h0;obtain⟨d2,D2,rfl,h2⟩:=lL h1;obtain⟨d3,D3,rfl,h3⟩:=lL h2;obtain⟨d4,D4,rfl,h4⟩:=lL h3;obtain⟨d5,D5,rfl,h5⟩:=lL h4;obtain⟨d6,D6,rfl,h6⟩:=lL h5;obtain⟨d7,D7,rfl,h7⟩:=lL h6;obtain⟨d8,D8,rfl,h8⟩:=lL h7;obtain⟨d9,D9,rfl,h9⟩:=lL h8;obtain⟨d10,D10,rfl,h10⟩:=lL h9;obtain⟨d11,D11,rfl,h11⟩:=lL h10;obtain⟨d12,D12,rfl,h12⟩:=lL h11;obtain⟨d13,D13,rfl,h13⟩:=lL h12;obtain⟨d14,D14,rfl,h14⟩:=lL h13;obtain⟨d15,D15,rfl,h15⟩:=lL h14;obtain⟨d16,D16,rfl,h16⟩:=lL h15;obtain⟨d17,D17,rfl,h17⟩:=lL h16;obtain⟨d18,D18,rfl,h18⟩:=lL h17;obtain⟨d19,D19,rfl,h19⟩:=lL h18;obtain⟨d20,D20,rfl,h20⟩:=lL h19;obtain⟨d21,D21,rfl,h21⟩:=lL h20;obtain⟨d22,D22,rfl,h22⟩:=lL h21;obtain⟨d23,D23,rfl,h23⟩:=lL h22;obtain⟨d24,D24,rfl,h24⟩:=lL h23;obtain⟨d25,D25,rfl,h25⟩:=lL h24;obtain⟨d26,D26,rfl,h26⟩:=lL h25;obtain⟨d27,D27,rfl,h27⟩:=lL h26;obtain⟨d28,D28,rfl,h28⟩:=lL h27;obtain⟨d29,D29,rfl,h29⟩:=lL h28;obtain⟨d30,D30,rfl,h30⟩:=lL h29;obtain⟨d31,D31,rfl,h31⟩:=lL h30;obtain rfl:=List.length_eq_zero_iff.1 h31;exact Jo k s d0 d1 d2 d3 d4 d5 d6 d7 d8 d9 d10 d11 d12 d13 d14 d15 d16 d17 d18 d19 d20 d21 d22 d23 d24 d25 d26 d27 d28 d29 d30 d31
theorem Md{D:List UInt8}(h:D.length=32):Tryz.prog.built 59 [(0,.string s),(1,.agg (D.map lG).toArray)]=some (Bv ⟨s,D,false,0,[]⟩ (.slice none 0 0)):=by
 obtain⟨d0,D0,rfl,h0⟩:=lL h;obtain⟨d1,D1,rfl,h1⟩:=lL h0;obtain⟨d2,D2,rfl,h2⟩:=lL h1;obtain⟨d3,D3,rfl,h3⟩:=lL h2;obtain⟨d4,D4,rfl,h4⟩:=lL h3;obtain⟨d5,D5,rfl,h5⟩:=lL h4;obtain⟨d6,D6,rfl,h6⟩:=lL h5;obtain⟨d7,D7,rfl,h7⟩:=lL h6;obtain⟨d8,D8,rfl,h8⟩:=lL h7;obtain⟨d9,D9,rfl,h9⟩:=lL h8;obtain⟨d10,D10,rfl,h10⟩:=lL h9;obtain⟨d11,D11,rfl,h11⟩:=lL h10;obtain⟨d12,D12,rfl,h12⟩:=lL h11;obtain⟨d13,D13,rfl,h13⟩:=lL h12;obtain⟨d14,D14,rfl,h14⟩:=lL h13;obtain⟨d15,D15,rfl,h15⟩:=lL h14;obtain⟨d16,D16,rfl,h16⟩:=lL h15;obtain⟨d17,D17,rfl,h17⟩:=lL h16;obtain⟨d18,D18,rfl,h18⟩:=lL h17;obtain⟨d19,D19,rfl,h19⟩:=lL h18;obtain⟨d20,D20,rfl,h20⟩:=lL h19;obtain⟨d21,D21,rfl,h21⟩:=lL h20;obtain⟨d22,D22,rfl,h22⟩:=lL h21;obtain⟨d23,D23,rfl,h23⟩:=lL h22;obtain⟨d24,D24,rfl,h24⟩:=lL h23;obtain⟨d25,D25,rfl,h25⟩:=lL h24;obtain⟨d26,D26,rfl,h26⟩:=lL h25;obtain⟨d27,D27,rfl,h27⟩:=lL h26;obtain⟨d28,D28,rfl,h28⟩:=lL h27;obtain⟨d29,D29,rfl,h29⟩:=lL h28;obtain⟨d30,D30,rfl,h30⟩:=lL h29;obtain⟨d31,D31,rfl,h31⟩:=lL h30;obtain rfl:=List.length_eq_zero_iff.1 h31;exact Jp s d0 d1 d2 d3 d4 d5 d6 d7 d8 d9 d10 d11 d12 d13 d14 d15 d16 d17 d18 d19 d20 d21 d22 d23 d24 d25 d26 d27 d28 d29 d30 d31
theorem Me(ks:List Int){D:List UInt8}(h:D.length=32):Tryz.prog.built 59 [(0,.string s),(1,.agg (D.map lG).toArray),(2,.bool b),(3,.int .i64 z),(4,.slice p n c)]=some (Bv ⟨s,D,b,z,ks⟩ (.slice p n c)):=by
 obtain⟨d0,D0,rfl,h0⟩:=lL h;obtain⟨d1,D1,rfl,h1⟩:=lL h0;obtain⟨d2,D2,rfl,h2⟩:=lL h1;obtain⟨d3,D3,rfl,h3⟩:=lL h2;obtain⟨d4,D4,rfl,h4⟩:=lL h3;obtain⟨d5,D5,rfl,h5⟩:=lL h4;obtain⟨d6,D6,rfl,h6⟩:=lL h5;obtain⟨d7,D7,rfl,h7⟩:=lL h6;obtain⟨d8,D8,rfl,h8⟩:=lL h7;obtain⟨d9,D9,rfl,h9⟩:=lL h8;obtain⟨d10,D10,rfl,h10⟩:=lL h9;obtain⟨d11,D11,rfl,h11⟩:=lL h10;obtain⟨d12,D12,rfl,h12⟩:=lL h11;obtain⟨d13,D13,rfl,h13⟩:=lL h12;obtain⟨d14,D14,rfl,h14⟩:=lL h13;obtain⟨d15,D15,rfl,h15⟩:=lL h14;obtain⟨d16,D16,rfl,h16⟩:=lL h15;obtain⟨d17,D17,rfl,h17⟩:=lL h16;obtain⟨d18,D18,rfl,h18⟩:=lL h17;obtain⟨d19,D19,rfl,h19⟩:=lL h18;obtain⟨d20,D20,rfl,h20⟩:=lL h19;obtain⟨d21,D21,rfl,h21⟩:=lL h20;obtain⟨d22,D22,rfl,h22⟩:=lL h21;obtain⟨d23,D23,rfl,h23⟩:=lL h22;obtain⟨d24,D24,rfl,h24⟩:=lL h23;obtain⟨d25,D25,rfl,h25⟩:=lL h24;obtain⟨d26,D26,rfl,h26⟩:=lL h25;obtain⟨d27,D27,rfl,h27⟩:=lL h26;obtain⟨d28,D28,rfl,h28⟩:=lL h27;obtain⟨d29,D29,rfl,h29⟩:=lL h28;obtain⟨d30,D30,rfl,h30⟩:=lL h29;obtain⟨d31,D31,rfl,h31⟩:=lL h30;obtain rfl:=List.length_eq_zero_iff.1 h31;exact Jq z s p n c b ks d0 d1 d2 d3 d4 d5 d6 d7 d8 d9 d10 d11 d12 d13 d14 d15 d16 d17 d18 d19 d20 d21 d22 d23 d24 d25 d26 d27 d28 d29 d30 d31
end
theorem Al{α:Type}{f:α→List Value}{s:Nat}:∀(l:List α),(∀x∈l,(f x).length=s)→∀(i j:Nat) (x:α),l[i]?=some x→j<s→(l.flatMap f)[i*s+j]?=(f x)[j]?
 |[],_,i,j,x,hx,_=>by cases hx
 |y::r,h,0,j,x,hx,hj=>by
  cases hx;rw[List.flatMap_cons,Nat.zero_mul,Nat.zero_add,List.getElem?_append_left (by rw[h y List.mem_cons_self];exact hj)]
 |y::r,h,i+1,j,x,hx,hj=>by
  have h1:=h y List.mem_cons_self;rw[List.flatMap_cons,List.getElem?_append_right (by rw[h1,Nat.add_mul];omega),h1,show(i+1)*s+j-s=i*s+j by rw[Nat.add_mul];omega];exact Al r (fun x hx=>h x (List.mem_cons_of_mem _ hx)) i j x hx hj
abbrev OpV:=OpR×Value
abbrev Mf:=ActR×Value
def sJ(l:List OpV):Array Value:=(l.flatMap fun p=>p.1.cells p.2).toArray
def Ch(l:List Mf):Array Value:=(l.flatMap fun p=>p.1.cells p.2).toArray
theorem Am{W:World}{g:Nat}{l:List OpV}(hg:W.heap[g]?=some (.cells (sJ l) 53 (0,0)))(h32:∀p∈l,p.1.dig.length=32)(hk:∀p∈l,IntsIn W p.2 p.1.keep)(c:Nat):
  MR W (.slice (some ⟨g,0,none⟩) (l.map (·.1)).length c) (l.map (·.1)):=by
 refine⟨_,_,rfl,fun i m hm=>?_⟩;rw[List.getElem?_map]at hm;obtain⟨p,hp,rfl⟩:=Option.map_eq_some_iff.1 hm;have hmem:=List.mem_of_getElem? hp
 refine⟨g,0,p.2,rfl,lH hg,fun j hj=>?_,hk p hmem⟩;rw[lF hg,Nat.zero_add];unfold sJ;rw[List.getElem?_toArray];exact Al l (fun x hx=>OpR.len (h32 x hx)) i j p hp hj
theorem K2{W:World}{g:Nat}{l:List Mf}(hg:W.heap[g]?=some (.cells (Ch l) 59 (0,0)))(h32:∀p∈l,p.1.dig.length=32)(hk:∀p∈l,IntsIn W p.2 p.1.keep)(c:Nat):
  Ky W (.slice (some ⟨g,0,none⟩) (l.map (·.1)).length c) (l.map (·.1)):=by
 refine⟨_,_,rfl,fun i m hm=>?_⟩;rw[List.getElem?_map]at hm;obtain⟨p,hp,rfl⟩:=Option.map_eq_some_iff.1 hm;have hmem:=List.mem_of_getElem? hp
 refine⟨g,0,p.2,rfl,lH hg,fun j hj=>?_,hk p hmem⟩;rw[lF hg,Nat.zero_add];unfold Ch;rw[List.getElem?_toArray];exact Al l (fun x hx=>ActR.len (h32 x hx)) i j p hp hj
theorem sK{W:World}{g:Nat}{ks:List Int}(o:Nat)(hg:W.heap[g]?=some (.cells (ks.map (Value.int .i64)).toArray 3 (0,0)))(hb:∀k∈ks,-9223372036854775808≤k∧k≤9223372036854775807)(c:Nat)(hc:ks.length-o≤c)(hc2:c≤maxLen):IntsIn W (.slice (some ⟨g,o,none⟩) (ks.drop o).length c) (ks.drop o):=by
 refine⟨_,_,rfl,⟨by rw[List.length_drop];exact hc,hc2⟩,fun j k hj=>?_⟩;rw[List.getElem?_drop]at hj;refine⟨hb k (List.mem_of_getElem? hj),g,o,rfl,?_,lH hg,.inl (fun x=>x)⟩;rw[lF hg,List.getElem?_toArray,List.getElem?_map,hj]
 rfl
section
variable {ops:Array Oper} {rest:List Oper} {o:Oper} {a:Act} {w:World} {Q:Exit→Act→World→Prop}
theorem sL(hg:o.guard=none)(l:List OpV)(h32:∀p∈l,p.1.dig.length=32)(hk:∀p∈l,p.2.oneCell'=true)(parts:Array (Nat×Operand))(n:Nat)(hn:l.length=n)(ho:o.op=.buildSlice 48 n parts)(ix:Nat→Nat)(hpos:0<n)(hsmall:n≤1000)
  (hparts:parts.toList=(List.range n).map fun i=>(i,Operand.tmp (ix i))) (hev:∀i (h:i<l.length),a.eval (.tmp (ix i))=.agg (opA (l[i]).1 (l[i]).2))
  (h:wpList Tryz.prog ops Q rest (a.put o.dst (.slice (some ⟨w.heap.size,0,none⟩) n n)) (w.alloc (.cells (sJ l) 53))):wpList Tryz.prog ops Q (o::rest) a w:=by
 subst hn;have hl:(l.map fun p=>Value.agg (opA p.1 p.2)).length=l.length:=List.length_map _
 refine Go.Great.wpList_buildRows hg 48 53 parts 37 (l.map fun p=>Value.agg (opA p.1 p.2)) (by rw[hl];exact ho) ix w.heap.size rfl o.dst rfl Tryz.underlying48 aE aE aA (by rw[hl];exact hpos) iV
  (by rw[hl];exact hparts) (fun v hv=>?_) (fun i hi=>?_) ?_
 ·obtain⟨p,hp,rfl⟩:=List.mem_map.1 hv;show(opA p.1 p.2).size=37
  unfold opA;rw[List.size_toArray];exact OpR.len (h32 p hp)
 ·rw[hev i (by rw[hl]at hi;exact hi),List.getElem_map]
 ·rw[hl]
  have e:((l.map fun p=>Value.agg (opA p.1 p.2)).flatMap fun v=>v.cells.toList).toArray=sJ l:=by
   unfold sJ;rw[List.flatMap_map]
   rfl
  rw[e];exact h
theorem FT(hg:o.guard=none)(l:List Mf)(h32:∀p∈l,p.1.dig.length=32)(hk:∀p∈l,p.2.oneCell'=true)(parts:Array (Nat×Operand))(n:Nat)(hn:l.length=n)(ho:o.op=.buildSlice 56 n parts)(ix:Nat→Nat)(hpos:0<n)(hsmall:n≤1000)
  (hparts:parts.toList=(List.range n).map fun i=>(i,Operand.tmp (ix i))) (hev:∀i (h:i<l.length),a.eval (.tmp (ix i))=.agg (Bv (l[i]).1 (l[i]).2))
  (h:wpList Tryz.prog ops Q rest (a.put o.dst (.slice (some ⟨w.heap.size,0,none⟩) n n)) (w.alloc (.cells (Ch l) 59))):wpList Tryz.prog ops Q (o::rest) a w:=by
 subst hn;have hl:(l.map fun p=>Value.agg (Bv p.1 p.2)).length=l.length:=List.length_map _
 refine Go.Great.wpList_buildRows hg 56 59 parts 36 (l.map fun p=>Value.agg (Bv p.1 p.2)) (by rw[hl];exact ho) ix w.heap.size rfl o.dst rfl Tryz.underlying56 aE aE aA (by rw[hl];exact hpos) iV
  (by rw[hl];exact hparts) (fun v hv=>?_) (fun i hi=>?_) ?_
 ·obtain⟨p,hp,rfl⟩:=List.mem_map.1 hv;show(Bv p.1 p.2).size=36
  unfold Bv;rw[List.size_toArray];exact ActR.len (h32 p hp)
 ·rw[hev i (by rw[hl]at hi;exact hi),List.getElem_map]
 ·rw[hl]
  have e:((l.map fun p=>Value.agg (Bv p.1 p.2)).flatMap fun v=>v.cells.toList).toArray=Ch l:=by
   unfold Ch;rw[List.flatMap_map]
   rfl
  rw[e];exact h
end
section
variable {ops:Array Oper} {rest:List Oper} {o:Oper} {a:Act} {w:World} {Q:Exit→Act→World→Prop}
theorem oH(hg:o.guard=none)(x0:Operand)(ho:o.op=.build 53 #[(0,x0)])(k:Int)(e0:a.eval x0=.int .i64 k)
  (h:wpList Tryz.prog ops Q rest (a.put o.dst (.agg (opA ⟨k,⟨#[]⟩,z0,⟨#[]⟩,0,[]⟩ (.slice none 0 0)))) w):wpList Tryz.prog ops Q (o::rest) a w:=
 wpList_buildTo hg _ _ ho o.dst rfl _ (by
  simp only[List.map_toArray,List.map_cons,List.map_nil,e0];exact K0 k) h
theorem mL(hg:o.guard=none)(x0 x1:Operand)(ho:o.op=.build 53 #[(0,x0),(1,x1)])(k:Int)(s:ByteArray)(e0:a.eval x0=.int .i64 k)(e1:a.eval x1=.string s)
  (h:wpList Tryz.prog ops Q rest (a.put o.dst (.agg (opA ⟨k,s,z0,⟨#[]⟩,0,[]⟩ (.slice none 0 0)))) w):wpList Tryz.prog ops Q (o::rest) a w:=
 wpList_buildTo hg _ _ ho o.dst rfl _ (by
  simp only[List.map_toArray,List.map_cons,List.map_nil,e0,e1];exact K1 k s) h
theorem zB(hg:o.guard=none)(x0 x1 x2:Operand)(ho:o.op=.build 53 #[(0,x0),(1,x1),(3,x2)])(k:Int)(s:ByteArray)(t:ByteArray)(e0:a.eval x0=.int .i64 k)(e1:a.eval x1=.string s)(e2:a.eval x2=.string t)
  (h:wpList Tryz.prog ops Q rest (a.put o.dst (.agg (opA ⟨k,s,z0,t,0,[]⟩ (.slice none 0 0)))) w):wpList Tryz.prog ops Q (o::rest) a w:=
 wpList_buildTo hg _ _ ho o.dst rfl _ (by
  simp only[List.map_toArray,List.map_cons,List.map_nil,e0,e1,e2];exact IC k s t) h
theorem vJ(hg:o.guard=none)(x0 x1 x2:Operand)(ho:o.op=.build 53 #[(0,x0),(1,x1),(2,x2)])(k:Int)(s:ByteArray)(D:List UInt8)(e0:a.eval x0=.int .i64 k)(e1:a.eval x1=.string s)(e2:a.eval x2=.agg (D.map lG).toArray)(hD:D.length=32)
  (h:wpList Tryz.prog ops Q rest (a.put o.dst (.agg (opA ⟨k,s,D,⟨#[]⟩,0,[]⟩ (.slice none 0 0)))) w):wpList Tryz.prog ops Q (o::rest) a w:=
 wpList_buildTo hg _ _ ho o.dst rfl _ (by
  simp only[List.map_toArray,List.map_cons,List.map_nil,e0,e1,e2];exact Ez k s hD) h
theorem zC(hg:o.guard=none)(x0 x1 x2:Operand)(ho:o.op=.build 53 #[(0,x0),(4,x1),(5,x2)])(k:Int)(z:Int)(ks:List Int)(p:Option Addr)(n c:Nat)(e0:a.eval x0=.int .i64 k)(e1:a.eval x1=.int .i64 z)(e2:a.eval x2=.slice p n c)
  (h:wpList Tryz.prog ops Q rest (a.put o.dst (.agg (opA ⟨k,⟨#[]⟩,z0,⟨#[]⟩,z,ks⟩ (.slice p n c)))) w):wpList Tryz.prog ops Q (o::rest) a w:=
 wpList_buildTo hg _ _ ho o.dst rfl _ (by
  simp only[List.map_toArray,List.map_cons,List.map_nil,e0,e1,e2];exact Ey k z p n c ks) h
theorem zD(hg:o.guard=none)(x0 x1:Operand)(ho:o.op=.build 59 #[(0,x0),(1,x1)])(s:ByteArray)(D:List UInt8)(e0:a.eval x0=.string s)(e1:a.eval x1=.agg (D.map lG).toArray)(hD:D.length=32)
  (h:wpList Tryz.prog ops Q rest (a.put o.dst (.agg (Bv ⟨s,D,false,0,[]⟩ (.slice none 0 0)))) w):wpList Tryz.prog ops Q (o::rest) a w:=
 wpList_buildTo hg _ _ ho o.dst rfl _ (by
  simp only[List.map_toArray,List.map_cons,List.map_nil,e0,e1];exact Md s hD) h
theorem Ci(hg:o.guard=none)(x0 x1 x2 x3 x4:Operand)(ho:o.op=.build 59 #[(0,x0),(1,x1),(2,x2),(3,x3),(4,x4)])(s:ByteArray)(D:List UInt8)(b:Bool)(z:Int)(ks:List Int)(p:Option Addr)(n c:Nat)(e0:a.eval x0=.string s)(e1:a.eval x1=.agg (D.map lG).toArray)(e2:a.eval x2=.bool b)(e3:a.eval x3=.int .i64 z)(e4:a.eval x4=.slice p n c)(hD:D.length=32)
  (h:wpList Tryz.prog ops Q rest (a.put o.dst (.agg (Bv ⟨s,D,b,z,ks⟩ (.slice p n c)))) w):wpList Tryz.prog ops Q (o::rest) a w:=
 wpList_buildTo hg _ _ ho o.dst rfl _ (by
  simp only[List.map_toArray,List.map_cons,List.map_nil,e0,e1,e2,e3,e4];exact Me z s p n c b ks hD) h
end
end Go.Proofs.YtdkedmngeahjiaaGreatDoor
