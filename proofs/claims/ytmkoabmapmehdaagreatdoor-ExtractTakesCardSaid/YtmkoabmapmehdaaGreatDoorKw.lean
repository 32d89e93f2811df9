/- What is proved here: parts of the proofs of this seat's statements (a verified evaluator for calls over pure values, its laws, and contracts of functions). No condition. -/
import Derived.Test.YtmkoabmapmehdaaGreatDoorKs
import Derived.Test.YtmkoabmapmehdaaGreatDoorKp
set_option linter.all false
open List renaming replicate→z00,eq_nil_of_length_eq_zero→z01,length_append→z05,getElem?_take→z06,length_replicate→z09,mem_of_mem_take→z10,length_take→z13
open Nat renaming mul_le_mul_right→z02,le_refl→z03,add_mul→z04,min_eq_left→z14,ne_of_gt→z15,zero_le→z17,mul_pos→z18
open Array renaming getElem?_eq_some_iff→z07,getElem?_toList→z08,length_toList→z11,ext'→z16
open Option renaming getD_none→z12
namespace Go.Ck
open Go.RowKit
section
variable {P : Program} (w : World)
theorem aqx{m:Nat}(h:m≤140737488355328):IntKind.i64.wrap (m:Int)=(m:Int):=by rw[IntKind.wrap_i64];omega
theorem zh(t tx ty e:TypeId)(k:IntKind)(i:TypeInfo)(z:Value)(ht:P.underlying t=some (.slice e))(hk:P.underlying tx=some (.int k))(hi:P.info? e=some i)(hz:i.zero=some z)(hsz:0<i.size)(base:Option Addr)(sLen sCap:Nat)(olds:List Value)
  (hold:(Builtin.firstCells i.size sLen (.slice base sLen sCap)).run P w.drew= .ok olds.toArray w.drew) (n:Nat) (hn0:0<n) (hn1:n≤140737488355328) (hby:n*i.bytes≤140737488355328)
  (hg:sCap<sLen+n) (h63:((sLen+n:Nat):Int)≤9223372036854775807) (hfit:Builtin.nextslicecap (sLen+n) sCap*i.bytes≤281474976710656):
  (Builtin.append_ #[t,tx] ty #[.slice base sLen sCap,.int .i64 (n:Int)]).run P w=
   .ok (.slice (some ⟨w.heap.size,0,none⟩) (sLen+n) (grownCap w (sLen+n) sCap e))
    (w.drew.alloc (.cells ((olds++(Builtin.zeroCells z.cells n).toList).toArray++Builtin.zeroCells z.cells (grownCap w (sLen+n) sCap e-(sLen+n))) e)):=by
 have hn:¬(sLen+n≤sCap):=by omega
 have h63':¬(9223372036854775807<((sLen:Int)+(n:Int))):=by omega
 have h48':¬(281474976710656<Builtin.nextslicecap (sLen+n) sCap*i.bytes):=by omega
 have h48:¬((281474976710656:Int)<(n:Int)*(i.bytes:Int)):=by
  have:(n:Int)*(i.bytes:Int)=((n*i.bytes:Nat):Int):=by simp
  omega
 have hneg:¬((n:Int)<0):=by omega
 have hm0:¬n*i.size=0:=z15 (z18 hn0 hsz);simp[Builtin.append_,run_underlying ht,run_underlying hk,sizeOf,typeInfo,zeroValue,hi,hz,hn,h63',h48',h48,hneg,aqx hn1,hm0,Question.forced,hold,newRow,grownCap,asInt,asIntOf]
 congr 2
 apply z16
 simp[List.append_assoc]
theorem zg(t tx ty e:TypeId)(k:IntKind)(i:TypeInfo)(z:Value)(ht:P.underlying t=some (.slice e))(hk:P.underlying tx=some (.int k))(hi:P.info? e=some i)(hz:i.zero=some z)(hzs:z.cells.size=i.size)(hsz:0<i.size)(b off sLen sCap:Nat)(n:Nat)(hn0:0<n)(hn1:n≤140737488355328)(hby:n*i.bytes≤140737488355328)
  (hroom:sLen+n≤sCap) (h1:∀u∈(Builtin.zeroCells z.cells n).toList,u.oneCell'=true) (hc:∀j,j<n*i.size→(w.cell? ⟨b,off+sLen*i.size+j,none⟩).isSome=true) (hf:∀j,j<n*i.size→w.frozen? ⟨b,off+sLen*i.size+j,none⟩=false):
  (Builtin.append_ #[t,tx] ty #[.slice (some ⟨b,off,none⟩) sLen sCap,.int .i64 (n:Int)]).run P w= .ok (.slice (some ⟨b,off,none⟩) (sLen+n) sCap) (w.setCells b (off+sLen*i.size) (Builtin.zeroCells z.cells n).toList):=by
 have hl:(Builtin.zeroCells z.cells n).toList.length=n*i.size:=by rw[z11,size_zeroCells,hzs]
 have hst:=run_storeCells_cells (P:=P) b (off+sLen*i.size) (Builtin.zeroCells z.cells n).toList 0 w (by simpa[hl]using hc) (by simpa[hl]using hf) h1
 simp only[Nat.add_zero]at hst;have h48:¬((281474976710656:Int)<(n:Int)*(i.bytes:Int)):=by
  have:(n:Int)*(i.bytes:Int)=((n*i.bytes:Nat):Int):=by simp
  omega
 have hneg:¬((n:Int)<0):=by omega
 have hm0:¬n*i.size=0:=z15 (z18 hn0 hsz);simp[Builtin.append_,run_underlying ht,run_underlying hk,sizeOf,typeInfo,zeroValue,hi,hz,h48,hneg,aqx hn1,hm0,hroom,asInt,asIntOf,Addr.add_lit,hst]
theorem pw(t tx ty e:TypeId)(k:IntKind)(i:TypeInfo)(ht:P.underlying t=some (.slice e))(hk:P.underlying tx=some (.int k))(hi:P.info? e=some i)(base:Option Addr)(sLen sCap:Nat)(hle:sLen≤sCap):
  (Builtin.append_ #[t,tx] ty #[.slice base sLen sCap,.int .i64 0]).run P w= .ok (.slice base sLen sCap) w:=by
 cases base<;>simp[Builtin.append_,run_underlying ht,run_underlying hk,sizeOf,typeInfo,hi,asInt,asIntOf,hle,IntKind.wrap_i64,storeCells]
theorem An(base:Nat)(t tx ty e:TypeId)(i:TypeInfo)(z:Value)(ht:P.underlying t=some (.slice e))(hi:P.info? e=some i)(hz:i.zero=some z)
  (hzs:z.cells.size=i.size)
  (v:Value) (n:Nat) (xs:List Value) (hown:w.ownsRow base e i.size v n xs) (k:IntKind) (hk:P.underlying tx=some (.int k)) (hsz:0<i.size) (m:Nat) (news:List Value) (hnews:news=(Builtin.zeroCells z.cells m).toList) (hone:∀u∈news,u.oneCell'=true)
  (h63:n+m≤maxLen) (hbytes:(n+m)*i.bytes≤140737488355328) (hbase:base≤w.heap.size) (hmr:m≤140737488355328) (hmb:m*i.bytes≤140737488355328):
  ∃v' w',(Builtin.append_ #[t,tx] ty #[v,.int .i64 (m:Int)]).run P w= .ok v' w'∧w'.ownsRow base e i.size v' (n+m) (xs++news)∧w.grownBy w' v.ownBlock∧
   (v'.ownBlock=v.ownBlock∨v'.ownBlock=some w.heap.size):=by
 have hsmall:n+m≤9223372036854775807:=by simp only[maxLen]at h63;omega
 have hnl:news.length=m*i.size:=by rw[hnews,z11,size_zeroCells,hzs]
 have hlen:(xs++news).length=(n+m)*i.size:=by rw[z05,hown.1,hnl,z04]
 have grow:∀(bs:Option Addr) (sc:Nat),v= .slice bs n sc→sc<n+m→0<m→
   (Builtin.firstCells i.size n (.slice bs n sc)).run P w.drew= .ok xs.toArray w.drew→
   ∃v' w',(Builtin.append_ #[t,tx] ty #[v,.int .i64 (m:Int)]).run P w= .ok v' w'∧w'.ownsRow base e i.size v' (n+m) (xs++news)∧w.grownBy w' v.ownBlock∧
    (v'.ownBlock=v.ownBlock∨v'.ownBlock=some w.heap.size):=by
  rintro bs sc rfl hg hm0 hold;have hrun:=zh (P:=P) w t tx ty e k i z ht hk hi hz hsz bs n sc xs hold m hm0 hmr hmb hg (by omega) (growslice_fits hg hbytes)
  rw[←hnews]at hrun;have hge:=grownCap_ge w (n+m) sc e;have hcm:=grownCap_le_maxLen w (n+m) sc e h63;refine⟨_,_,hrun,⟨hlen,.inr ⟨w.heap.size,_,_,rfl,hbase,heap_alloc_new w.drew _,hge,hcm, ?_, ?_⟩⟩,⟨rfl,rfl,rfl,by simp,fun k hk _=>heap_alloc_old w.drew _ hk⟩,.inr rfl⟩
  ·rw[Array.size_append,List.size_toArray,hlen,size_zeroCells,hzs,←z04]
   congr 1
   omega
  ·simp only[Array.toList_append];rw[←hlen];exact List.take_left
 rcases hown.2 with⟨rfl,rfl⟩|⟨g,cap,cur,rfl,hbg,hg,hnc,hcm,hcs,htake⟩
 ·have hx:xs=[]:=z01 (by simpa using hown.1)
  subst hx;by_cases hm:m=0
  ·subst hm;have hn:news=[]:=z01 (by simpa using hnl)
   subst hn;exact⟨_,_,pw (P:=P) w t tx ty e k i ht hk hi none 0 0 (z03 _),World.ownsRow_nil w base e i.size,⟨rfl,rfl,rfl,z03 _,fun _ _ _=>rfl⟩,.inl rfl⟩
  ·exact grow none 0 rfl (by omega) (by omega) (run_firstCells_none w.drew i.size 0 0 0)
 ·by_cases hm0:m=0
  ·subst hm0;have hn:news=[]:=z01 (by simpa using hnl)
   subst hn;exact⟨_,_,pw (P:=P) w t tx ty e k i ht hk hi (some ⟨g,0,none⟩) n cap hnc,by rw[List.append_nil];exact hown,⟨rfl,rfl,rfl,z03 _,fun _ _ _=>rfl⟩,.inl rfl⟩
  by_cases hroom:n+m≤cap
  ·have hfit:n*i.size+news.length≤cur.size:=by rw[hnl,hcs,←z04];exact z02 _ hroom
   obtain⟨cur',h1,h2,h3⟩:=oz g news (n*i.size) w cur e (0,0) hg;have hr:=zg (P:=P) w t tx ty e k i z ht hk hi hz hzs hsz g 0 n cap m (by omega) hmr hmb hroom (by rw[←hnews];exact hone)
    (fun j hj=>by rw[←hnl]at hj;simp[World.cell?,hg];omega) (fun j hj=>by simp[World.frozen?,hg])
   rw[←hnews]at hr;refine⟨_,_,hr,⟨hlen,.inr ⟨g,cap,cur',rfl,hbg,by rw[Nat.zero_add];exact h1,hroom,hcm,by rw[h2,hcs], ?_⟩⟩,⟨?_, ?_, ?_, ?_,fun k hk hne=> ?_⟩,.inl rfl⟩
   ·apply List.ext_getElem?
    intro j;rw[z06];by_cases hj:j<(n+m)*i.size
    ·rw[if_pos hj,z08,h3 j (by rw[z04]at hj;omega)]
     by_cases hjn:j<n*i.size
     ·rw[if_neg (by omega),List.getElem?_append_left (by rw[hown.1];exact hjn),←htake,z06,if_pos hjn,z08]
     ·rw[if_pos (by rw[z04]at hj;omega),List.getElem?_append_right (by rw[hown.1];omega),hown.1]
    ·rw[if_neg hj,List.getElem?_eq_none (by rw[hlen];omega)]
   ·exact World.os_setCells _ _ _ _
   ·have:∀(vs:List Value) (o:Nat) (w:World),(w.setCells g o vs).tape=w.tape:=by
     intro vs
     induction vs with
     |nil=>intro o w;rfl
     |cons v r ih=>intro o w;rw[World.setCells,ih];rfl
    exact this _ _ _
   ·exact World.output_setCells _ _ _ _
   ·have:∀(vs:List Value) (o:Nat) (w:World),(w.setCells g o vs).heap.size=w.heap.size:=by
     intro vs
     induction vs with
     |nil=>intro o w;rfl
     |cons v r ih=>intro o w;rw[World.setCells,ih];simp
    exact Nat.le_of_eq (this _ _ _).symm
   ·exact World.heap_setCells_other w g _ news hk (fun he=>hne (by simp[Value.ownBlock,he]))
  ·have holds:∀j u,xs[j]?=some u→w.drew.cell? ((⟨g,0,none⟩:Addr).add j)=some u:=by
    simpa using hown.cells (g:=g) rfl
   exact grow (some ⟨g,0,none⟩) cap rfl (by omega) (by omega) (run_firstCells_some w.drew i.size n ⟨g,0,none⟩ n cap xs hown.1 holds)
end
section
variable {P : Program} {O0 : Base} {F : Nat → Prop} {w0 w : World} {s : St} {E : Env} {tmps : Array Value}
theorem Rel.appendZ(h:Rel P O0 w0 F s E tmps w){vx:Value}{e:TypeId}{xs:List PV}{n:Nat}{zp:PV}{k:IntKind}(d:Nat)(t tx ty:TypeId)(ht:P.underlying t=some (.slice e))(hk:P.underlying tx=some (.int k))(hzp:ax P e=some zp)(hez:P.cellsOf e≠0)
  (ho:ki P (fun b=>E.om b∨F b) w e vx xs) (hb:∀b,vx.ownBlock=some b→E.om b∧jm s E b)
  (h1:(xs.length+n)*P.bytesOf e≤aw) (h2:xs.length+n≤aw):
  ∃v' w' E',(Builtin.append_ #[t,tx] ty #[vx,.int .i64 (n:Int)]).run P w= .ok v' w'∧Rel P O0 w0 F (put d (.own e (xs++z00 n zp)) s) E' (tmps.setIfInBounds d v') w':=by
 obtain⟨i,z,hi,hiz,hzs,hzro,hzl⟩:=nz (P:=P) (w:=w) (A:=fun b=>E.om b∨F b) hzp
 have hsz:P.cellsOf e=i.size:=by simp[Program.cellsOf,hi]
 have hzc:Builtin.zeroCells z.cells n=madeCells z.cells (n*i.size):=by unfold Builtin.zeroCells madeCells;rw[hzs]
 have hn:iu (fun b=>E.om b∨F b) w (da (z00 n zp)) (Builtin.zeroCells z.cells n).toList:=by
  rw[hzc,←hzl];exact I3 hzro n
 have hy:∀c∈z00 n zp,c.cells.length=P.cellsOf e:=fun c hc=>by rw[List.eq_of_mem_replicate hc,hzl,hsz]
 generalize hnews:(Builtin.zeroCells z.cells n).toList=news at*;have hby:P.bytesOf e=i.bytes:=by simp[Program.bytesOf,hi]
 obtain⟨cs,c1,c2,c3,c4⟩:=ho;rw[hsz]at c1 hez;rw[hby]at h1;have h63:xs.length+n≤maxLen:=by unfold aw at h2;simp only[maxLen];omega
 obtain⟨v',w',hr,hown,hg,hblk⟩:=An (P:=P) w 0 t tx ty e i z ht hi hiz hzs vx xs.length cs c1 k hk (by omega) n news hnews.symm hn.oneCell h63 h1 (z17 _) (by unfold aw at h2;omega) (Nat.le_trans (z02 _ (by omega)) h1)
 have hgr:=xt hg;have hA:∀b,b<w.heap.size→¬(E.om b∨F b)→¬((E.om b∨w.heap.size≤b∧b<w'.heap.size)∨F b)∧w'.heap[b]?=w.heap[b]?:=by
  intro b hb' hn';refine⟨?_,hgr.block b hb' (fun he=>hn' (.inl (hb b he).1))⟩
  rintro((h3|h3)|h3)
  ·exact hn' (.inl h3)
  ·omega
  ·exact hn' (.inr h3)
 have fin:∃E',Rel P O0 w0 F (put d (.own e (xs++z00 n zp)) s) E' (tmps.setIfInBounds d v') w':= ?_
 ·obtain⟨E',hE⟩:=fin;exact⟨v',w',E',hr,hE⟩
 refine h.newOwn hgr (fun b hb'=>hb b hb') (e:=e) (xs:=xs++z00 n zp) (x:=v') d ?_ ?_
 ·refine⟨cs++news, ?_, ?_, ?_,by rw[z05,z09];exact h63⟩
  ·rw[z05,z09,hsz];exact hown
  ·rw[po];exact(c2.mono hA).append (hn.mono hA)
  ·intro c hc;rcases List.mem_append.1 hc with hc|hc
   ·exact c3 c hc
   ·exact hy c hc
 ·intro b hb';rcases hblk with h3|h3
  ·exact .inl (hb b (by rw[←h3];exact hb'))
  ·rw[h3]at hb';cases hb'
   right
   refine⟨z03 _, ?_⟩;rcases hown.2 with⟨e1,_⟩|⟨g,cap,cur,e1,_,hgb,_⟩
   ·rw[e1]at h3;simp[Value.ownBlock]at h3
   ·rw[e1]at h3;simp[Value.ownBlock]at h3;rw[←h3];exact(z07.1 hgb).1
end
section
variable {P : Program} {R : Option Nat} {Φ : Exit → Cx → St → Prop} {k : List It} {C : Cx} {s : St}
theorem AW.appendZ{all:Array Oper}{o:Oper}{r:List Oper}{d t tx e ez eb n:Nat}{ea:Bool}{kk:IntKind}{c:Call}{x y:Operand}{p:Place}{xs:List PV}{zp:PV}(hx:ev s x=some (.al p))(hp:s.at p=some (.own e xs))(hy:ev s y=some (.pv (.int .i64 (n:Int))))(hT:tk P t= .sl e ez eb ea)(htx:tk P tx= .int kk)(hzp:ax P e=some zp)(hez:ez≠0)
  (hr1:(xs.length+n)*eb≤aw) (hr2:xs.length+n≤aw)
  (hk:AW P R Φ .normal (.ops all r::k) C (put d (.own e (xs++z00 n zp)) (xy p s))) (hg:o.guard=none:=by rfl) (hd:o.dst=some d:=by rfl) (ho:o.op= .call c:=by rfl) (hc:c.callee= .builtin .append:=by rfl) (hca:c.args= #[x,y]:=by rfl) (hct:c.argTypes= #[t,tx]:=by rfl):AW P R Φ .normal (.ops all (o::r)::k) C s:=fun B a w ha=>by
 simp only[mz];refine cb (by simp[Region.wanted,hg]) (fun c hc=>by rw[ho]at hc;cases hc) ?_
 obtain⟨hdf,E,h⟩:=ha;obtain⟨hu,hce,hbe⟩:=p9 hT;have e1:=cq h hx;have e2:=(lu h hy).int_eq;generalize hxe:a.eval x=v1 at e1;cases e1 with|al=> ?_
 obtain⟨_,t2,t3,t4⟩:=h.take hp;obtain⟨v',w',E',hrun,hE⟩:=t4.appendZ d t tx o.type hu (r5 htx) hzp (by rw[hce];exact hez) t2 t3 (n:=n) (by rw[hbe];exact hr1) hr2
 have hrunO:(execOp a.eval o).run P w= .ok (.value v') w':=by
  have hal:c.args.map a.eval= #[a.eval x,a.eval y]:=by rw[hca];simp
  simp[execOp,ho,resolve,hc,invoke,builtin,hal,hxe,e2,hct,hrun]
 rw[hrunO,Oper.uponIn_value,hd];exact hk B _ _ ⟨by rw[cz];exact hdf,E',hE⟩
end
end Go.Ck
namespace Go.Ck
open Go.RowKit
section
variable {P : Program} {R : Option Nat} {Φ : Exit → Cx → St → Prop} {k : List It} {C : Cx} {s : St}
theorem aal{all:Array Oper}{o:Oper}{r:List Oper}{d t e ez eb m:Nat}{ea:Bool}{x:Operand}{p:Place}{xs:List PV}{hi:Option Operand}{vh:Option SV}{m2:Option Int}(hx:ev s x=some (.al p))(hp:s.at p=some (.own e xs))(hhi:evo s hi=some vh)(h2:oc vh=some m2)(eh:m2.getD (xs.length:Int)=(m:Int))(hm:m≤xs.length)(hT:tk P t= .sl e ez eb ea)(hez:ez≠0)
  (hk:AW P R Φ .normal (.ops all r::k) C (put d (.own e (xs.take m)) (xy p s))) (hg:o.guard=none:=by rfl) (hd:o.dst=some d:=by rfl) (ho:o.op= .slice t x none hi none:=by rfl):AW P R Φ .normal (.ops all (o::r)::k) C s:=fun B a w ha=>by
 simp only[mz];refine cb (by simp[Region.wanted,hg]) (fun c hc=>by rw[ho]at hc;cases hc) ?_
 obtain⟨hdf,E,h⟩:=ha;obtain⟨hu,hce,hbe⟩:=p9 hT;have e1:=cq h hx;generalize hxe:a.eval x=v1 at e1;cases e1 with|al=> ?_
 obtain⟨_,t2,t3,t4⟩:=h.take hp;obtain⟨inf,hinf,hsz⟩:=fy (P:=P) (t:=e) (by omega)
 obtain⟨cs,⟨hcl,hrow⟩,hro,hz,hml⟩:=t2;have hh':=nu h2 (u1 h hhi);have key:∃v',(Instr.sliceAt t (E.hdr p) none (hi.map a.eval) none).run P w= .ok v' w∧ki P (fun b=>(E.om b∨w.heap.size≤b∧b<w.heap.size)∨B.F b) w e v' (xs.take m)∧∀b,v'.ownBlock=some b→(E.hdr p).ownBlock=some b:=by
  have hlen:(xs.take m).length=m:=by simp;omega
  have hro':iu (fun b=>(E.om b∨w.heap.size≤b∧b<w.heap.size)∨B.F b) w (da (xs.take m)) (cs.take (m*P.cellsOf e)):=by
   rw[ol hz];refine(hro.mono (fun b hb hn=>⟨?_,rfl⟩)).take _
   rintro((h3|h3)|h3)
   ·exact hn (.inl h3)
   ·omega
   ·exact hn (.inr h3)
  have hz':∀x∈xs.take m,x.cells.length=P.cellsOf e:=fun x hx=>hz x (z10 hx)
  have hcl':(cs.take (m*P.cellsOf e)).length=(xs.take m).length*P.cellsOf e:=by
   rw[hlen,z13,hcl];exact z14 (z02 _ hm)
  rcases hrow with⟨hv,h0⟩|⟨g,cap,cur,hv,hbg,hg1,hle,hmx,hcs,htk⟩
  ·have hm0:m=0:=by omega
   subst hm0;have hb:=j9 (P:=P) (w:=w) true 0 0 none m2 none (hi.map a.eval) (by simp[IVo]) hh' (by rw[h0]at eh;simp only[z12];rw[show((0:Nat):Int)=0 from rfl]at eh⊢;omega) (z03 _)
   have hz0:(0:Int).toNat=0:=rfl;rw[h0]at eh;rw[eh]at hb;refine⟨.slice none 0 0, ?_,⟨_,⟨hcl',.inl ⟨rfl,hlen⟩⟩,hro',hz',by omega⟩,fun b hb=>by simp[Value.ownBlock]at hb⟩
   rw[hv];simp[Instr.sliceAt,Instr.slice,run_underlying hu,hb,run_sizeOf w hinf]
  ·have hb:=j9 (P:=P) (w:=w) true xs.length cap none m2 none (hi.map a.eval) (by simp[IVo]) hh' (by rw[eh];simp only[z12];omega) hle
   rw[eh]at hb;refine⟨.slice (some ⟨g,0,none⟩) m cap, ?_,⟨_,⟨hcl',.inr ⟨g,cap,cur,by rw[hlen],by omega,hg1,by omega,hmx,hcs, ?_⟩⟩,hro',hz',by omega⟩,fun b hb=>by rw[hv];exact hb⟩
   ·rw[hv];simp[Instr.sliceAt,Instr.slice,run_underlying hu,hb,run_sizeOf w hinf];intro _;rfl
   ·rw[hlen,←htk,List.take_take]
    congr 1
    exact(z14 (z02 _ hm)).symm
 obtain⟨v',hrun,hown,hblk⟩:=key;obtain⟨E',hE⟩:=t4.newOwn (nc (fun _=>False) w) (fun b hb=>hb.elim) (e:=e) (xs:=xs.take m) (x:=v') d hown (fun b hb=> .inl (t3 b (hblk b hb)))
 have hrunO:(execOp a.eval o).run P w= .ok (.value v') w:=by
  simp[execOp,ho,hxe,hrun]
 rw[hrunO,Oper.uponIn_value,hd];exact hk B _ _ ⟨by rw[cz];exact hdf,E',hE⟩
theorem Nx{all:Array Oper}{o:Oper}{r:List Oper}{d t e ez eb:Nat}{ea:Bool}{c:Call}{x:Operand}(hx:ev s x=some .nils)(hT:tk P t= .sl e ez eb ea)
  (hk:AW P R Φ .normal (.ops all r::k) C (put d (.pv (.int .i64 0)) s)) (hg:o.guard=none:=by rfl) (hd:o.dst=some d:=by rfl) (ho:o.op= .call c:=by rfl) (hc:c.callee= .builtin .cap:=by rfl) (hca:c.args= #[x]:=by rfl) (hct:c.argTypes= #[t]:=by rfl):AW P R Φ .normal (.ops all (o::r)::k) C s:=by
 refine oy hg hd (fun c' hc'=>by rw[ho]at hc';cases hc') ⟨rfl,by simp[SV.on],fun o hpt=>by simp[SV.pts]at hpt⟩ (fun B E a w _ hE=> ?_) hk
 have hp:=cq hE hx;generalize hxe:a.eval x=v1 at hp;obtain⟨hu,_⟩:=p9 hT;cases hp
 ·
  refine⟨.int .i64 0, ?_,.pv _ _ (.int _ _)⟩;simp[execOp,ho,resolve,hc,invoke,builtin,hca,hxe,hct,Builtin.cap_,run_underlying hu];rfl
theorem aex{all:Array Oper}{o:Oper}{r:List Oper}{d g q:Nat}{x:Operand}(hx:ev s x=some (.ptr q 0))(ho':∃y,aj q s.hp=some y)
  (hk:AW P R Φ .normal (.ops all r::k) C (put d (.bm g q) s)) (hg:o.guard=none:=by rfl) (hd:o.dst=some d:=by rfl) (ho:o.op= .makeFunc (.func g) #[x] #[]:=by rfl):AW P R Φ .normal (.ops all (o::r)::k) C s:=by
 refine oy hg hd (fun c hc=>by rw[ho]at hc;cases hc) ⟨rfl,by simp[SV.on],fun o hpt=> ?_⟩ (fun B E a w _ hE=> ?_) hk
 ·have:q=o:=by simpa[SV.pts]using hpt
  subst this;exact ho'
 ·have hp:=cq hE hx;generalize hxe:a.eval x=v1 at hp;cases hp
  refine⟨.func (.func g) #[.pointer (some ⟨E.obj q,0,none⟩)] #[], ?_,.bm _ _⟩;simp[execOp,ho,hxe,Instr.makeFunc]
theorem aes{A:Nat→Prop}{E:Env}{w:World}{f:FuncId}{q:Nat}{x:Value}(h:RS P A E w (.bm f q) x):
  x= .func (.func f) #[.pointer (some ⟨E.obj q,0,none⟩)] #[]:=by
 cases h;rfl
theorem akl{all:Array Oper}{o:Oper}{r:List Oper}{c:Call}{fx:Operand}{f:FuncId}{q:Nat}{svs:List SV}(ρ:Nat→Nat){H H':List (Nat×HO)}{args rs:List SV}{L:List Place}{m:Option Place}{d:Nat}{s':St}
  (hF:Fn P f H args (fun rs' h=>rs'=rs∧h=H')) (hp:Pass P s ρ (.ptr q 0::svs) args L m) (hk:AW P R Φ .normal (.ops all r::k) C s')
  (hg:o.guard=none:=by rfl) (ho:o.op= .call c:=by rfl) (hd:o.dst=some d:=by rfl) (hc:c.callee= .value fx:=by rfl) (hf:ev s fx=some (.bm f q):=by rfl) (hx:evs s c.args.toList=some svs:=by simp only[go_sem,↓reduceIte]<;>rfl)
  (hM:HM s ρ H:=by simp only[go_sem,↓reduceIte]) (hB:Hc ρ H args L m=true:=by simp only[go_sem,↓reduceIte])
  (hA:okA s ρ H L rs H'=true:=by simp only[go_sem,↓reduceIte]) (hs:sf s ρ m H d rs H'=s':=by simp only[go_sem,↓reduceIte]<;>rfl):
  AW P R Φ .normal (.ops all (o::r)::k) C s:=fun B a w ha=>by
 have hok:CallOK s ρ H args L m:= .ofB hM hB;have hkk:∀rs' H1,(rs'=rs∧H1=H')→rs'.all yc=true∧(bk H1).Nodup∧(∀o∈bk H1,∀o'∈bk H1,ρ o=ρ o'→o=o')∧(∀o∈bk H1,aj o H=none→aj (ρ o) s.hp=none)∧(L=[]∨(rs'.all SV.clo=true∧H1.all (fun y=>y.2.clo)=true))∧
   AW P R Φ .normal (.ops all r::k) C (lh ρ d rs' ⟨s.n,(b6 s ρ m H).sl,o9 ρ H1 (b6 s ρ m H).hp⟩):=by
  rintro _ _ ⟨rfl,rfl⟩;have h1:=hA;simp only[okA,Bool.and_eq_true,Bool.or_eq_true]at h1;obtain⟨⟨⟨a1,a2⟩,a3⟩,a4⟩:=h1;obtain⟨b1,b2⟩:=ko a2;refine⟨a1,b1,b2,kw a3,a4.imp (fun h=> ?_) (fun h=>h), ?_⟩
  ·cases L with
   |nil=>rfl
   |cons p r=>cases h
  ·have h2:sf s ρ m H d _ _=s':=hs;unfold sf at h2;rw[h2];exact hk
 simp only[mz];refine cb (by simp[Region.wanted,hg]) (fun c' hc'=>by rw[ho]at hc';cases hc') ?_
 obtain⟨fn,hfn,hname,hbody⟩:=hF.1;obtain⟨hdf,E,h⟩:=ha;have e1:=aes (cq h hf);obtain⟨h1,h2⟩:=lf h hx;have hrun:(execOp a.eval o).run P w= .ok (.enter f (.pointer (some ⟨E.obj q,0,none⟩)::c.args.toList.map a.eval).toArray) w:=by
  have hargs: #[Value.pointer (some ⟨E.obj q,0,none⟩)]++c.args.map a.eval=(Value.pointer (some ⟨E.obj q,0,none⟩)::c.args.toList.map a.eval).toArray:=by apply z16;simp
  have hbody':∃b,fn.body=some b:=by cases hb:fn.body with|none=>simp[hb]at hbody|some b=>exact⟨b,rfl⟩
  obtain⟨b,hb⟩:=hbody';have hname':¬fn.name= "runtime.NumGoroutine" :=by simpa using hname
  simp[execOp,ho,resolve,hc,e1,Deferred.ofValue,invoke,callFunc,hfn,hname',hb,hargs]
 rw[hrun,Oper.uponIn_enter];refine⟨fun h=>by simp[eg,Fence.wide]at h,kd ?_⟩
 have hcs:=Kg h (v8 hdf.2.2 h) (ρ:=ρ) (H:=H) (svs:= .ptr q 0::svs) (args:=args) (L:=L) (m:=m) (vals:= .pointer (some ⟨E.obj q,0,none⟩)::c.args.toList.map a.eval) (f:=f) (d:=d) (by simp[h1]) (fun i v x hi hxi=>by
   cases i with
   |zero=>
    simp at hi hxi;subst hi;subst hxi
    exact .ptr q 0
   |succ i=>
    simp only[List.getElem?_cons_succ]at hi hxi;rw[List.getElem?_map,Option.map_eq_some_iff]at hxi;obtain⟨x0,hx0,rfl⟩:=hxi;exact cq h (h2 i x0 v hx0 hi)) hp hok hF (K:=fun s'=>AW P R Φ .normal (.ops all r::k) C s') hkk
 refine hcs.mono (fun e w' he=> ?_)
 cases e with
 |panicked ch=>exact he.elim
 |outgrown=>exact he.elim
 |returned v=>
  obtain⟨s',hs',E',hE'⟩:=he;refine hs' B _ w' ⟨by rw[cz];exact hdf,E', ?_⟩
  rw[hd];exact hE'
end
end Go.Ck
namespace Go.Ck
open Go.RowKit
section
variable {P : Program} {R : Option Nat} {Φ : Exit → Cx → St → Prop} {k : List It} {C : Cx} {s : St}
theorem zf{w:World}{k:IntKind}{m y:Nat}{c:BoundsCode}(h:m≤y):(Instr.sliceBound (.int k (m:Int)) y c).run P w= .ok m w:=by
 have:(m:Int)≤(y:Int):=by omega
 simp[Instr.sliceBound,asIntOf,this]
theorem aeu{all:Array Oper}{o:Oper}{r:List Oper}{d t e z eb m:Nat}{ea:Bool}{x hi mx:Operand}{k1 k2:IntKind}{xs:List PV}(hx:ev s x=some (.pv (.sl z xs)))(hhi:ev s hi=some (.pv (.int k1 (m:Int))))(hmx:ev s mx=some (.pv (.int k2 (m:Int))))(hm:m≤xs.length)(hT:tk P t= .sl e z eb ea)(hz0:z≠0)
  (hk:AW P R Φ .normal (.ops all r::k) C (put d (.pv (.sl z (xs.take m))) s)) (hg:o.guard=none:=by rfl) (hd:o.dst=some d:=by rfl) (ho:o.op= .slice t x none (some hi) (some mx):=by rfl):AW P R Φ .normal (.ops all (o::r)::k) C s:=by
 refine oy hg hd (fun c hc=>by rw[ho]at hc;cases hc) ⟨rfl,by simp[SV.on],fun o hpt=>by simp[SV.pts]at hpt⟩ (fun B E a w _ hE=> ?_) hk
 obtain⟨hu,hez,_⟩:=p9 hT;have e2:=(lu hE hhi).int_eq;have e3:=(lu hE hmx).int_eq;obtain⟨inf,hinf,hsz⟩:=fy (P:=P) (t:=e) (by omega)
 have hp:=lu hE hx;generalize hxe:a.eval x=v1 at hp;obtain⟨vs,ad,cap,rfl,hr,hmm,hzz,hb',hcap⟩:=hp.slParts;have hlen:(xs.take m).length=m:=by rw[z13];omega
 have b1:∀c,(Instr.sliceBound (.int k2 (m:Int)) cap c).run P w= .ok m w:=fun c=>zf (by omega)
 have b2:∀c,(Instr.sliceBound (.int k1 (m:Int)) m c).run P w= .ok m w:=fun c=>zf (z03 _)
 refine⟨.slice (if m=0 then ad else ad.map (·.add (0*P.cellsOf e))) m m, ?_, ?_⟩
 ·simp[execOp,ho,hxe,e2,e3,Instr.sliceAt,Instr.slice,run_underlying hu,Instr.sliceBounds,b1,b2,run_sizeOf w hinf]
 ·have:=mm (A:=fun b=>E.om b∨B.F b) (w:=w) (z:=z) (xs:=xs.take m) (vs:=vs.take (m*z)) (a:=if m=0 then ad else ad.map (·.add (0*P.cellsOf e))) (cap:=m) (by
   rw[ol hzz];exact hr.take _) (fun i u hu=>by
   rw[z06]at hu;split at hu
   ·rename_i hi;obtain⟨a0,h1,h2,h3⟩:=hmm i u hu;obtain⟨a1,h4,hs,h5,h6⟩:=zw (A:=fun b=>E.om b∨B.F b) hmm _ _ hu
    rw[h4]at h1;have h1:=Option.some.inj h1;subst h1;have hm0:m≠0:=by rintro rfl;simp at hi
    obtain⟨ab,ao,asp⟩:=a1;simp only at hs h5 h6;subst hs;refine⟨⟨ab,ao,none⟩,by rw[if_neg hm0,h4];simp[gd],h5, ?_⟩
    rw[gd];exact h6
   ·cases hu) (fun x hx=>hzz x (z10 hx)) (by rw[hlen];omega) (by omega)
  rw[hlen]at this;exact .pv _ _ this
def Q2:List SV→List PV→Prop
 |[],[]=>True
 | .pv p::r,q::t=>p=q∧p.one=true∧Q2 r t
 | .nils::r,q::t=>(∃z,q= .sl z [])∧Q2 r t
 |_,_=>False
theorem RO.nilSl{A:Nat→Prop}{w:World}(z:Nat):RO A w (.sl z []) (.slice none 0 0):= .sl z [] [] none 0 rfl (by simp[da]) (by simp[da]) (by simp) (by simp) (z17 _) (z03 _)
theorem Fw{A:Nat→Prop}{E:Env}{w:World}:∀ {cs:List SV} {ps:List PV} {vs:List Value},Q2 cs ps→vs.length=cs.length→(∀(i:Nat) (c:SV) (v:Value),cs[i]?=some c→vs[i]?=some v→RS P A E w c v)→
  ps.length=cs.length∧(∀c∈ps,c.one=true)∧∀(i:Nat) (c:PV) (v:Value),ps[i]?=some c→vs[i]?=some v→RO A w c v
 |[],[],vs,_,_,_=>⟨rfl,by simp,by simp⟩
 |[],q::t,vs,h,_,_=>h.elim
 |c::r,[],vs,h,_,_=>by cases c<;>exact h.elim
 |c::r,q::t,[],h,hl,_=>by simp at hl
 |c::r,q::t,v::vs,h,hl,hr=>by
  have key:q.one=true∧RO A w q v∧Q2 r t:=by
   have h0:=hr 0 c v rfl rfl;cases c<;>try exact h.elim
   case pv p=>
    obtain⟨rfl,h1,h2⟩:=h;cases h0 with|pv _ _ h0=>exact⟨h1,h0,h2⟩
   case nils=>
    obtain⟨⟨z,rfl⟩,h2⟩:=h;cases h0
    exact⟨rfl,.nilSl z,h2⟩
  obtain⟨h1,h2,h3⟩:=key;obtain⟨k1,k2,k3⟩:=Fw (vs:=vs) h3 (by simpa using hl) (fun i c v hc hv=>hr (i+1) c v (by simpa using hc) (by simpa using hv))
  refine⟨by simp[k1],fun c hc=> ?_,fun i c v hc hv=> ?_⟩
  ·rcases List.mem_cons.1 hc with rfl|hc
   ·exact h1
   ·exact k2 c hc
  ·cases i with
   |zero=>simp at hc hv;subst hc;subst hv;exact h2
   |succ i=>exact k3 i c v (by simpa using hc) (by simpa using hv)
theorem aam{e:Exit}{d:Nat}{cs:List SV}{ps:List PV}(hl:aj d s.sl=some (.agg cs))(ht:Q2 cs ps)(hd:d<s.n)(h:AW P R Φ e k C (setSlot d (.pv (.agg ps)) s)):AW P R Φ e k C s:=
 wb (fun B a w ha=>by
  obtain⟨hdf,E,hE⟩:=ha;obtain⟨x,hx,hv⟩:=hE.place (.slot d) _ hl;have hv':RS P (fun b=>E.om b∨B.F b) E w (.agg cs) x:=hv
  have hx':a.tmps[d]?=some x:=hx;cases hv' with
  |agg _ vs hvl h1 hr=>
   obtain⟨k1,k2,k3⟩:=Fw ht hvl hr;have hro:RO (fun b=>E.om b∨B.F b) w (.agg ps) (.agg vs.toArray):= .agg ps vs.toArray (by simp[k1,hvl]) k2 (fun i c v hc hv=>k3 i c v hc (by simpa using hv))
   have:=hE.easySlot (d:=d) (v:= .pv (.agg ps)) (x:= .agg vs.toArray) hd (hE.free_of (fun e' xs he=>by simp only[St.at]at he;rw[hl]at he;cases he)) rfl (.inr (.pv _ _ hro)) (fun q hq=>by simp[SV.on]at hq) (fun o ho=>by simp[SV.pts]at ho)
   have hid:a.tmps.setIfInBounds d (.agg vs.toArray)=a.tmps:=by
    obtain⟨h1,h2⟩:=z07.1 hx';refine Array.ext_getElem? (fun i=> ?_)
    by_cases hi:d=i
    ·subst hi;rw[Array.getElem?_setIfInBounds_self_of_lt h1,hx']
    ·rw[Array.getElem?_setIfInBounds_ne hi]
   rw[hid]at this;exact⟨B,hdf,_,this⟩) h
end
end Go.Ck
namespace Go.Ck
theorem Yj{P:Program}{R:Option Nat}{Φ:Exit→Cx→St→Prop}{e:Exit}{k:List It}{X:Bs→Prop}{s:St}(h:∀B,¬X B):AW P R Φ e k (plain X) s:=fun B a w ha=>absurd ha.1.1.2 (h B)
end Go.Ck
