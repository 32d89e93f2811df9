/- What is proved here: parts of the proofs of this seat's statements (a verified evaluator for calls over pure values, its laws, and contracts of functions). No condition. -/
import Derived.Test.YtmkoabmapmehdaaGreatDoorKc
import Derived.Deep.AppendSrc
import Derived.Deep.Upon
import Derived.Great.BuildSlice
set_option linter.all false
open List renaming eq_nil_of_length_eq_zero→z00,replicate→z01,eq_of_mem_replicate→z02,mem_of_getElem?→z06,getElem?_take→z09,getElem?_eq_getElem→z10,mem_cons→z12,length_append→z13,length_cons→z14,mem_map→z15,mem_of_mem_drop→z16,mem_iff_getElem→z17,map_cons→z21
open Nat renaming eq_zero_or_pos→z03,add_mul→z04,mul_le_mul_right→z07,le_refl→z11,zero_add→z22,zero_le→z23,mul_pos→z24,mod_lt→z25
open Array renaming getElem?_toList→z05,getElem?_eq_some_iff→z08,toList_append→z18,length_toList→z19,size_append→z20
namespace Go.Ck
open Go.RowKit
theorem oz(b:Nat):∀(vs:List Value) (o:Nat) (w:World) (cur:Array Value) (e:TypeId) (f:Nat×Nat),w.heap[b]?=some (.cells cur e f)→
  ∃cur':Array Value,(w.setCells b o vs).heap[b]?=some (.cells cur' e f)∧cur'.size=cur.size∧∀j,j<cur.size→cur'[j]?=if o≤j∧j<o+vs.length then vs[j-o]? else cur[j]?
 |[],o,w,cur,e,f,h=>⟨cur,h,rfl,fun j _=>by rw[if_neg (by simp only[List.length_nil];omega)]⟩
 |v::r,o,w,cur,e,f,h=>by
  have h1:(w.setCell ⟨b,o,none⟩ v).heap[b]?=some (.cells (cur.setIfInBounds o v) e f):=by rw[j0,if_pos rfl,h];rfl
  obtain⟨cur',h2,h3,h4⟩:=oz b r (o+1) _ _ e f h1;refine⟨cur',by rw[World.setCells];exact h2,by simpa using h3,fun j hj=> ?_⟩
  rw[h4 j (by simpa using hj)]
  simp only[z14];by_cases hjo:j=o
  ·subst hjo;rw[if_neg (by omega),if_pos (by omega)]
   simp[hj]
  ·by_cases h5:o+1≤j∧j<o+1+r.length
   ·rw[if_pos h5,if_pos (by omega)]
    rw[show j-o=(j-(o+1))+1 by omega,List.getElem?_cons_succ]
   ·rw[if_neg h5,if_neg (by omega)]
    rw[Array.getElem?_setIfInBounds_ne (by omega)]
section
variable {P : Program} (w : World)
theorem B5(base:Nat)(t tx ty e:TypeId)(i:TypeInfo)(z:Value)(ht:P.underlying t=some (.slice e))(hi:P.info? e=some i)(hz:i.zero=some z)
  (hzs:z.cells.size=i.size)
  (v:Value) (n:Nat) (xs:List Value) (hown:w.ownsRow base e i.size v n xs) (x:Value) (m:Nat) (news:List Value) (hs:Src P i.size tx x m news w)
  (h63:n+m≤maxLen) (hbytes:(n+m)*i.bytes≤140737488355328) (hbase:base≤w.heap.size):
  ∃v' w',(Builtin.append_ #[t,tx] ty #[v,x]).run P w= .ok v' w'∧w'.ownsRow base e i.size v' (n+m) (xs++news)∧w.grownBy w' v.ownBlock∧
   (v'.ownBlock=v.ownBlock∨v'.ownBlock=some w.heap.size):=by
 have hsmall:n+m≤9223372036854775807:=by simp only[maxLen]at h63;omega
 have hnl:=hs.newsLen;have hlen:(xs++news).length=(n+m)*i.size:=by rw[z13,hown.1,hnl,z04]
 have grow:∀(bs:Option Addr) (sc:Nat),v= .slice bs n sc→sc<n+m→
   (Builtin.firstCells i.size n (.slice bs n sc)).run P w.drew= .ok xs.toArray w.drew→
   ∃v' w',(Builtin.append_ #[t,tx] ty #[v,x]).run P w= .ok v' w'∧w'.ownsRow base e i.size v' (n+m) (xs++news)∧w.grownBy w' v.ownBlock∧
    (v'.ownBlock=v.ownBlock∨v'.ownBlock=some w.heap.size):=by
  rintro bs sc rfl hg hold;have hrun:=run_append_grow_src (P:=P) w t tx ty e i z ht hi hz bs n sc xs hold x m news hs hg (by omega) (growslice_fits hg hbytes)
  have hge:=grownCap_ge w (n+m) sc e;have hcm:=grownCap_le_maxLen w (n+m) sc e h63;refine⟨_,_,hrun,⟨hlen,.inr ⟨w.heap.size,_,_,rfl,hbase,heap_alloc_new w.drew _,hge,hcm, ?_, ?_⟩⟩,⟨rfl,rfl,rfl,by simp,fun k hk _=>heap_alloc_old w.drew _ hk⟩,.inr rfl⟩
  ·rw[z20,List.size_toArray,hlen,size_zeroCells,hzs,←z04]
   congr 1
   omega
  ·simp only[z18];rw[←hlen];exact List.take_left
 rcases hown.2 with⟨rfl,rfl⟩|⟨g,cap,cur,rfl,hbg,hg,hnc,hcm,hcs,htake⟩
 ·have hx:xs=[]:=z00 (by simpa using hown.1)
  subst hx;by_cases hm:m=0
  ·subst hm;have hn:news=[]:=z00 (by simpa using hnl)
   subst hn;exact⟨_,_,run_append_nothing (P:=P) w t tx ty e i ht hi none 0 0 (z11 _) x hs,World.ownsRow_nil w base e i.size,⟨rfl,rfl,rfl,z11 _,fun _ _ _=>rfl⟩,.inl rfl⟩
  ·exact grow none 0 rfl (by omega) (run_firstCells_none w.drew i.size 0 0 0)
 ·by_cases hroom:n+m≤cap
  ·have hfit:n*i.size+news.length≤cur.size:=by rw[hnl,hcs,←z04];exact z07 _ hroom
   obtain⟨cur',h1,h2,h3⟩:=oz g news (n*i.size) w cur e (0,0) hg;have hr:=run_append_room_src (P:=P) w t tx ty e i ht hi g 0 n cap x m news hs hroom
    (fun j hj=>by simp[World.cell?,hg];omega) (fun j hj=>by simp[World.frozen?,hg])
   refine⟨_,_,hr,⟨hlen,.inr ⟨g,cap,cur',rfl,hbg,by rw[z22];exact h1,hroom,hcm,by rw[h2,hcs], ?_⟩⟩,⟨?_, ?_, ?_, ?_,fun k hk hne=> ?_⟩,.inl rfl⟩
   ·apply List.ext_getElem?
    intro j;rw[z09];by_cases hj:j<(n+m)*i.size
    ·rw[if_pos hj,z05,h3 j (by rw[z04]at hj;omega)]
     by_cases hjn:j<n*i.size
     ·rw[if_neg (by omega),List.getElem?_append_left (by rw[hown.1];exact hjn),←htake,z09,if_pos hjn,z05]
     ·rw[if_pos (by rw[z04]at hj;omega),List.getElem?_append_right (by rw[hown.1];omega),hown.1]
    ·rw[if_neg hj,List.getElem?_eq_none (by rw[hlen];omega)]
   ·exact World.os_setCells _ _ _ _
   ·have:∀(vs:List Value) (o:Nat) (w:World),(w.setCells g o vs).tape=w.tape:=by
     intro vs
     induction vs with
     |nil=>intro o w;rfl
     |cons v r ih=>intro o w;rw[World.setCells,ih];rfl
    exact this _ _ _
   ·exact World.output_setCells _ _ _ _
   ·have:∀(vs:List Value) (o:Nat) (w:World),(w.setCells g o vs).heap.size=w.heap.size:=by
     intro vs
     induction vs with
     |nil=>intro o w;rfl
     |cons v r ih=>intro o w;rw[World.setCells,ih];simp
    exact Nat.le_of_eq (this _ _ _).symm
   ·exact World.heap_setCells_other w g _ news hk (fun he=>hne (by simp[Value.ownBlock,he]))
  ·have holds:∀j u,xs[j]?=some u→w.drew.cell? ((⟨g,0,none⟩:Addr).add j)=some u:=by
    simpa using hown.cells (g:=g) rfl
   exact grow (some ⟨g,0,none⟩) cap rfl (by omega) (run_firstCells_some w.drew i.size n ⟨g,0,none⟩ n cap xs hown.1 holds)
end
end Go.Ck
namespace Go.Ck
open Go.RowKit
section
variable {P : Program} {O0 : Base} {F : Nat → Prop} {w0 w : World} {s : St} {E : Env} {tmps : Array Value}
theorem Rel.newOwn(h:Rel P O0 w0 F s E tmps w){w':World}{M:Nat→Prop}(hg:Grow M w w')(hM:∀b,M b→E.om b∧jm s E b){e:TypeId}{xs:List PV}{x:Value}(d:Nat)
  (ho:ki P (fun b=>(E.om b∨w.heap.size≤b∧b<w'.heap.size)∨F b) w' e x xs) (hb:∀b,x.ownBlock=some b→(E.om b∧jm s E b)∨(w.heap.size≤b∧b<w'.heap.size)):
  ∃E',Rel P O0 w0 F (put d (.own e xs) s) E' (tmps.setIfInBounds d x) w':=by
 have h':=h.world hg hM (fun b=>w.heap.size≤b∧b<w'.heap.size) (fun b hb=>hb)
 refine h'.putOwn d ho (fun b hb'=> ?_)
 rcases hb b hb' with⟨h1,h2⟩|h1
 ·exact⟨.inl h1,h2⟩
 ·refine⟨.inr h1,fun o y hl he=> ?_,fun p e xs hp hpb=> ?_⟩
  ·have:=(h.om_lt _ (h.obj o y hl).1).1;have he':E.obj o=b:=he;omega
  ·obtain⟨x,_,_,_,h3⟩:=h.place p _ hp;have:=(h.om_lt b (h3 b hpb)).1;omega
theorem Xc{t:TypeId}(h:(tk P t).isSrc=true):(∃e',P.underlying t=some (.slice e'))∨P.underlying t=some .string:=by
 cases hT:tk P t<;>rw[hT]at h<;>cases h
 ·exact .inr (rz hT)
 ·exact .inl ⟨_,(p9 hT).1⟩
theorem iu.oneCell{A:Nat→Prop}{cs:List PV}{vs:List Value}(h:iu A w cs vs):∀u∈vs,u.oneCell'=true:=by
 intro u hu;obtain⟨i,hi,he⟩:=z17.1 hu;have hi':i<cs.length:=by rw[←h.1];exact hi
 have h1:cs[i]?=some cs[i]:=z10 hi';exact(h.2.2 i _ u h1 (by rw[←he];exact z10 hi)).oneCell (h.2.1 _ (List.getElem_mem hi'))
theorem H5(a:Option Addr)(n c:Nat){tx:TypeId}{size:Nat}(hk:(∃e',P.underlying tx=some (.slice e'))∨P.underlying tx=some .string){news:List Value}(hl:news.length=n*size)(hsz:0<size)
  (hm:∀(i:Nat) (v:Value),news[i]?=some v→∃ad:Addr,a=some ad∧w.cell? (ad.add i)=some v) (h1:∀u∈news,u.oneCell'=true):Src P size tx (.slice a n c) n news w:=by
 cases a with
 |none=>
  have:news=[]:=by
   cases news with
   |nil=>rfl
   |cons v r=>
    obtain⟨ad,h2,_⟩:=hm 0 v rfl;cases h2
  subst this;have hn:n=0:=by
   rcases z03 n with h2|h2
   ·exact h2
   ·have:=z24 h2 hsz;simp at hl;omega
  subst hn;exact⟨hk,fun _=>rfl,run_firstCells_none w size 0 0 c,run_firstCells_none w.drew size 0 0 c,by simp,fun _ h=>by cases h⟩
 |some ad=>
  have hc:∀j v,news[j]?=some v→w.cell? (ad.add j)=some v:=by
   intro j v hv;obtain⟨ad',h2,h3⟩:=hm j v hv;cases h2
   exact h3
  exact⟨hk,fun _=>rfl,run_firstCells_some w size n ad n c news hl hc,run_firstCells_some w.drew size n ad n c news hl (by simpa using hc),hl,h1⟩
theorem K8(l:List UInt8):da (c5 l)=c5 l:=by
 induction l with
 |nil=>rfl
 |cons b r ih=>simp only[c5,z21,jq,PV.cells]at ih⊢;rw[ih];rfl
theorem ad5(h:Rel P O0 w0 F s E tmps w){y:SV}{x:Value}{ys:List PV}{ez:Nat}{tx:TypeId}(hT:(tk P tx).isSrc=true)(hez:ez≠0)(he:G8 P s ez y=some ys)(hr:RS P (fun b=>E.om b∨F b) E w y x):
  ∃news,Src P ez tx x ys.length news w∧iu (fun b=>E.om b∨F b) w (da ys) news∧∀c∈ys,c.cells.length=ez:=by
 have hk:=Xc hT;unfold G8 at he;split at he
 ·rename_i l;split at he<;>cases he
  rename_i h1;subst h1;cases hr with|pv _ _ hr=> ?_
  cases hr
  refine⟨byteCells ⟨l.toArray⟩, ?_, ?_, ?_⟩
  ·have hsz:(c5 l).length=(⟨l.toArray⟩:ByteArray).size:=by simp[c5,ByteArray.size]
   rw[hsz];refine⟨hk,fun _=>rfl,firstCells_string _ w,firstCells_string _ w.drew,by rw[byteCells_length,Nat.mul_one],fun u hu=> ?_⟩
   obtain⟨_,_,rfl⟩:=z15.1 hu;rfl
  ·rw[K8];refine⟨by simp[byteCells,c5],fun c hc=> ?_,fun i c v hc hv=> ?_⟩
   ·obtain⟨_,_,rfl⟩:=z15.1 hc;rfl
   ·simp only[c5,List.getElem?_map,byteCells,Option.map_eq_some_iff]at hc hv;obtain⟨b,hb,rfl⟩:=hc;obtain⟨b',hb',rfl⟩:=hv;have e:b=b':=by
     have:=hb.symm.trans (by simpa using hb')
     simpa using this
    subst e;exact .int _ _
  ·intro c hc;obtain⟨_,_,rfl⟩:=z15.1 hc;rfl
 ·rename_i z xs;split at he<;>cases he
  rename_i h1;subst h1;cases hr with|pv _ _ hr=> ?_
  obtain⟨vs,a,cap,rfl,h2,h3,h4,h5,h6⟩:=hr.slParts;refine⟨vs,H5 a _ cap hk (by rw[h2.1,i8 h4]) (by omega) (fun i v hv=> ?_) h2.oneCell,h2,h4⟩
  obtain⟨ad,e1,_,e2⟩:=h3 i v hv;exact⟨ad,e1,e2⟩
 ·cases he
  cases hr
  exact⟨[],H5 none 0 0 hk (by simp) (by omega) (by simp) (by simp),iu.nil _ _,by simp⟩
 ·rename_i p;unfold Ii at he;split at he
  ·rename_i e xs hp;split at he<;>cases he
   rename_i hez';cases hr
   obtain⟨cs,h1,h2,h3,h4⟩:=h.own hp;rw[hez']at h3 h1;refine⟨cs, ?_,h2,h3⟩;rcases h1.2 with⟨e1,h0⟩|⟨g,cap,cur,e1,_⟩
   ·have hx:ys=[]:=z00 h0;subst hx;have:cs=[]:=z00 (by simpa using h1.1)
    subst this;rw[e1];exact H5 none 0 0 hk (by simp) (by omega) (by simp) (by simp)
   ·rw[e1];refine H5 _ _ cap hk h1.1 (by omega) (fun i v hv=>⟨_,rfl, ?_⟩) h2.oneCell
    exact h1.cells (g:=g) (by rw[e1];rfl) i v hv
  ·cases he
 ·rename_i p e off n;split at he
  ·rename_i hce;split at he
   ·rename_i xs hxs;cases he
    unfold Ii at hxs;split at hxs
    ·rename_i e' xs' hp;split at hxs<;>cases hxs
     rename_i hez';cases hr with|vw _ _ _ _ _ hv=> ?_
     obtain⟨⟨a,len,cap,e1,hle⟩,a',cap',rfl,hcap',hblk⟩:=hv;obtain⟨cs,h1,h2,h3,h4⟩:=h.own hp;rw[hez']at h3 h1;obtain⟨a2,cap2,e2,_⟩:=(h.own hp).form;have hlen:len=xs.length:=by rw[e1]at e2;simpa using(Value.slice.inj e2).2.1
     subst hlen;have hyl:((xs.drop off).take n).length=n:=by simp;omega
     have hmul:off*ez+n*ez≤xs.length*ez:=by rw[←z04];exact z07 _ hle
     refine⟨(cs.drop (off*ez)).take (n*ez), ?_, ?_,fun c hc=>h3 c (z16 (List.mem_of_mem_take hc))⟩
     ·rw[hyl];refine H5 _ _ cap' hk ?_ (by omega) (fun i v hv=> ?_) ((h2.drop _).take _).oneCell
      ·rw[List.length_take,List.length_drop,h1.1];omega
      ·have hi:i<n*ez:=by
        rcases Nat.lt_or_ge i (n*ez)with h5|h5
        ·exact h5
        ·rw[z09,if_neg (by omega)]at hv;cases hv
       rw[z09,if_pos hi,List.getElem?_drop]at hv;have hn:0<n:=by
        rcases z03 n with h5|h5
        ·subst h5;simp at hi
        ·exact h5
       obtain⟨b,hb,rfl⟩:=hblk hn;refine⟨_,rfl, ?_⟩;have:=h1.cells hb _ v hv;rw[gd,z22]at this;rw[gd,hce];exact this
     ·rw[ol (fun x hx=>h3 x (z16 hx)),u0 h3]
      exact(h2.drop _).take _
    ·cases hxs
   ·cases he
  ·cases he
 ·cases he
end
end Go.Ck
namespace Go.Ck
open Go.RowKit
section
variable {P : Program} {O0 : Base} {F : Nat → Prop} {w0 w : World} {s : St} {E : Env} {tmps : Array Value}
theorem aa2{e:TypeId}(h:i9 P e=true):∃i z,P.info? e=some i∧i.zero=some z∧z.cells.size=i.size:=by
 unfold i9 at h;split at h
 ·rename_i i hi;split at h
  ·rename_i z hz;exact⟨i,z,hi,hz,by simpa using h⟩
  ·cases h
 ·cases h
theorem xt{w w':World}{r:Option Nat}(h:w.grownBy w' r):Grow (fun b=>r=some b) w w':=
 ⟨h.os,h.tape,h.output,h.size,fun b hb hn=>h.block b hb (fun e=>hn e.symm)⟩
theorem Rel.append(h:Rel P O0 w0 F s E tmps w){vx:Value}{e:TypeId}{xs ys:List PV}(d:Nat)(t tx ty:TypeId)(ht:P.underlying t=some (.slice e))(hz:i9 P e=true)(hez:P.cellsOf e≠0)
  (ho:ki P (fun b=>E.om b∨F b) w e vx xs) (hb:∀b,vx.ownBlock=some b→E.om b∧jm s E b) {x:Value} {news:List Value} (hs:Src P (P.cellsOf e) tx x ys.length news w)
  (hn:iu (fun b=>E.om b∨F b) w (da ys) news) (hy:∀c∈ys,c.cells.length=P.cellsOf e) (h1:(xs.length+ys.length)*P.bytesOf e≤aw) (h2:xs.length+ys.length≤aw):
  ∃v' w' E',(Builtin.append_ #[t,tx] ty #[vx,x]).run P w= .ok v' w'∧Rel P O0 w0 F (put d (.own e (xs++ys)) s) E' (tmps.setIfInBounds d v') w':=by
 obtain⟨i,z,hi,hiz,hzs⟩:=aa2 hz;have hsz:P.cellsOf e=i.size:=by simp[Program.cellsOf,hi]
 have hby:P.bytesOf e=i.bytes:=by simp[Program.bytesOf,hi]
 obtain⟨cs,c1,c2,c3,c4⟩:=ho;rw[hsz]at c1 hs;rw[hby]at h1;have h63:xs.length+ys.length≤maxLen:=by unfold aw at h2;simp only[maxLen];omega
 obtain⟨v',w',hr,hown,hg,hblk⟩:=B5 (P:=P) w 0 t tx ty e i z ht hi hiz hzs vx xs.length cs c1 x ys.length news hs h63 h1 (z23 _);have hgr:=xt hg;have hA:∀b,b<w.heap.size→¬(E.om b∨F b)→¬((E.om b∨w.heap.size≤b∧b<w'.heap.size)∨F b)∧w'.heap[b]?=w.heap[b]?:=by
  intro b hb' hn';refine⟨?_,hgr.block b hb' (fun he=>hn' (.inl (hb b he).1))⟩
  rintro((h3|h3)|h3)
  ·exact hn' (.inl h3)
  ·omega
  ·exact hn' (.inr h3)
 have fin:∃E',Rel P O0 w0 F (put d (.own e (xs++ys)) s) E' (tmps.setIfInBounds d v') w':= ?_
 ·obtain⟨E',hE⟩:=fin;exact⟨v',w',E',hr,hE⟩
 refine h.newOwn hgr (fun b hb'=>hb b hb') (e:=e) (xs:=xs++ys) (x:=v') d ?_ ?_
 ·refine⟨cs++news, ?_, ?_, ?_,by rw[z13];exact h63⟩
  ·rw[z13,hsz];exact hown
  ·rw[po];exact(c2.mono hA).append (hn.mono hA)
  ·intro c hc;rcases List.mem_append.1 hc with hc|hc
   ·exact c3 c hc
   ·exact hy c hc
 ·intro b hb';rcases hblk with h3|h3
  ·exact .inl (hb b (by rw[←h3];exact hb'))
  ·rw[h3]at hb';cases hb'
   right
   refine⟨z11 _, ?_⟩;rcases hown.2 with⟨e1,_⟩|⟨g,cap,cur,e1,_,hgb,_⟩
   ·rw[e1]at h3;simp[Value.ownBlock]at h3
   ·rw[e1]at h3;simp[Value.ownBlock]at h3;rw[←h3];exact(z08.1 hgb).1
theorem Lc(h:Rel P O0 w0 F s E tmps w){t tx ty:TypeId}{d:Nat}{x y:SV}{s':St}{vx vy:Value}(hT:(tk P tx).isSrc=true)(ha:Ha P s d x y (tk P t)=some s')
  (hx:RS P (fun b=>E.om b∨F b) E w x vx) (hy:RS P (fun b=>E.om b∨F b) E w y vy):
  ∃v' w' E',(Builtin.append_ #[t,tx] ty #[vx,vy]).run P w= .ok v' w'∧Rel P O0 w0 F s' E' (tmps.setIfInBounds d v') w':=by
 unfold Ha at ha;split at ha
 ·rename_i e ez eb ea htk;obtain⟨ht,hez,heb⟩:=p9 htk;split at ha
  ·rename_i hc;subst hez;subst heb;unfold Pt at ha;split at ha
   ·rename_i ys hys;obtain⟨news,h1,h2,h3⟩:=ad5 h hT hc.1 hys hy;split at ha
    ·split at ha
     ·rename_i hr;cases ha
      cases hx
      have:=h.append (xs:=[]) (vx:= .slice none 0 0) d t tx ty ht hc.2 hc.1 ⟨[],World.ownsRow_nil w 0 e _,iu.nil _ _,by simp,by simp⟩ (by simp[Value.ownBlock]) h1 h2 h3 (by simpa using hr.1) (by simpa using hr.2)
      simpa using this
     ·cases ha
    ·rename_i p;unfold Pu at ha;split at ha
     ·rename_i e' xs hp;split at ha
      ·rename_i hr;obtain⟨rfl,h4,h5⟩:=hr;cases ha
       cases hx
       obtain⟨_,t2,t3,t4⟩:=h.take hp;exact t4.append d t tx ty ht hc.2 hc.1 t2 t3 h1 h2 h3 h4 h5
      ·cases ha
     ·cases ha
    ·cases ha
   ·cases ha
  ·cases ha
 ·cases ha
end
end Go.Ck
namespace Go.Ck
open Go.RowKit
section
variable {P : Program} {O0 : Base} {F : Nat → Prop} {w0 w : World} {s : St} {E : Env} {tmps : Array Value}
theorem Dv{c:Value}{v:SV}(h:ofConst c=some v):mq s v∧c.cells= #[c]∧ue v=true∧(∀q,v.on q=false)∧∀o,v.pts o=false:=by
 unfold ofConst at h;split at h<;>cases h<;>refine⟨?_,rfl,rfl,fun _=>rfl,fun _=>rfl⟩<;>first|exact .pv _ _|exact .nils _
theorem Ju{A:Nat→Prop}{v:Value}{p:PV}(h:aky v=some p):RO A w p v∧p.one=true∧v.cells= #[v]:=by
 unfold aky ofConst at h;split at h
 ·rename_i q hq;cases h
  split at hq<;>cases hq
  ·exact⟨.int _ _,rfl,rfl⟩
  ·exact⟨.bool _,rfl,rfl⟩
  ·rename_i l;have:(⟨l.data.toList.toArray⟩:ByteArray)=l:=by simp
   exact⟨by rw[←this];simpa using RO.str (A:=A) (w:=w) l.data.toList,rfl,rfl⟩
  ·exact⟨.nilp,rfl,rfl⟩
  ·exact⟨.nilf,rfl,rfl⟩
  ·exact⟨.nili,rfl,rfl⟩
 ·rename_i hq;cases h
  split at hq<;>cases hq
  exact⟨mm (vs:=[]) (iu.nil _ _) (by simp) (by simp) (by simp) (by simp),rfl,rfl⟩
 ·cases h
theorem T7{A:Nat→Prop}{vs:List Value}{ps:List PV}(h:Yq vs=some ps):iu A w ps vs:=by
 induction vs generalizing ps with
 |nil=>cases h;exact iu.nil _ _
 |cons v r ih=>
  unfold Yq at h;split at h
  ·rename_i x xs hx hxs;cases h
   obtain⟨h1,h2,h3⟩:=Ju (A:=A) (w:=w) hx;have h4:=ih hxs;refine⟨by simp[h4.1],fun c hc=> ?_,fun i c v' hc hv=> ?_⟩
   ·rcases z12.1 hc with rfl|hc
    ·exact h2
    ·exact h4.2.1 c hc
   ·cases i with
    |zero=>simp at hc hv;subst hc;subst hv;exact h1
    |succ i=>exact h4.2.2 i c v' (by simpa using hc) (by simpa using hv)
  ·cases h
theorem nz{A:Nat→Prop}{e:TypeId}{p:PV}(h:ax P e=some p):∃i z,P.info? e=some i∧i.zero=some z∧z.cells.size=i.size∧RO A w p z∧p.cells.length=i.size:=by
 unfold ax at h;split at h
 ·rename_i i hi;split at h
  ·rename_i vs hz;split at h
   ·rename_i hs;unfold aC8 at h;split at h
    ·rename_i ps hps;cases h
     obtain⟨h1,h2,h3⟩:=T7 (A:=A) (w:=w) hps;exact⟨i,_,hi,hz,hs,.agg ps vs (by simpa using h1) h2 (fun j c v hc hv=>h3 j c v hc (by simpa using hv)),by simp only[PV.cells];rw[←hs,←h1];simp⟩
    ·cases h
   ·cases h
  ·rename_i v hv hz;split at h
   ·rename_i hs;obtain⟨h1,h2,h3⟩:=Ju (A:=A) (w:=w) h;refine⟨i,v,hi,hz,by rw[h3,hs];rfl,h1, ?_⟩
    rw[(h1.cells_of_one h2).2,hs];rfl
   ·cases h
  ·cases h
 ·cases h
theorem tu{z:PV}{k:Nat}(hz:z.cells.length=k)(n j:Nat)(hj:j<n*k):(da (z01 n z))[j]?=z.cells[j % k]?:=by
 have hk:0<k:=by
  rcases z03 k with h|h
  ·subst h;simp at hj
  ·exact h
 have h1:j/k<n:=(Nat.div_lt_iff_lt_mul hk).2 hj;have h2:=Ph (xs:=z01 n z) (z:=k) (i:=j/k) (x:=z) (fun x hx=>by rw[z02 hx];exact hz) (by rw[List.getElem?_replicate,if_pos h1]) (j % k) (z25 _ hk)
 rwa [Nat.mul_comm,Nat.div_add_mod]at h2
theorem I3{A:Nat→Prop}{p:PV}{z:Value}(hr:RO A w p z)(n:Nat):iu A w (da (z01 n p)) (madeCells z.cells (n*p.cells.length)).toList:=by
 have hc:=hr.cellsROs;have hl:(da (z01 n p)).length=n*p.cells.length:=by rw[i8 (z:=p.cells.length) (fun x hx=>by rw[z02 hx])];simp
 have hzs:z.cells.size=p.cells.length:=by simpa using hc.1
 refine⟨by simp[size_madeCells,hl],fun c hc'=> ?_,fun i c v h1 h2=> ?_⟩
 ·obtain⟨j,hj,he⟩:=z17.1 hc';have h1:(da (z01 n p))[j]?=some c:=by rw[←he];exact z10 hj
  rw[tu rfl n j (by omega)]at h1
  exact hc.2.1 c (z06 h1)
 ·have hi:i<n*p.cells.length:=by rw[←hl];exact(List.getElem?_eq_some_iff.1 h1).1
  have hk:0<p.cells.length:=by
   rcases z03 p.cells.length with h|h
   ·rw[h]at hi;simp at hi
   ·exact h
  rw[tu rfl n i hi]at h1;have hm:i % z.cells.size<z.cells.size:=z25 _ (by omega)
  have e:(madeCells z.cells (n*p.cells.length)).toList[i]?=z.cells.toList[i % p.cells.length]?:=by
   rw[z05,z05,←hzs,madeCells,Array.getElem?_map,Array.getElem?_range,if_pos (by rw[hzs];exact hi)]
   simp only[Option.map_some];rw[getElem!_pos z.cells _ hm,Array.getElem?_eq_getElem hm]
  rw[e]at h2;exact hc.2.2 _ c v h1 h2
theorem Grow.alloc(w:World)(o:Obj):Grow (fun _=>False) w (w.alloc o):=⟨rfl,rfl,rfl,by simp,fun b hb _=>heap_alloc_old w o hb⟩
theorem Rel.newRow(h:Rel P O0 w0 F s E tmps w){e:TypeId}{xs:List PV}{vs:Array Value}(d:Nat)(hr:iu (fun b=>E.om b∨F b) w (da xs) vs.toList)(hz:∀x∈xs,x.cells.length=P.cellsOf e)(c:Nat)(hc:xs.length≤c)(hm:c≤maxLen)
  (zs:Array Value) (hzs:zs.size=(c-xs.length)*P.cellsOf e):
  ∃E',Rel P O0 w0 F (put d (.own e xs) s) E' (tmps.setIfInBounds d (.slice (some ⟨w.heap.size,0,none⟩) xs.length c)) (w.alloc (.cells (vs++zs) e)):=by
 have hvs:vs.size=xs.length*P.cellsOf e:=by
  have:=hr.1;rw[i8 hz]at this;simpa using this
 have hsz:(w.alloc (.cells (vs++zs) e)).heap.size=w.heap.size+1:=by simp
 refine h.newOwn (Grow.alloc w _) (by simp) d ⟨vs.toList,⟨by simpa using hvs,.inr ⟨w.heap.size,c,_,rfl,z23 _,heap_alloc_new w _,hc,hm, ?_, ?_⟩⟩, ?_,hz,Nat.le_trans hc hm⟩ (fun b hb=> ?_)
 ·rw[z20,hvs,hzs,←z04];congr 1;omega
 ·rw[z18,←hvs];exact List.take_left' (by simp)
 ·refine hr.mono (fun b hb hn=>⟨?_,heap_alloc_old w _ hb⟩)
  rintro((h3|h3)|h3)
  ·exact hn (.inl h3)
  ·omega
  ·exact hn (.inr h3)
 ·simp[Value.ownBlock]at hb;subst hb;exact .inr ⟨z11 _,by rw[hsz];omega⟩
end
end Go.Ck
namespace Go.Ck
open Go.RowKit
section
variable {P : Program} {O0 : Base} {F : Nat → Prop} {w0 w : World} {s : St} {E : Env} {tmps : Array Value}
def Env.dropOm(E:Env)(D:Nat→Prop):Env:= { E with om:=fun b=>E.om b∧¬D b }
theorem Rel.dropOm(h:Rel P O0 w0 F s E tmps w)(D:Nat→Prop)(hD:∀b,D b→jm s E b):Rel P O0 w0 F s (E.dropOm D) tmps w:=by
 have hA:∀b,b<w.heap.size→¬(E.om b∨F b)→¬((E.dropOm D).om b∨F b)∧w.heap[b]?=w.heap[b]?:=
  fun b _ hn=>⟨fun h2=>hn (h2.imp (fun h3=>h3.1) id),rfl⟩
 refine { place:= ?_,obj:= ?_,size:=h.size,i1:=h.i1,i2:=h.i2,i3:=h.i3,om_lt:=fun b hb=>h.om_lt b hb.1,om0:=fun b hb=>h.om0 b hb.1,na:=h.na,np:=h.np,gr:=h.gr,flt:=h.flt,ob:=h.ob }
 ·intro p v hp;obtain⟨x,hx,hv⟩:=h.place p v hp;refine⟨x,by cases p<;>exact hx, ?_⟩
  cases v<;>simp only[ip]at hv⊢
  case own e xs=>
   obtain⟨h1,h2,h3⟩:=hv;exact⟨h1,h2.kept hA (fun b _=>rfl),fun b hb=>⟨h3 b hb,fun hd=>(hD b hd).2 p e xs hp hb⟩⟩
  case tup vs=>exact hv
  all_goals exact agz (E:=E) rfl rfl (hv.grow hA)
 ·intro o y hl;obtain⟨h1,h2⟩:=h.obj o y hl;refine⟨⟨h1,fun hd=>(hD _ hd).1 o y hl rfl⟩, ?_⟩
  cases y with
  |cells e cs=>exact h2
  |mp es=>
   obtain⟨ms,c,h3,h4,h5⟩:=h2;exact⟨ms,c,h3,h4,fun i kv m hk hm=>⟨(h5 i kv m hk hm).1.mono hA,(h5 i kv m hk hm).2.mono hA⟩⟩
theorem Vu{p:Place}{u:SV}(hp:s.at p=some u)(hu:u.isTup=false)(ho:∃e xs,u= .own e xs):(xy p s).at p=some .dead:=by
 obtain⟨e,xs,rfl⟩:=ho;exact Bh (nq p s hp)
theorem Rel.free_del(h:Rel P O0 w0 F s E tmps w){p:Place}{e:TypeId}{xs:List PV}(hp:s.at p=some (.own e xs)):Hj p (xy p s):=by
 obtain⟨_,_,_,h4⟩:=h.take hp;exact h4.free_of (fun e' xs' he=>by rw[Vu hp rfl ⟨e,xs,rfl⟩]at he;cases he)
theorem Nt{A:Nat→Prop}{e:TypeId}{x:Value}{xs:List PV}(h:ki P A w e x xs)(hb:∀b,x.ownBlock=some b→¬A b):RO A w (.sl (P.cellsOf e) xs) x:=by
 obtain⟨cs,h1,h2,h3,h4⟩:=h;rcases h1.2 with⟨rfl,h0⟩|⟨g,cap,cur,rfl,_,hg,hle,_⟩
 ·have:xs=[]:=z00 h0;subst this;exact mm (vs:=[]) (iu.nil _ _) (by simp) (by simp) (by simp) (by simp)
 ·exact mm h2 (fun i v hv=>⟨_,rfl,hb g rfl,h1.cells (g:=g) rfl i v hv⟩) h3 h4 hle
theorem RO.sub{A A':Nat→Prop}(h:∀b,¬A b→¬A' b){p:PV}{x:Value}(hr:RO A w p x):RO A' w p x:=hr.mono (fun b _ hn=>⟨h b hn,rfl⟩)
theorem iu.sub{A A':Nat→Prop}(h:∀b,¬A b→¬A' b){ps:List PV}{xs:List Value}(hr:iu A w ps xs):iu A' w ps xs:=hr.mono (fun b _ hn=>⟨h b hn,rfl⟩)
theorem Jl{A:Nat→Prop}{cs:List SV}{vs:List Value}{ps:List PV}(hl:vs.length=cs.length)(h:∀(i:Nat) (c:SV) (v:Value),cs[i]?=some c→vs[i]?=some v→RS P A E w c v)(ht:thaw cs=some ps):iu A w ps vs:=by
 induction cs generalizing vs ps with
 |nil=>cases ht;rw[z00 hl];exact iu.nil _ _
 |cons c r ih=>
  cases vs with
  |nil=>simp at hl
  |cons v vs=>
   have h0:=h 0 c v rfl rfl;have hr:∀(i:Nat) (c:SV) (v:Value),r[i]?=some c→vs[i]?=some v→RS P A E w c v:=fun i c' v' hc hv=>h (i+1) c' v' (by simpa using hc) (by simpa using hv)
   have key:∀ {p ps},RO A w p v→p.one=true→iu A w ps vs→iu A w (p::ps) (v::vs):=by
    intro p ps hp h1 hk;refine⟨by simp[hk.1],fun c hc=> ?_,fun i c' v' hc hv=> ?_⟩
    ·rcases z12.1 hc with rfl|hc
     ·exact h1
     ·exact hk.2.1 c hc
    ·cases i with
     |zero=>simp at hc hv;subst hc;subst hv;exact hp
     |succ i=>exact hk.2.2 i c' v' (by simpa using hc) (by simpa using hv)
   cases c<;>try(simp[thaw]at ht;done)
   case pv p=>
    simp only[thaw]at ht;split at ht
    ·rename_i h1;split at ht<;>cases ht
     rename_i ps' hps;cases h0 with|pv _ _ h0=>exact key h0 h1 (ih (by simpa using hl) hr hps)
    ·cases ht
   case nils=>
    simp only[thaw]at ht;split at ht<;>cases ht
    rename_i ps' hps;cases h0
    exact key (mm (vs:=[]) (iu.nil _ _) (by simp) (by simp) (by simp) (by simp)) rfl (ih (by simpa using hl) hr hps)
theorem xg(h:Rel P O0 w0 F s E tmps w){v:SV}{x:Value}{p:PV}{s':St}(hf:freeze P s v=some (p,s'))(hr:RS P (fun b=>E.om b∨F b) E w v x):
  ∃E',(∀b,E'.om b→E.om b)∧Rel P O0 w0 F s' E' tmps w∧RO (fun b=>E'.om b∨F b) w p x:=by
 unfold freeze at hf;split at hf
 ·cases hf
  cases hr with|pv _ _ hr=>exact⟨E,fun _ hb=>hb,h,hr⟩
 ·cases hf
  cases hr
  exact⟨E,fun _ hb=>hb,h,mm (vs:=[]) (iu.nil _ _) (by simp) (by simp) (by simp) (by simp)⟩
 ·rename_i cs;unfold Pf at hf;split at hf
  ·rename_i ps hps;cases hf
   refine⟨E,fun _ hb=>hb,h, ?_⟩
   cases hr with|agg _ vs hl h1 h2=> ?_
   obtain⟨k1,k2,k3⟩:=Jl hl h2 hps;exact .agg _ _ (by simpa using k1) k2 (fun i c v hc hv=>k3 i c v hc (by simpa using hv))
  ·cases hf
 ·rename_i q;unfold G7 at hf;split at hf
  ·rename_i e xs hp;cases hf
   cases hr
   obtain⟨h1,h2,h3,h4⟩:=h.take hp;have h5:=h4.dropOm (fun b=>(E.hdr q).ownBlock=some b) (fun b hb=>(h3 b hb).2)
   have hsub:∀b,¬(E.om b∨F b)→¬((E.dropOm fun b=>(E.hdr q).ownBlock=some b).om b∨F b):=fun b hn h6=>hn (h6.imp (fun h7=>h7.1) id)
   have hro:RO (fun b=>(E.dropOm fun b=>(E.hdr q).ownBlock=some b).om b∨F b) w (.sl (P.cellsOf e) xs) (E.hdr q):=by
    refine Nt (h2.kept (fun b _ hn=>⟨hsub b hn,rfl⟩) (fun _ _=>rfl)) (fun b hb=> ?_)
    rintro(h6|h6)
    ·exact h6.2 hb
    ·exact(h.om_lt b (h3 b hb).1).2 h6
   refine⟨(E.dropOm fun b=>(E.hdr q).ownBlock=some b).setHdr q (E.hdr q),fun b hb=>hb.1,h5.recast (v:= .pv (.sl (P.cellsOf e) xs)) (y:=E.hdr q) (x:=E.hdr q) (Vu hp rfl ⟨e,xs,rfl⟩) rfl rfl (h.free_del hp) rfl (by cases q<;>exact h1) (.inr rfl) ?_ (by simp[SV.on]) (by rintro⟨_,_,h2⟩;cases h2) (by simp[SV.pts]),hro⟩
   exact RS.pv _ _ hro
  ·cases hf
 ·cases hf
theorem Dy(off:Nat):∀(l:List Value) (k:Nat) (cells:Array Value),off+k+l.length≤cells.size→
  ((l.zipIdx k).foldl (fun(cs:Array Value) (x:Value×Nat)=>cs.setIfInBounds (off+x.2) x.1) cells).toList=cells.toList.take (off+k)++l++cells.toList.drop (off+k+l.length)
 |[],k,cells,h=>by simp
 |v::r,k,cells,h=>by
  simp only[z14]at h;rw[List.zipIdx_cons,List.foldl_cons,Dy off r (k+1) _ (by simp;omega)]
  simp only[Array.toList_setIfInBounds,z14];have hlt:off+k<cells.toList.length:=by simp;omega
  rw[List.drop_set_of_lt (by omega),show off+(k+1)=(off+k)+1 by omega,List.take_add_one,List.take_set_of_le (z11 _)]
  simp[hlt,show off+k+1+r.length=off+k+(r.length+1)by omega]
  rw[List.getElem?_set_self hlt];rfl
end
end Go.Ck
namespace Go.Ck
open Go.RowKit
section
variable {P : Program} {O0 : Base} {F : Nat → Prop} {w0 w : World} {s : St} {E : Env} {a : Act}
theorem M4{place:Nat→Option (Nat×Nat)}{cells:Array Value}{i off size:Nat}{v:Value}{rest:List (Nat×Value)}(hp:place i=some (off,size))(h1:v.cells.size=size)(h2:off+size≤cells.size):
  ∃cells':Array Value,Instr.fill place cells ((i,v)::rest)=Instr.fill place cells' rest∧cells'.toList=cells.toList.take off++v.cells.toList++cells.toList.drop (off+size):=by
 refine⟨v.cells.zipIdx.foldl (fun cs (c,j)=>cs.setIfInBounds (off+j) c) cells, ?_, ?_⟩
 ·rw[Instr.fill];simp only[hp];rw[if_neg (by simp[h1];omega)]
 ·have:=Dy off v.cells.toList 0 cells (by simp[h1];omega)
  simp only[Nat.add_zero,z19,h1]at this;rw[←this,←Array.foldl_toList,Array.toList_zipIdx]
theorem xr{z:Nat}:∀(ps:List (Nat×Operand)) {xs:List PV} {s:St} {E:Env} {cells:Array Value} {xs':List PV} {s':St},Rel P O0 w0 F s E a.tmps w→m7 P z ps xs s=some (xs',s')→
  iu (fun b=>E.om b∨F b) w (da xs) cells.toList→(∀x∈xs,x.cells.length=z)→
  ∃E' cells',Instr.fill (fun i=>some (i*z,z)) cells (ps.map fun(i,x)=>(i,a.eval x))=some cells'∧Rel P O0 w0 F s' E' a.tmps w∧iu (fun b=>E'.om b∨F b) w (da xs') cells'.toList∧(∀x∈xs',x.cells.length=z)∧xs'.length=xs.length
 |[],xs,s,E,cells,xs',s',h,hf,hr,hz=>by
  cases hf
  exact⟨E,cells,rfl,h,hr,hz,rfl⟩
 |(i,x)::r,xs,s,E,cells,xs',s',h,hf,hr,hz=>by
  unfold m7 at hf;split at hf
  ·rename_i v hv;split at hf
   ·rename_i p s1 hfr;split at hf
    ·rename_i hc;obtain⟨E1,hom,h1,hro⟩:=xg h hfr (cq h hv);have hcs:=hro.cellsROs;have hlen:cells.size=xs.length*z:=by
      have:=hr.1;rw[i8 hz]at this;simpa using this
     have hsub:∀b,¬(E.om b∨F b)→¬(E1.om b∨F b):=fun b hn h6=>hn (h6.imp (hom b) id)
     have hle:i*z+z≤cells.size:=by
      rw[hlen,show i*z+z=(i+1)*z by rw[z04,Nat.one_mul]]
      exact z07 _ hc.2
     obtain⟨cells1,e1,e2⟩:=M4 (place:=fun i=>some (i*z,z)) (cells:=cells) (i:=i) (v:=a.eval x) (rest:=r.map fun(i,x)=>(i,a.eval x)) rfl (by have:=hcs.1;simp only[z19]at this;rw[this,hc.1]) hle
     have hr1:iu (fun b=>E1.om b∨F b) w (da (xs.set i p)) cells1.toList:=by
      rw[Ja hz hc.2 hc.1,e2];exact(((hr.sub hsub).take _).append hcs).append ((hr.sub hsub).drop _)
     obtain⟨E2,cells2,f1,f2,f3,f4,f5⟩:=xr r h1 hf hr1 (fun y hy=>by
      rcases List.mem_or_eq_of_mem_set hy with hy|rfl
      ·exact hz y hy
      ·exact hc.1)
     exact⟨E2,cells2,by rw[z21];exact e1.trans f1,f2,f3,f4,by rw[f5,List.length_set]⟩
    ·cases hf
   ·cases hf
  ·cases hf
theorem Fl(h:Rel P O0 w0 F s E a.tmps w){t e n:Nat}{ez eb:Nat}{ea:Bool}{ps:Array (Nat×Operand)}{z:PV}{xs':List PV}{s':St}(d:Nat)(hT:tk P t= .sl e ez eb ea)(hz:ax P e=some z)
  (hn:n*ez≤16777216) (hez:0<ez) (hm:n≤maxLen) (hf:m7 P ez ps.toList (z01 n z) s=some (xs',s')):
  ∃v w' E',(Instr.buildSlice t n (ps.map fun(i,x)=>(i,a.eval x))).run P w= .ok v w'∧Rel P O0 w0 F (put d (.own e xs') s') E' (a.tmps.setIfInBounds d v) w':=by
 obtain⟨hu,hce,_⟩:=p9 hT;obtain⟨ie,zv,hie,hzv,hzs,hro,hzl⟩:=nz (P:=P) (w:=w) (A:=fun b=>E.om b∨F b) hz
 have hsz:ie.size=ez:=by rw[←hce];simp[Program.cellsOf,hie]
 have h0:=I3 hro n;rw[hzl]at h0;obtain⟨E1,cells',f1,f2,f3,f4,f5⟩:=xr ps.toList h hf h0 (fun x hx=>by rw[z02 hx,hzl,hsz])
 have hl:xs'.length=n:=by simpa using f5
 obtain⟨E',hE⟩:=f2.newRow (e:=e) (vs:=cells') d f3 (fun x hx=>by rw[f4 x hx,hce]) n (by omega) hm #[] (by simp[hl])
 rw[hl]at hE;simp only[Array.append_empty]at hE;refine⟨_,_,E', ?_,hE⟩;rcases z03 n with h1|h1
 ·subst h1;rw[Nat.zero_mul]at f1;have hx:xs'=[]:=z00 hl;have r0:Array.range 0= #[]:=rfl;simp only[madeCells,hsz,r0,Array.map_empty]at f1;simp[Instr.buildSlice,run_underlying hu,sizeOf,typeInfo,hie,newRow,r0];have f1':Instr.fill (fun i=>some (i*ie.size,ie.size)) #[] (List.map (fun x=>(x.fst,a.eval x.snd)) ps.toList)=some cells':=by
   rw[hsz];simpa using f1
  rw[f1'];simp
 ·refine run_buildSlice w t e n _ cells' ie zv hu hie hzv (by rw[hsz];omega) (by rw[hsz];have:=z24 h1 hez;omega) ?_
  rw[Array.toList_map,hsz];rw[hsz]at f1;exact f1
theorem Gu(h:Rel P O0 w0 F s E a.tmps w){t e:Nat}{ez eb:Nat}{ea:Bool}{z:PV}(d:Nat){n m:Int}(hT:tk P t= .sl e ez eb ea)(hz:ax P e=some z)
  (hez:0<ez) (h0:0≤n) (h1:n≤m) (h2:eb*m≤aw) (h3:m≤aw):
  ∃v w' E',(Instr.makeSlice t (.int .i64 n) (.int .i64 m)).run P w= .ok v w'∧Rel P O0 w0 F (put d (.own e (z01 n.toNat z)) s) E' (a.tmps.setIfInBounds d v) w':=by
 obtain⟨hu,hce,hbe⟩:=p9 hT;obtain⟨ie,zv,hie,hzv,hzs,hro,hzl⟩:=nz (P:=P) (w:=w) (A:=fun b=>E.om b∨F b) hz
 have hsz:ie.size=ez:=by rw[←hce];simp[Program.cellsOf,hie]
 have hby:ie.bytes=eb:=by rw[←hbe];simp[Program.bytesOf,hie]
 have hr:=run_make (P:=P) w t e ie zv hu hie hzv .i64 .i64 n m h0 h1 (by rw[hby];unfold aw at h2;omega) (by unfold aw at h3;omega)
 have hros:=I3 hro n.toNat;rw[hzl,hsz]at hros;have hmm:madeCells zv.cells (m.toNat*ez)=madeCells zv.cells (n.toNat*ez)++(madeCells zv.cells (m.toNat*ez)).extract (n.toNat*ez) (m.toNat*ez):=by
  have hle:n.toNat*ez≤m.toNat*ez:=z07 _ (by omega)
  apply Array.ext
  ·simp[size_madeCells];omega
  ·intro i hi1 hi2;simp only[madeCells,Array.getElem_append,Array.size_map,Array.size_range,Array.getElem_map,Array.getElem_range,Array.getElem_extract];split
   ·rfl
   ·simp only[size_madeCells]at*
    congr 2
    omega
 obtain⟨E',hE⟩:=h.newRow (e:=e) (xs:=z01 n.toNat z) (vs:=madeCells zv.cells (n.toNat*ez)) d hros (fun x hx=>by rw[z02 hx,hzl,hsz,hce]) m.toNat (by simp;omega) (by unfold aw at h3;simp only[maxLen];omega)
  ((madeCells zv.cells (m.toNat*ez)).extract (n.toNat*ez) (m.toNat*ez)) (by simp[size_madeCells,hce,Nat.sub_mul])
 refine⟨_,_,E',hr, ?_⟩;rw[hsz,hmm];simpa using hE
end
end Go.Ck
namespace Go.Ck
open Go.RowKit
def Env.addObj(E:Env)(o b:Nat):Env:= { E with obj:=fun o'=>if o'=o then b else E.obj o',om:=fun k=>E.om k∨k=b }
theorem bz(E:Env)(o b:Nat):(E.addObj o b).obj o=b:=by simp[Env.addObj]
theorem bw(E:Env){o o':Nat}(b:Nat)(h:o'≠o):(E.addObj o b).obj o'=E.obj o':=by simp[Env.addObj,h]
theorem j3:∀ {l:List SV},ic l=true→∀c∈l,(∀o,c.pts o=false)∧(∀q,c.on q=false)∧c.easy=true∧ue c=true
 |[],_,_,h=>by cases h
 |d::r,hl,c,hc=>by
  cases d<;>simp[ic]at hl
  ·rcases z12.1 hc with rfl|hc
   ·exact⟨fun _=>rfl,fun _=>rfl,rfl,hl.1⟩
   ·exact j3 hl.2 c hc
  ·rcases z12.1 hc with rfl|hc
   ·exact⟨fun _=>rfl,fun _=>rfl,rfl,rfl⟩
   ·exact j3 hl c hc
section
variable {P : Program} {O0 : Base} {F : Nat → Prop} {w0 w : World} {s : St} {E : Env} {tmps : Array Value}
theorem RS.addObj{A A':Nat→Prop}{w w':World}{v:SV}{y:Value}{o b:Nat}(hg:∀b,b<w.heap.size→¬A b→¬A' b∧w'.heap[b]?=w.heap[b]?)(h:RS P A E w v y)(hp:v.pts o=false):RS P A' (E.addObj o b) w' v y:=by
 induction h with
 |pv q y h=>exact .pv q y (h.mono hg)
 |nils=>exact .nils
 |al q=>exact .al (E:=E.addObj o b) q
 |vw q e off n y h=>exact .vw q e off n y h
 |ptr o' off=>
  have hne:o'≠o:=by simpa[SV.pts]using hp
  have:=RS.ptr (P:=P) (A:=A') (E:=E.addObj o b) (w:=w') o' off
  rwa [bw _ _ hne]at this
 |ea q e i j b' h=>exact .ea q e i j b' h
 |ra c j vs ad hs h hm=>
  refine .ra c j vs ad hs (h.mono hg) (fun i v hv=> ?_)
  obtain⟨hA,hc⟩:=hm i v hv;have hlt:=World.block_lt_of_cell? w _ hc;obtain⟨hA',hb⟩:=hg _ hlt hA;refine⟨hA', ?_⟩;rw[World.cell?_of_block (w:=w) hb];exact hc
 |fn f caps vs hl h1 h ih=>
  refine .fn f caps vs hl h1 (fun i c v hc hv=>ih i c v hc hv ?_)
  have h2:=List.all_eq_true.1 h1 c (z06 hc);simp only[SV.pts,List.any_eq_false]at hp;have h3:=hp c (z06 hc);cases c<;>simp[dr]at h2
  ·rfl
  ·simpa[SV.pts]using h3
 |agg cs vs hl h1 h ih=>exact .agg cs vs hl h1 (fun i c v hc hv=>ih i c v hc hv ((j3 h1 c (z06 hc)).1 o))
 |yl l=>exact .yl l
 |lit xs g cur e fr h1 h2 h3=>
  have hlt:=(z08.1 h2).1;obtain⟨a1,a2⟩:=hg _ hlt h1;exact .lit xs g cur e fr a1 (by rw[a2];exact h2) (h3.mono hg)
 |bm f o'=>
  have hne:o'≠o:=by simpa[SV.pts]using hp
  have:=RS.bm (P:=P) (A:=A') (E:=E.addObj o b) (w:=w') f o'
  rwa [bw _ _ hne]at this
 |os o' off n cap hc=>
  have hne:o'≠o:=by simpa[SV.pts]using hp
  have:=RS.os (P:=P) (A:=A') (E:=E.addObj o b) (w:=w') o' off n cap hc
  rwa [bw _ _ hne]at this
 |mp o'=>
  have hne:o'≠o:=by simpa[SV.pts]using hp
  have:=RS.mp (P:=P) (A:=A') (E:=E.addObj o b) (w:=w') o'
  rwa [bw _ _ hne]at this
def HO.list:HO→List SV
 | .cells _ cs=>cs
 | .mp _=> []
theorem cv(s:St)(o i:Nat):s.at (.cell o i)=match aj o s.hp with|some h=>h.list[i]?|none=>none:=by
 simp only[St.at];cases aj o s.hp with
 |none=>rfl
 |some h=>cases h<;>simp[HO.list]
theorem pu{A:Nat→Prop}{p:Place}{v:SV}{x:Value}(he:v.easy=true)(h:v= .dead∨RS P A E w v x):ip P A E w p v x:=by
 rcases h with rfl|h
 ·trivial
 ·cases v<;>first|exact h|exact trivial|(simp[SV.easy]at he;done)
theorem Rel.newObj(h:Rel P O0 w0 F s E tmps w){d:Nat}(hl:aj d s.hp=none)(hh:HO)(ob:Obj)(hok:HOK P (fun b=>(E.om b∨b=w.heap.size)∨F b) (E.addObj d w.heap.size) (w.alloc ob) d hh)
  (hc:∀(i:Nat) (c:SV),hh.list[i]?=some c→c.easy=true∧(∃v,(w.alloc ob).cell? ⟨w.heap.size,i,none⟩=some v∧(c= .dead∨RS P (fun b=>E.om b∨F b) E w c v))∧(∀q,c.on q=false)∧∀o,c.pts o=true→∃y,aj o s.hp=some y):
  Rel P O0 w0 F ⟨s.n,s.sl,(d,hh)::s.hp⟩ (E.addObj d w.heap.size) tmps (w.alloc ob):=by
 have hA:∀b,b<w.heap.size→¬(E.om b∨F b)→¬((E.om b∨b=w.heap.size)∨F b)∧(w.alloc ob).heap[b]?=w.heap[b]?:=by
  intro b hb hn;refine⟨?_,heap_alloc_old w ob hb⟩;rintro((h3|h3)|h3)
  ·exact hn (.inl h3)
  ·omega
  ·exact hn (.inr h3)
 have hnew:∀v:SV,(∀o,v.pts o=true→∃y,aj o s.hp=some y)→v.pts d=false:=by
  intro v hv;cases hp:v.pts d with
  |false=>rfl
  |true=>
   obtain⟨y,hy⟩:=hv d hp;rw[hl]at hy;cases hy
 have hat:∀p u,(St.mk s.n s.sl ((d,hh)::s.hp)).at p=some u→(∃i,p= .cell d i∧hh.list[i]?=some u)∨((∀i,p≠ .cell d i)∧s.at p=some u):=by
  intro p u hp;cases p with
  |slot d'=>exact .inr ⟨by simp,hp⟩
  |part d' i=>exact .inr ⟨by simp,hp⟩
  |cell o i=>
   rw[cv]at hp;simp only[aj]at hp;split at hp
   ·rename_i h' he;split at he
    ·rename_i e;subst e;cases he;exact .inl ⟨i,rfl,hp⟩
    ·rename_i e;exact .inr ⟨by simpa using fun h=>absurd h.symm e,by rw[cv,he];exact hp⟩
   ·cases hp
 have hlk:∀o y,aj o ((d,hh)::s.hp)=some y→(o=d∧y=hh)∨(o≠d∧aj o s.hp=some y):=by
  intro o y hy;simp only[aj]at hy;split at hy
  ·rename_i e;subst e;cases hy;exact .inl ⟨rfl,rfl⟩
  ·rename_i e;exact .inr ⟨fun h=>e h.symm,hy⟩
 have hlk':∀o y,aj o s.hp=some y→aj o ((d,hh)::s.hp)=some y:=by
  intro o y hy;simp only[aj];rw[if_neg (by rintro rfl;rw[hl]at hy;cases hy)]
  exact hy
 have hkeep:∀p u,s.at p=some u→(St.mk s.n s.sl ((d,hh)::s.hp)).at p=some u:=by
  intro p u hp;cases p with
  |slot d'=>exact hp
  |part d' i=>exact hp
  |cell o i=>
   rw[cv]at hp⊢;split at hp
   ·rename_i h' he;rw[show aj o (St.mk s.n s.sl ((d,hh)::s.hp)).hp=some h' from hlk' o h' he]
    exact hp
   ·cases hp
 have hsz:(w.alloc ob).heap.size=w.heap.size+1:=by simp
 refine { place:= ?_,obj:= ?_,size:=h.size,i1:= ?_,i2:= ?_,i3:= ?_,om_lt:= ?_,om0:= ?_,na:= ?_,np:= ?_,gr:= ?_,flt:=h.flt,ob:= ?_ }
 ·intro p v hp;rcases hat p v hp with⟨i,rfl,hi⟩|⟨hne,hp'⟩
  ·obtain⟨h1,⟨x,h2,h3⟩,h4,h5⟩:=hc i v hi;refine⟨x,by simp only[CV,bz];exact h2,pu h1 (h3.imp id fun h6=>h6.addObj hA (hnew v h5))⟩
  ·obtain⟨x,hx,hv⟩:=h.place p v hp';refine⟨x, ?_, ?_⟩
   ·cases p with
    |slot d'=>exact hx
    |part d' i=>exact hx
    |cell o i=>
     have hod:o≠d:=by rintro rfl;exact hne i rfl
     simp only[CV,bw _ _ hod]at hx⊢;have hlt:=World.block_lt_of_cell? w _ hx;exact(World.cell?_of_block (w:=w) (a:=⟨E.obj o,i,none⟩) (heap_alloc_old w ob hlt)).trans hx
   ·cases v<;>simp only[ip]at hv⊢
    case own e xs=>
     obtain⟨h1,h2,h3⟩:=hv;exact⟨h1,h2.kept hA (fun b hb=>heap_alloc_old w ob (h.om_lt b (h3 b hb)).1),fun b hb=> .inl (h3 b hb)⟩
    case tup vs=>exact hv
    all_goals exact hv.addObj hA (hnew _ (fun o ho=>h.np p _ o hp' ho))
 ·intro o y hy;rcases hlk o y hy with⟨rfl,rfl⟩|⟨hne,hy'⟩
  ·refine⟨.inr (bz _ _ _),hok⟩
  ·obtain⟨h1,h2⟩:=h.obj o y hy';refine⟨?_, ?_⟩
   ·rw[bw _ _ hne];exact .inl h1
   ·have hb:=heap_alloc_old w ob (h.om_lt _ h1).1;cases y with
    |cells e cs=>
     obtain⟨vs,h3,h4⟩:=h2;exact⟨vs,by rw[bw _ _ hne];exact hb.trans h3,h4⟩
    |mp es=>
     obtain⟨ms,c,h3,h4,h5⟩:=h2;exact⟨ms,c,by rw[bw _ _ hne];exact hb.trans h3,h4,fun i kv m hk hm=>⟨(h5 i kv m hk hm).1.mono hA,(h5 i kv m hk hm).2.mono hA⟩⟩
 ·intro o o' y y' hy hy' he;rcases hlk o y hy with⟨rfl,rfl⟩|⟨hne,h1⟩
  ·rcases hlk o' y' hy' with⟨rfl,_⟩|⟨hne',h2⟩
   ·rfl
   ·rw[bz,bw _ _ hne']at he;have:=(h.om_lt _ (h.obj o' y' h2).1).1;omega
  ·rcases hlk o' y' hy' with⟨rfl,_⟩|⟨hne',h2⟩
   ·rw[bz,bw _ _ hne]at he;have:=(h.om_lt _ (h.obj o y h1).1).1;omega
   ·rw[bw _ _ hne,bw _ _ hne']at he;exact h.i1 o o' y y' h1 h2 he
 ·intro p q e xs e' ys b hp hq hpb hqb;rcases hat p _ hp with⟨i,rfl,hi⟩|⟨_,hp'⟩
  ·have:=(hc i _ hi).1;simp[SV.easy]at this
  ·rcases hat q _ hq with⟨i,rfl,hi⟩|⟨_,hq'⟩
   ·have:=(hc i _ hi).1;simp[SV.easy]at this
   ·exact h.i2 p q e xs e' ys b hp' hq' hpb hqb
 ·intro p e xs o y b hp hy hpb;rcases hat p _ hp with⟨i,rfl,hi⟩|⟨_,hp'⟩
  ·have:=(hc i _ hi).1;simp[SV.easy]at this
  ·rcases hlk o y hy with⟨rfl,rfl⟩|⟨hne,h1⟩
   ·rw[bz];obtain⟨_,_,_,_,h3⟩:=h.place p _ hp';have:=(h.om_lt b (h3 b hpb)).1;omega
   ·rw[bw _ _ hne];exact h.i3 p e xs o y b hp' h1 hpb
 ·rintro b (hb|hb)
  ·have:=h.om_lt b hb;exact⟨by rw[hsz];omega,this.2⟩
  ·subst hb;exact⟨by rw[hsz];omega,fun hf=>by have h1:=h.flt _ hf;have h2:=h.gr.size;omega⟩
 ·rintro b (hb|hb)
  ·exact h.om0 b hb
  ·subst hb;exact .inr h.gr.size
 ·intro p v q hp hq;rcases hat p _ hp with⟨i,rfl,hi⟩|⟨_,hp'⟩
  ·rw[(hc i v hi).2.2.1 q]at hq;cases hq
  ·obtain⟨h1,⟨e,xs,h2⟩,h3⟩:=h.na p v q hp' hq;exact⟨h1,⟨e,xs,hkeep q _ h2⟩,h3⟩
 ·intro p v o hp ho;rcases hat p _ hp with⟨i,rfl,hi⟩|⟨_,hp'⟩
  ·obtain⟨y,hy⟩:=(hc i v hi).2.2.2 o ho;exact⟨y,hlk' o y hy⟩
  ·obtain⟨y,hy⟩:=h.np p v o hp' ho;exact⟨y,hlk' o y hy⟩
 ·exact h.gr.trans (Grow.alloc w ob) (by simp)
 ·intro o k hok;obtain⟨h1,y,hy⟩:=h.ob o k hok;have hne:o≠d:=by rintro rfl;rw[hl]at hy;cases hy
  exact⟨by rw[bw _ _ hne];exact h1,y,hlk' o y hy⟩
end
end Go.Ck
namespace Go.Ck
open Go.RowKit
section
variable {P : Program} {O0 : Base} {F : Nat → Prop} {w0 w : World} {s : St} {E : Env} {tmps : Array Value}
theorem Pk{p q:Place}{e e':TypeId}{xs ys:List PV}{u:SV}(hp:s.at p=some u)(hu:u.isTup=false)(h:(xy p s).at q=some (.own e' ys))(hpk:∃u',(kill p s).at p=some u'∧u'.isTup=false):q≠p∧s.at q=some (.own e' ys):=by
 obtain⟨u',h1,h2⟩:=hpk;unfold xy at h;rcases m6 h1 h2 rfl h with⟨_,h3⟩|⟨hne,h3⟩|⟨_,_,_,_,_,_,h3⟩
 ·cases h3
 ·exact⟨hne,z6 p s h3⟩
 ·cases h3
theorem s4(h:Rel P O0 w0 F s E tmps w){p q:Place}{e:TypeId}{xs:List PV}{u:SV}(hp:s.at p=some (.own e xs))(hq:s.at q=some u)(hu:u= .dead)(hne:q≠p)(hcv:CV E tmps w q (E.hdr p))(hqp:∀d i,q≠ .part d i):
  ∃E',Rel P O0 w0 F (si p q e xs s) E' tmps w:=by
 subst hu;obtain⟨h1,h2,h3,h4⟩:=h.take hp;have hdq:(xy p s).at q=some .dead:=by
  unfold xy;refine wh (u:= .own e xs) (nq p s hp) rfl ?_ hne rfl;cases q with
  |slot d=>simp only[St.at,Ck.kill,kq]at hq⊢;simp[hq,SV.on]
  |part d i=>exact absurd rfl (hqp d i)
  |cell o i=>exact hq
 have hkq:(Ck.kill q (xy p s)).at q=some .dead:=by
  cases q with
  |slot d=>simp only[St.at,Ck.kill,kq]at hdq⊢;simp[hdq,SV.on]
  |part d i=>exact absurd rfl (hqp d i)
  |cell o i=>exact hdq
 have h5:=h4.kill q;have h6:=h5.recast (v:= .own e xs) (y:=E.hdr p) (x:=E.hdr p) hkq rfl rfl (h4.free_kill q) rfl (by cases q<;>exact hcv) (.inr rfl)
  (by simp only[ip,ci];exact⟨trivial,h2,fun b hb=>(h3 b hb).1⟩) (by simp[SV.on])
  (fun _ b hb=>⟨(h3 b hb).1,fun o y hl=>(h3 b hb).2.1 o y hl,fun r e' ys hr hrs=>(h3 b hb).2.2 r e' ys (z6 q _ hrs)⟩) (by simp[SV.pts])
 unfold si;simp only;cases p with
 |part d i=>exact⟨_,h6⟩
 |cell o i=>exact⟨_,h6⟩
 |slot d=>
  simp only;have hq6:(cm q (.own e xs) (Ck.kill q (xy (.slot d) s))).at q=some (.own e xs):=Bh hkq;have hdd:d<s.n:=by
   rw[h.size];exact(z08.1 h1).1
  have hn:(cm q (.own e xs) (Ck.kill q (xy (.slot d) s))).n=s.n:=by
   rw[vt];show(xy (.slot d) s).n=s.n;unfold xy;rw[vt];rfl
  have hds:∀e' ys,(cm q (.own e xs) (Ck.kill q (xy (.slot d) s))).at (.slot d)≠some (.own e' ys):=by
   intro e' ys he;rcases m6 hkq rfl rfl he with⟨h7,_⟩|⟨_,h7⟩|⟨_,_,_,_,_,_,h7⟩
   ·exact hne h7.symm
   ·have h8:=z6 q _ h7;rw[Vu hp rfl ⟨e,xs,rfl⟩]at h8;cases h8
   ·cases h7
  have hx:tmps[d]?=some (E.hdr (.slot d)):=h1;have hsame:tmps.setIfInBounds d (E.hdr (.slot d))=tmps:=by
   apply Array.ext_getElem?
   intro i;rw[Array.getElem?_setIfInBounds];split
   ·rename_i e;subst e
    split
    ·exact hx.symm
    ·rw[Array.getElem?_eq_none (by omega)]
   ·rfl
  have hrs:RS P (fun b=>(E.setHdr q (E.hdr (.slot d))).om b∨F b) (E.setHdr q (E.hdr (.slot d))) w (.al q) (E.hdr (.slot d)):=by
   have:=RS.al (P:=P) (A:=fun b=>(E.setHdr q (E.hdr (.slot d))).om b∨F b) (E:=E.setHdr q (E.hdr (.slot d))) (w:=w) q
   rwa [ci]at this
  have h9:=h6.easySlot (d:=d) (v:= .al q) (x:=E.hdr (.slot d)) (by rw[hn];exact hdd) (h6.free_of hds) rfl (.inr hrs)
   (fun r hr=>by
    have:q=r:=by simpa[SV.on]using hr
    subst this;exact⟨hne,⟨e,xs,hq6⟩,hqp⟩) (by simp[SV.pts])
  rw[hsame]at h9;exact⟨_,h9⟩
end
end Go.Ck
