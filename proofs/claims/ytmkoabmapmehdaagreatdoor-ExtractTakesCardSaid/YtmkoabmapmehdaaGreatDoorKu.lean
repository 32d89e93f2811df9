/- What is proved here: parts of the proofs of this seat's statements (a verified evaluator for calls over pure values, its laws, and contracts of functions). No condition. -/
import Derived.Test.YtmkoabmapmehdaaGreatDoorKt
set_option linter.all false
open List renaming take_of_length_le→z00,getD_eq_getElem?_getD→z04,length_take→z05,mem_of_mem_take→z06,length_cons→z09,getElem?_eq_getElem→z11,length_nil→z14,replicate→z16,take_length→z19,take_succ_eq_append_getElem→z27,getElem?_map→z28,length_replicate→z37,getElem?_eq_none→z38
open Nat renaming pow_le_pow_right→z01,pow_succ→z02,mul_comm→z03,mul_le_mul_right→z07,mul_add→z08,mod_eq_of_lt→z10,div_add_mod→z12,pow_pos→z13,zero_add→z15,zero_le→z17,add_assoc→z18,eq_zero_of_not_pos→z20,div_div_eq_div_mul→z21,div_lt_iff_lt_mul→z22,add_mul→z23,mul_assoc→z24,mod_lt→z25,lt_of_lt_of_le→z26,le_trans→z29,add_zero→z30,div_eq_of_lt→z33,pow_add→z34,min_eq_left→z36,le_div_iff_mul_le→z39,div_le_div_right→z40,add_mul_div_left→z41,mul_le_mul_left→z42,lt_of_not_le→z44,div_pos_iff→z45,mul_zero→z47,le_refl→z48,mod_le→z49
open Bool renaming eq_iff_iff→z35
open Array renaming replicate→z43
namespace Go.Ck
theorem um(a:List Nat):∀i,gw (a.take (i+1))=gw (a.take i)+256^i*a.getD i 0:=by
 intro i;by_cases h:i<a.length
 ·rw[z27 h,oo,z05,z36 (by omega),z04,z11 h]
  simp[gw]
 ·rw[z00 (by omega),z00 (by omega),z04,z38 (by omega)]
  simp
theorem ai1{u v n:Nat}(h:u % 256^n=v % 256^n):fk u n=fk v n:=by rw[←O7 u,←O7 v,h]
theorem R8{s x n:Nat}:fk (s+256^n*x) (n+1)=fk s n++[(s/256^n+x) % 256]:=by
 rw[Dc,ai1 (u:=s+256^n*x) (v:=s) (by rw[Nat.add_mul_mod_self_left]),z41 _ _ (z13 (by decide))]
theorem ajq{s x n:Nat}:(s+256^n*x)/256^ (n+1)=(s/256^n+x)/256:=by
 rw[z02,←z21,z41 _ _ (z13 (by decide))]
def lw(a b:List Nat)(i:Nat):Nat:=gw (a.take i)+gw (b.take i)
theorem L3(a b:List Nat)(i:Nat):lw a b (i+1)=lw a b i+256^i*(a.getD i 0+b.getD i 0):=by
 unfold lw;rw[um,um,z08];omega
theorem C0{a b:List Nat}{i:Nat}(h1:a.length≤i)(h2:b.length≤i):lw a b i=gw a+gw b:=by
 unfold lw;rw[z00 h1,z00 h2]
def aa1(a b:List Nat):Nat:=if gw a+gw b<256^max a.length b.length then max a.length b.length else max a.length b.length+1
def Gp(a b:List Nat):List Nat:=fk (gw a+gw b) (aa1 a b)
theorem Oq{a b:List Nat}(ha:∀x∈a,x<256)(hb:∀x∈b,x<256)(i:Nat):lw a b i<2*256^i:=by
 have h1:=A8 (a.take i) (fun x hx=>ha x (z06 hx))
 have h2:=A8 (b.take i) (fun x hx=>hb x (z06 hx))
 have h3:256^ (a.take i).length≤256^i:=z01 (by omega) (by rw[z05];omega)
 have h4:256^ (b.take i).length≤256^i:=z01 (by omega) (by rw[z05];omega)
 unfold lw;omega
theorem Jf{a b:List Nat}(ha:∀x∈a,x<256)(hb:∀x∈b,x<256):gw (Gp a b)=gw a+gw b:=by
 unfold Gp;rw[mi];refine z10 ?_;unfold aa1;split
 ·assumption
 ·have h:=Oq ha hb (max a.length b.length);rw[C0 (by omega) (by omega)]at h
  rw[z02];omega
theorem Ns(a b:List Nat):∀x∈Gp a b,x<256:=i6 _ _
theorem Tb(a b:List Nat):(Gp a b).length≤max a.length b.length+1:=by
 unfold Gp aa1;rw[ff];split<;>omega
theorem akb{a b:List Nat}{i:Nat}(ha:a.length≤i)(hb:b.length≤i)(hc:lw a b i/256^i=0)(h:i≤max a.length b.length∨(i=max a.length b.length+1∧256^max a.length b.length≤gw a+gw b)):fk (lw a b i) i=Gp a b:=by
 rw[C0 ha hb]at hc⊢;unfold Gp aa1;rcases h with h|⟨h,h2⟩
 ·have hi:i=max a.length b.length:=by omega
  have hlt:gw a+gw b<256^max a.length b.length:=by
   rw[←hi];exact(Nat.div_eq_zero_iff_lt (z13 (by decide))).1 hc
  rw[if_pos hlt,hi]
 ·rw[if_neg (by omega),h]
def N1(a b:List Nat):List Nat:=fk (gw a*gw b) (a.length+b.length+1)
theorem Mp(a b:List Nat):∀x∈N1 a b,x<256:=i6 _ _
theorem Rw(a b:List Nat):(N1 a b).length=a.length+b.length+1:=ff _ _
theorem Zm{a b:List Nat}(ha:∀x∈a,x<256)(hb:∀x∈b,x<256):gw a*gw b<256^ (a.length+b.length):=by
 rw[z34];exact Nat.mul_lt_mul'' (A8 a ha) (A8 b hb)
theorem Rv{a b:List Nat}(ha:∀x∈a,x<256)(hb:∀x∈b,x<256):gw (N1 a b)=gw a*gw b:=by
 unfold N1;rw[mi];refine z10 (z26 (Zm ha hb) (z01 (by decide) (by omega)))
theorem Zy{w n k y:Nat}(hk:k<n)(hy:y<256):(fk w n).set k y=fk (w % 256^n-(w/256^k % 256)*256^k+y*256^k) n:=by
 have hg:=Cs w n k hk;have hsplit:fk w n=(fk w n).take k++(w/256^k % 256)::(fk w n).drop (k+1):=by
  have h1:k<(fk w n).length:=by rw[ff];exact hk
  have h2:(fk w n)[k]=w/256^k % 256:=by
   have:=z11 h1;rw[hg]at this;exact(Option.some.inj this).symm
  rw[←h2,←List.drop_eq_getElem_cons h1,List.take_append_drop]
 have hl:((fk w n).take k).length=k:=by rw[z05,ff];omega
 have hset:(fk w n).set k y=(fk w n).take k++y::(fk w n).drop (k+1):=by
  conv=>lhs;rw[hsplit]
  rw[List.set_append_right _ _ (by omega),hl,Nat.sub_self,List.set_cons_zero]
 rw[hset];refine Db ?_ ?_ ?_
 ·rw[List.length_append,z09,hl,List.length_drop,ff];omega
 ·intro x hx;rcases List.mem_append.1 hx with h|h
  ·exact i6 n w x (z06 h)
  ·rcases List.mem_cons.1 h with h|h
   ·omega
   ·exact i6 n w x (List.mem_of_mem_drop h)
 ·have hv:gw (fk w n)=w % 256^n:=mi n w;rw[hsplit,oo,hl]at hv;rw[oo,hl];simp only[gw]at hv⊢;generalize gw ((fk w n).take k)=A at*;generalize gw ((fk w n).drop (k+1))=B at*;rw[←hv,z08,z08,z03 (256^k) (w/256^k % 256),z03 (256^k) y];omega
theorem ac9{W n k v c x:Nat}(hk:k<n)(hW:W<256^n)(hv:v=W/256^k % 256+c+x)(hlt:W+(c+x)*256^k<256^n*256):
  ∃W',(fk W n).set k (v % 256)=fk W' n∧W'<256^n∧W'+v/256*256^ (k+1)=W+(c+x)*256^k:=by
 refine⟨W % 256^n-(W/256^k % 256)*256^k+v % 256*256^k,Zy hk (z25 _ (by decide)), ?_, ?_⟩
 ·have h:=Zy (w:=W) (n:=n) (k:=k) (y:=v % 256) hk (z25 _ (by decide))
  have h2:=congrArg gw h;rw[mi]at h2;have h3:(W/256^k % 256)*256^k+W/256^ (k+1)*256^ (k+1)+W % 256^k=W:=by
   have e1:=z12 W (256^k);have e2:=z12 (W/256^k) 256;have e3:W/256^ (k+1)=W/256^k/256:=by rw[z02,z21]
   rw[e3,z02];generalize W/256^k=Q at*;generalize W % 256^k=R at*;generalize Q/256=q at*;generalize Q % 256=r at*;have e5:256^k*Q=q*(256^k*256)+r*256^k:=by
    rw[←e2,z08,z03 (256^k) r,z03 (256^k) (256*q),z03 256 q,z24 q 256,z03 256 (256^k)]
   omega
  rw[z10 hW];have h4:W/256^ (k+1)*256^ (k+1)+256^ (k+1)≤256^n:=by
   have h5:W/256^ (k+1)<256^ (n-(k+1)):=by
    rw[z22 (z13 (by decide)),←z34,show n-(k+1)+(k+1)=n by omega];exact hW
   have h6:(W/256^ (k+1)+1)*256^ (k+1)≤256^ (n-(k+1))*256^ (k+1):=z07 _ h5;rw[←z34,show n-(k+1)+(k+1)=n by omega,z23,Nat.one_mul]at h6
   exact h6
  have h7:W % 256^k<256^k:=z25 _ (z13 (by decide))
  have h8:v % 256*256^k≤255*256^k:=z07 _ (by omega)
  rw[z02]at h4 h3;omega
 ·rw[z10 hW,z02];have h1:(W/256^k % 256)*256^k≤W:=by
   refine z29 (z07 _ (z49 _ _)) (Nat.div_mul_le_self _ _)
  have h2:v % 256*256^k+v/256*(256^k*256)=v*256^k:=by
   have:=z12 v 256
   conv=>rhs;rw[←this]
   rw[z23,z03 256 (v/256),z24,z03 256 (256^k)];omega
  have h3:v*256^k=(W/256^k % 256)*256^k+(c+x)*256^k:=by rw[hv,z18,z23]
  omega
set_option maxRecDepth 100000
set_option maxHeartbeats 400000
open Go.Proofs
theorem Ze(i:Nat):Int.tdiv (i:Int) 256=((i/256:Nat):Int):=by rw[Int.tdiv_eq_ediv_of_nonneg (by omega)];rfl
theorem Zd(i:Nat):Int.tmod (i:Int) 256=((i % 256:Nat):Int):=by rw[Int.tmod_eq_emod_of_nonneg (by omega)];rfl
theorem un{l:List Nat}{i:Nat}(h:i<l.length):(ct l)[i]?=some (.int .i64 ((l.getD i 0:Nat):Int)):=by
 rw[Zt h,z04,z11 h];rfl
theorem I9{l:List Nat}{i:Nat}(h:¬i<l.length):l.getD i 0=0:=by
 rw[z04,z38 (by omega)];rfl
theorem Jg(a b:List Nat)(ha:∀x∈a,x<256)(hb:∀x∈b,x<256)(hla:a.length≤1000)(hlb:b.length≤1000):Fn Tryz.prog 145 [] [.pv (.sl 1 (ct a)),.pv (.sl 1 (ct b))] (fun rs H'=>rs=[.own 3 (ct (Gp a b))]∧H'=[]):=by
 refine Fn.ob Tryz.f145 54 [.tmp 4] fun C=> ?_
 have hr:aw=140737488355328:=rfl;have h256:((256:Int)=0)=False:=by simp
 have h00:lw a b 0/256^0=0:=by simp[lw,gw]
 refine aa ?_;refine aq (fun i:Nat=>⟨54,[(7,.pv (.int .i64 i)),(0,.pv (.sl 1 (ct a))),(1,.pv (.sl 1 (ct b))),(5,.own 3 (ct (fk (lw a b i) i))),(6,.pv (.int .i64 ((lw a b i/256^i:Nat):Int)))],[]⟩) (fun i=>i≤max a.length b.length∨(i=max a.length b.length+1∧256^max a.length b.length≤gw a+gw b)) (fun i=>max a.length b.length+1-i) [7,0,1,5,6] [] 0 (.inl (z17 _)) ?_ (hs:=by simp only[go_sem,↓reduceIte,h00]<;>rfl)
 rintro i hi K hK;have hS:=Oq ha hb i;have hcy:lw a b i/256^i≤1:=by
  have:lw a b i/256^i<2:=(z22 (z13 (by decide))).2 hS
  omega
 have hnx:lw a b (i+1)/256^ (i+1)=(lw a b i/256^i+(a.getD i 0+b.getD i 0))/256:=by rw[L3,ajq]
 have hout:ct (fk (lw a b i) i)++[.int .i64 (((lw a b i/256^i+a.getD i 0+b.getD i 0) % 256:Nat):Int)]=ct (fk (lw a b (i+1)) (i+1)):=by
  rw[L3,R8,th,jy,z18]
 have hll:=ff i (lw a b i);have ei:IntKind.i64.wrap ((i:Int)+1)=((i+1:Nat):Int):=ai (by omega)
 by_cases hgo:i<a.length∨i<b.length∨0<lw a b i/256^i
 ·have him:i≤max a.length b.length:=by
   rcases hi with h|⟨h,h2⟩
   ·exact h
   ·exfalso
    have h3:0<lw a b i/256^i:=by omega
    have h4:=Oq ha hb (max a.length b.length);rw[C0 (by omega) (by omega)]at h4 h3
    have h5:=(z45).1 h3;rw[h,z02]at h5;omega
  have hJ:i+1≤max a.length b.length∨(i+1=max a.length b.length+1∧256^max a.length b.length≤gw a+gw b):=by
   by_cases h:i+1≤max a.length b.length
   ·exact .inl h
   ·have hi2:i=max a.length b.length:=by omega
    refine .inr ⟨by omega, ?_⟩
    have h3:0<lw a b i/256^i:=by omega
    rw[C0 (by omega) (by omega)]at h3
    rw[←hi2];exact(z45.1 h3).2
  have ha8:=fj ha i;have hb8:=fj hb i;generalize hcc:lw a b i/256^i=c at*;refine Aj (T:= ?Tg) (fun hT=> ?_) ?_;rotate_left
  ·by_cases h1:i<a.length
   ·have d1:decide ((i:Int)<(a.length:Int))=true:=decide_eq_true (by omega)
    have d1':decide (i<a.length)=true:=decide_eq_true h1;refine ak ?_ (by simp only[go_sem,↓reduceIte,d1,d1']<;>rfl)
    refine bq [7,0,1,5,6,22] [] (s':=⟨54,[(7,.pv (.int .i64 i)),(0,.pv (.sl 1 (ct a))),(1,.pv (.sl 1 (ct b))),(5,.own 3 (ct (fk (lw a b i) i))),(6,.pv (.int .i64 c)),(22,.pv (.bool true))],[]⟩) ?_;exact hT ()
   ·have d1:decide ((i:Int)<(a.length:Int))=false:=decide_eq_false (by omega)
    have d1':decide (i<a.length)=false:=decide_eq_false h1;by_cases h2:i<b.length
    ·have d2:decide ((i:Int)<(b.length:Int))=true:=decide_eq_true (by omega)
     have d2':decide (i<b.length)=true:=decide_eq_true h2;refine ak ?_ (by simp only[go_sem,↓reduceIte,d1,d1',d2,d2']<;>rfl)
     refine bq [7,0,1,5,6,22] [] (s':=⟨54,[(7,.pv (.int .i64 i)),(0,.pv (.sl 1 (ct a))),(1,.pv (.sl 1 (ct b))),(5,.own 3 (ct (fk (lw a b i) i))),(6,.pv (.int .i64 c)),(22,.pv (.bool true))],[]⟩) ?_;exact hT ()
    ·have d2:decide ((i:Int)<(b.length:Int))=false:=decide_eq_false (by omega)
     have d2':decide (i<b.length)=false:=decide_eq_false h2;have d3:decide ((c:Int)>0)=true:=decide_eq_true (by omega)
     have d3':decide (0<c)=true:=decide_eq_true (by omega)
     refine ak ?_ (by simp only[go_sem,↓reduceIte,d1,d1',d2,d2',d3,d3']<;>rfl)
     refine bq [7,0,1,5,6,22] [] (s':=⟨54,[(7,.pv (.int .i64 i)),(0,.pv (.sl 1 (ct a))),(1,.pv (.sl 1 (ct b))),(5,.own 3 (ct (fk (lw a b i) i))),(6,.pv (.int .i64 c)),(22,.pv (.bool true))],[]⟩) ?_;exact hT ()
  refine am rfl ?_;refine aa ?_;refine Aj (T:= ?Ta) (fun hT=> ?_) ?_;rotate_left
  ·refine AW.cond rfl (fun hc=> ?_) (fun hc=> ?_)
   ·have h1:i<a.length:=by have:=of_decide_eq_true hc;omega
    have g1:=un h1;have w1:IntKind.i64.wrap ((c:Int)+((a.getD i 0:Nat):Int))=((c+a.getD i 0:Nat):Int):=au (n:=c+a.getD i 0) (by omega)
    refine aa ?_ (by simp only[go_sem,↓reduceIte,g1,w1]<;>rfl)
    refine bq [7,0,1,5,8,39] [] (s':=⟨54,[(7,.pv (.int .i64 i)),(0,.pv (.sl 1 (ct a))),(1,.pv (.sl 1 (ct b))),(5,.own 3 (ct (fk (lw a b i) i))),(8,.pv (.int .i64 ((c+a.getD i 0:Nat):Int))),(39,.pv (.bool (decide ((i:Int)<(b.length:Int)))))],[]⟩) ?_;exact hT ()
   ·have h1:¬i<a.length:=by have:=of_decide_eq_false hc;omega
    have g1:=I9 h1;refine aa ?_;refine AW.keepB [7,0,1,5,8,39] [] (s':=⟨54,[(7,.pv (.int .i64 i)),(0,.pv (.sl 1 (ct a))),(1,.pv (.sl 1 (ct b))),(5,.own 3 (ct (fk (lw a b i) i))),(8,.pv (.int .i64 ((c+a.getD i 0:Nat):Int))),(39,.pv (.bool (decide ((i:Int)<(b.length:Int)))))],[]⟩) (by simp only[go_sem,↓reduceIte]) (by simp only[go_sem,↓reduceIte,g1]<;>rfl) ?_
    exact hT ()
  have e1:=Ze (c+a.getD i 0+b.getD i 0);have e2:=Zd (c+a.getD i 0+b.getD i 0);have e3:IntKind.i64.wrap (((c+a.getD i 0+b.getD i 0)/256:Nat):Int)=(((c+a.getD i 0+b.getD i 0)/256:Nat):Int):=au (by omega)
  have e4:IntKind.i64.wrap (((c+a.getD i 0+b.getD i 0) % 256:Nat):Int)=(((c+a.getD i 0+b.getD i 0) % 256:Nat):Int):=au (by omega)
  have hnx2:lw a b (i+1)/256^ (i+1)=(c+a.getD i 0+b.getD i 0)/256:=by rw[hnx,z18]
  have r1:((i+1)*8≤aw)=True:=eq_true (by omega)
  have r2:(i+1≤aw)=True:=eq_true (by omega)
  refine AW.cond rfl (fun hc=> ?_) (fun hc=> ?_)
  ·have h1:i<b.length:=by have:=of_decide_eq_true hc;omega
   have g1:=un h1;have w1:IntKind.i64.wrap (((c+a.getD i 0:Nat):Int)+((b.getD i 0:Nat):Int))=((c+a.getD i 0+b.getD i 0:Nat):Int):=au (n:=c+a.getD i 0+b.getD i 0) (by omega)
   refine aa ?_ (by simp only[go_sem,↓reduceIte,g1,w1,h256,e1,e2,e3,e4,hout,hll,bh,r1,r2,z09,z14,z15,ei]<;>rfl)
   refine ah hK (i+1) hJ ?_ (hs:=by simp only[go_sem,↓reduceIte,hnx2]<;>rfl)
   omega
  ·have h1:¬i<b.length:=by have:=of_decide_eq_false hc;omega
   have g1:=I9 h1;rw[g1,z30]at hout hnx2 e1 e2 e3 e4;refine aa ?_ (by simp only[go_sem,↓reduceIte,h256,e1,e2,e3,e4,hout,hll,bh,r1,r2,z09,z14,z15,ei]<;>rfl)
   refine ah hK (i+1) hJ ?_ (hs:=by simp only[go_sem,↓reduceIte,hnx2]<;>rfl)
   omega
 ·have h1:¬i<a.length:=fun h=>hgo (.inl h)
  have h2:¬i<b.length:=fun h=>hgo (.inr (.inl h))
  have h3:lw a b i/256^i=0:=z20 (fun h=>hgo (.inr (.inr h)))
  have hend:=akb (a:=a) (b:=b) (i:=i) (by omega) (by omega) h3 hi
  rw[hend,h3];have d1:decide ((i:Int)<(a.length:Int))=false:=decide_eq_false (by omega)
  have d1':decide (i<a.length)=false:=decide_eq_false h1;have d2:decide ((i:Int)<(b.length:Int))=false:=decide_eq_false (by omega)
  have d2':decide (i<b.length)=false:=decide_eq_false h2;refine ak ?_ (by simp only[go_sem,↓reduceIte,d1,d1',d2,d2']<;>rfl)
  refine ae rfl ?_;refine aa ?_;refine ac (.move rfl .nil) rfl
theorem Rx(a b:List Nat)(ha:∀x∈a,x<256)(hb:∀x∈b,x<256)(hla:a.length≤1000)(hlb:b.length≤1000):Fn Tryz.prog 144 [] [.pv (.sl 1 (ct a)),.pv (.sl 1 (ct b))] (fun rs H'=>rs=[.pv (.sl 1 (ct (N1 a b)))]∧H'=[]):=by
 refine Fn.ob Tryz.f144 66 [.tmp 4] fun C=> ?_
 have hr:aw=140737488355328:=rfl;have h256:((256:Int)=0)=False:=by simp
 generalize hn:a.length+b.length+1=n;have w0:IntKind.i64.wrap ((a.length:Int)+(b.length:Int))=((a.length+b.length:Nat):Int):=au (n:=a.length+b.length) (by omega)
 have w1:IntKind.i64.wrap (((a.length+b.length:Nat):Int)+1)=(n:Int):=by rw[←hn];exact au (n:=a.length+b.length+1) (by omega)
 have r0:(8*(n:Int)≤(aw:Int))=True:=eq_true (by omega)
 have r1:(n≤aw)=True:=eq_true (by omega)
 have r2:((n:Int)≤(aw:Int))=True:=eq_true (by omega)
 have hz:z16 n (PV.int .i64 0)=ct (fk 0 n):=by
  unfold ct;have:fk 0 n=z16 n 0:=(Db (by simp) (fun x hx=>by rw[List.eq_of_mem_replicate hx];decide) (R6 n)).symm
  rw[this,List.map_replicate];rfl
 refine aa ?_ (by simp only[go_sem,↓reduceIte,w0,w1,r0,r1,r2,hz,Int.toNat_natCast]<;>rfl)
 have hb0:gw []*gw b=0:=by simp[gw]
 refine aq (fun i:Nat=>⟨66,[(6,.pv (.int .i64 i)),(0,.pv (.sl 1 (ct a))),(1,.pv (.sl 1 (ct b))),(5,.own 3 (ct (fk (gw (a.take i)*gw b) n)))],[]⟩) (fun i=>i≤a.length) (fun i=>a.length-i) [6,0,1,5] [] 0 (z17 _) ?_ (hs:=by simp only[go_sem,↓reduceIte,hb0]<;>rfl)
 rintro i hi K hK;refine aa ?_;refine AW.cond rfl (fun hc=> ?_) (fun hc=> ?_)
 ·have hlt:i<a.length:=by have:=of_decide_eq_true hc;omega
  have ei:IntKind.i64.wrap ((i:Int)+1)=((i+1:Nat):Int):=ai (by omega)
  have hai:=un hlt;have ha8:=fj ha i;have hnext:gw (a.take (i+1))*gw b=gw (a.take i)*gw b+256^i*(a.getD i 0*gw b):=by rw[um,z23,z24]
  have hPl:gw (a.take (i+1))*gw b<256^ (i+1+b.length):=by
   have:=Zm (a:=a.take (i+1)) (b:=b) (fun x hx=>ha x (z06 hx)) hb
   rwa [z05,z36 (by omega)]at this
  have hPn:gw (a.take i)*gw b<256^n:=by
   refine Nat.lt_of_le_of_lt (z29 (Nat.le_add_right _ _) (Nat.le_of_eq hnext.symm)) (z26 hPl (z01 (by decide) (by omega)))
  generalize hP:gw (a.take i)*gw b=P at*;generalize hai2:a.getD i 0=A at*;refine aa ?_;refine aq (fun s:Nat×Nat×Nat=>⟨66,[(8,.pv (.int .i64 s.1)),(7,.pv (.int .i64 s.2.2)),(6,.pv (.int .i64 i)),(0,.pv (.sl 1 (ct a))),(1,.pv (.sl 1 (ct b))),(5,.own 3 (ct (fk s.2.1 n)))],[]⟩)
   (fun s=>s.1≤b.length+1∧s.2.1<256^n∧s.2.1+s.2.2*256^ (i+s.1)=P+256^i*(A*gw (b.take s.1))∧s.2.2≤255∧(b.length<s.1→s.2.2=0)) (fun s=>b.length+1-s.1) [8,7,6,0,1,5] [] (0,P,0) ⟨z17 _,hPn,by simp[gw],z17 255,fun h=>rfl⟩ ?_
  rintro⟨j,W,c⟩ ⟨hj,hW,hWc,hc255,hjc⟩ K2 hK2;simp only at hj hW hWc hc255 hjc;have ej:IntKind.i64.wrap ((j:Int)+1)=((j+1:Nat):Int):=ai (by omega)
  have eij:IntKind.i64.wrap ((i:Int)+(j:Int))=((i+j:Nat):Int):=au (n:=i+j) (by omega)
  have hll:=ff n W;by_cases hgo:j<b.length∨0<c
  ·have hjl:j≤b.length:=by
    refine Nat.le_of_not_lt (fun h=> ?_)
    have:=hjc h;omega
   have hk:i+j<n:=by omega
   have gW:(ct (fk W n))[i+j]?=some (.int .i64 ((W/256^ (i+j) % 256:Nat):Int)):=by
    unfold ct;rw[z28,Cs W n (i+j) hk];rfl
   have hb8:=fj hb j;have hx:A*b.getD j 0≤255*255:=Nat.mul_le_mul (by omega) (by omega)
   have hmd:=ac9 (W:=W) (n:=n) (k:=i+j) (v:=W/256^ (i+j) % 256+c+A*b.getD j 0) (c:=c) (x:=A*b.getD j 0) hk hW rfl (by
    have h1:(c+A*b.getD j 0)*256^ (i+j)≤65280*256^ (i+j):=z07 _ (by omega)
    have h2:65280*256^ (i+j)=255*256^ (i+j+1):=by rw[z02];omega
    have h3:256^ (i+j+1)≤256^n:=z01 (by decide) (by omega)
    omega)
   obtain⟨W',hset,hW',hWc'⟩:=hmd;have hd8:W/256^ (i+j) % 256<256:=z25 _ (by decide)
   have hinv:W'+(W/256^ (i+j) % 256+c+A*b.getD j 0)/256*256^ (i+(j+1))=P+256^i*(A*gw (b.take (j+1))):=by
    rw[←z18 i j 1,hWc',um,z08,z08,←z18,←hWc,z23,z34];have:256^i*(A*(256^j*b.getD j 0))=A*b.getD j 0*(256^i*256^j):=by
     generalize b.getD j 0=B;generalize 256^i=X;generalize 256^j=Y
     grind
    omega
   have hk':(i+j<n)=True:=eq_true hk;have wa:IntKind.i64.wrap (((W/256^ (i+j) % 256:Nat):Int)+(c:Int))=((W/256^ (i+j) % 256+c:Nat):Int):=au (n:=W/256^ (i+j) % 256+c) (by omega)
   refine Aj (T:= ?Tg) (fun hT=> ?_) ?_;rotate_left
   ·by_cases h1:j<b.length
    ·have d1:decide ((j:Int)<(b.length:Int))=true:=decide_eq_true (by omega)
     have d1':decide (j<b.length)=true:=decide_eq_true h1;refine ak ?_ (by simp only[go_sem,↓reduceIte,d1,d1']<;>rfl)
     refine bq [8,7,6,0,1,5,30] [] (s':=⟨66,[(8,.pv (.int .i64 j)),(7,.pv (.int .i64 c)),(6,.pv (.int .i64 i)),(0,.pv (.sl 1 (ct a))),(1,.pv (.sl 1 (ct b))),(5,.own 3 (ct (fk W n))),(30,.pv (.bool true))],[]⟩) ?_;exact hT ()
    ·have d1:decide ((j:Int)<(b.length:Int))=false:=decide_eq_false (by omega)
     have d1':decide (j<b.length)=false:=decide_eq_false h1;have d2:decide ((c:Int)>0)=true:=decide_eq_true (by omega)
     have d2':decide (0<c)=true:=decide_eq_true (by omega)
     refine ak ?_ (by simp only[go_sem,↓reduceIte,d1,d1',d2,d2']<;>rfl)
     refine bq [8,7,6,0,1,5,30] [] (s':=⟨66,[(8,.pv (.int .i64 j)),(7,.pv (.int .i64 c)),(6,.pv (.int .i64 i)),(0,.pv (.sl 1 (ct a))),(1,.pv (.sl 1 (ct b))),(5,.own 3 (ct (fk W n))),(30,.pv (.bool true))],[]⟩) ?_;exact hT ()
   refine am rfl ?_;refine aa ?_ (by simp only[go_sem,↓reduceIte,eij,gW,hk',wa,bh,hll]<;>rfl)
   have e1:=Ze (W/256^ (i+j) % 256+c+A*b.getD j 0);have e2:=Zd (W/256^ (i+j) % 256+c+A*b.getD j 0);have e3:IntKind.i64.wrap (((W/256^ (i+j) % 256+c+A*b.getD j 0)/256:Nat):Int)=(((W/256^ (i+j) % 256+c+A*b.getD j 0)/256:Nat):Int):=au (by omega)
   have e4:IntKind.i64.wrap (((W/256^ (i+j) % 256+c+A*b.getD j 0) % 256:Nat):Int)=(((W/256^ (i+j) % 256+c+A*b.getD j 0) % 256:Nat):Int):=au (by omega)
   have hfin:b.length<j+1→(W/256^ (i+j) % 256+c+A*b.getD j 0)/256=0:=fun h=>by
    have hjb:j=b.length:=by omega
    rw[hjb,z00 (by omega),←hnext]at hinv
    rw[hjb];refine z20 (fun hp=> ?_)
    have h2:1*256^ (i+(b.length+1))≤(W/256^ (i+b.length) % 256+c+A*b.getD b.length 0)/256*256^ (i+(b.length+1)):=z07 _ hp;rw[show i+1+b.length=i+(b.length+1)by omega]at hPl
    omega
   have hJ2:(W/256^ (i+j) % 256+c+A*b.getD j 0)/256≤255:=by omega
   generalize hv:W/256^ (i+j) % 256+c+A*b.getD j 0=v at*;refine AW.cond rfl (fun hc=> ?_) (fun hc=> ?_)
   ·have h1:j<b.length:=by have:=of_decide_eq_true hc;omega
    have gb:=un h1;have wm:IntKind.i64.wrap ((A:Int)*((b.getD j 0:Nat):Int))=((A*b.getD j 0:Nat):Int):=au (n:=A*b.getD j 0) (by omega)
    have wm2:IntKind.i64.wrap ((A*b.getD j 0:Nat):Int)=((A*b.getD j 0:Nat):Int):=au (by omega)
    have ws:IntKind.i64.wrap (((W/256^ (i+j) % 256+c:Nat):Int)+((A*b.getD j 0:Nat):Int))=(v:Int):=by rw[←hv];exact au (n:=W/256^ (i+j) % 256+c+A*b.getD j 0) (by omega)
    refine aa ?_;refine cr ?_;refine bu [[],[],[],[46,47],[48],[],[],[50,51],[52],[49,53],[45,54]] ?_ (by simp only[go_sem,↓reduceIte,hai,gb,wm,wm2,ws]<;>rfl)
    refine CK.done (M:=11) 1 mixed ?_;refine bp (fuel:=0) (listed':=z43 12 true) [11] ?_ (by decide+kernel)
    refine ak ?_;refine a8 (by decide+kernel) ?_
    refine aa ?_ (by simp only[go_sem,↓reduceIte,eij,gW,hk',bh,hll,h256,e1,e2,e3,e4,G3,hset,ej]<;>rfl)
    exact ah hK2 (j+1,W',v/256) ⟨by simp only;omega,hW',hinv,hJ2,hfin⟩ (by simp only;omega)
   ·have h1:¬j<b.length:=by have:=of_decide_eq_false hc;omega
    have g1:=I9 h1;have hv2:W/256^ (i+j) % 256+c=v:=by rw[←hv,g1,z47,z30]
    refine aa ?_ (by simp only[go_sem,↓reduceIte,eij,gW,hk',bh,hll,h256,hv2,e1,e2,e3,e4,G3,hset,ej]<;>rfl)
    exact ah hK2 (j+1,W',v/256) ⟨by simp only;omega,hW',hinv,hJ2,hfin⟩ (by simp only;omega)
  ·have h1:¬j<b.length:=fun h=>hgo (.inl h)
   have hc0:c=0:=z20 (fun h=>hgo (.inr h))
   subst hc0;rw[Nat.zero_mul,z30,z00 (by omega),←hnext]at hWc
   have d1:decide ((j:Int)<(b.length:Int))=false:=decide_eq_false (by omega)
   have d1':decide (j<b.length)=false:=decide_eq_false h1;refine ak ?_ (by simp only[go_sem,↓reduceIte,d1,d1']<;>rfl)
   refine ae rfl ?_;refine aa ?_ (by simp only[go_sem,↓reduceIte,ei]<;>rfl)
   exact ah hK (i+1) (by omega) (by omega) (hs:=by simp only[go_sem,↓reduceIte,←hWc]<;>rfl)
 have hge:i=a.length:=by have:=of_decide_eq_false hc;omega
 subst hge;rw[z19];have hm:fk (gw a*gw b) n=N1 a b:=by unfold N1;rw[hn]
 rw[hm];refine aa ?_;refine ac (.lend rfl Ca .nil) rfl
theorem aHh{u v:Nat}(h:dn u≠dn v):decide (dn u<dn v)=decide (u<v):=by
 rw[decide_eq_decide];constructor
 ·intro h1;have h2:=td u;obtain⟨n,hn⟩:∃n,dn v=n+1:=⟨dn v-1,by omega⟩
  have h3:=Vp hn;have h4:256^dn u≤256^n:=z01 (by decide) (by omega)
  omega
 ·intro h1;refine z44 (fun h2=> ?_)
  have h3:=td v;obtain⟨n,hn⟩:∃n,dn u=n+1:=⟨dn u-1,by omega⟩
  have h4:=Vp hn;have h5:256^dn v≤256^n:=z01 (by decide) (by omega)
  omega
theorem Ab(u k:Nat):u/256^k=256*(u/256^ (k+1))+u/256^k % 256:=by
 have:=z12 (u/256^k) 256;rw[z21,←z02]at this;exact this.symm
theorem ajr{u v k:Nat}(h:u/256^ (k+1)=v/256^ (k+1))(hd:u/256^k % 256≠v/256^k % 256):decide (u/256^k % 256<v/256^k % 256)=decide (u<v):=by
 have h1:=Ab u k;have h2:=Ab v k;rw[decide_eq_decide];have hp:0<256^k:=z13 (by decide)
 constructor
 ·intro h3;refine z44 (fun h4=> ?_)
  have:=z40 (c:=256^k) h4;omega
 ·intro h3;have:=z40 (c:=256^k) (Nat.le_of_lt h3);omega
theorem ajs{u v k:Nat}(h:u/256^ (k+1)=v/256^ (k+1))(hd:u/256^k % 256=v/256^k % 256):u/256^k=v/256^k:=by
 rw[Ab u k,Ab v k,h,hd]
theorem Mq(u k:Nat):u % 256^ (k+1)=u % 256^k+256^k*(u/256^k % 256):=by rw[z02,Nat.mod_mul]
theorem abn{u v k O bo bo' d:Nat}(hO:O<256^k)(h:O+v % 256^k=u % 256^k+bo*256^k)(hd:d+v/256^k % 256+bo=u/256^k % 256+bo'*256)(hd8:d<256):
  fk O k++[d]=fk (O+256^k*d) (k+1)∧O+256^k*d<256^ (k+1)∧O+256^k*d+v % 256^ (k+1)=u % 256^ (k+1)+bo'*256^ (k+1):=by
 refine⟨?_, ?_, ?_⟩
 ·rw[R8,z33 hO,z15,z10 hd8]
 ·rw[z02];have:256^k*d≤256^k*255:=z42 _ (by omega)
  omega
 ·rw[Mq,Mq,z02];have e1:256^k*d+256^k*(v/256^k % 256)+bo*256^k=256^k*(u/256^k % 256)+bo'*(256^k*256):=by
   rw[z03 bo,←z08,←z08,hd,z08,z03 bo' 256,z03 bo',z24]
  omega
def af6:List Nat:=[251,255,255,255,255,255,255,255,255,255,255,255,255,255,255,255,3]
theorem Mj:af6=nf jj:=by
 have h1:gw af6=jj:=by unfold jj;rfl
 rw[←h1];exact aq5 (by decide) (.inr (by decide))
theorem aJo:dn jj=17:=by
 have:=congrArg List.length Mj;rw[db]at this;exact this.symm
theorem aqj(V:Nat):(17<dn V∨(dn V=17∧4≤V/256^16 % 256))↔2^130≤V:=by
 have hp:(2:Nat)^130=4*256^16:=by decide
 constructor
 ·rintro(h|⟨h1,h2⟩)
  ·obtain⟨n,hn⟩:∃n,dn V=n+1:=⟨dn V-1,by omega⟩
   have h3:=Vp hn;have h4:256^17≤256^n:=z01 (by decide) (by omega)
   have:(2:Nat)^130≤256^17:=by decide
   omega
  ·have h3:V/256^16 % 256≤V/256^16:=z49 _ _;have h5:4≤V/256^16:=z29 h2 h3;rw[hp];exact(z39 (by decide)).1 h5
 ·intro h;have h16:16<dn V:=Yz (z29 (by decide) h)
  by_cases h17:17<dn V
  ·exact .inl h17
  ·have h2:dn V=17:=by omega
   refine .inr ⟨h2, ?_⟩;have h3:=td V;rw[h2]at h3;have h4:V/256^16<256:=by
    rw[z22 (by decide)]
    exact z26 h3 (by decide)
   rw[z10 h4];rw[hp]at h;exact(z39 (by decide)).2 h
theorem Xd(X:Nat):X/4 % 256=X % 256/4+X/256 % 256 % 4*64:=by omega
theorem ap7{V:Nat}(h:2^130≤V):V % 2^130+5*(V/2^130)<V:=by
 have h1:=z12 V (2^130);have h2:0<V/2^130:=Nat.div_pos h (by decide)
 have h3:(2:Nat)^130=1361129467683753853853498429727072845824:=by decide
 rw[h3]at*;omega
theorem aje(V:Nat):(V % 2^130+5*(V/2^130)) % jj=V % jj:=by
 have h1:=z12 V (2^130);have h2:V=V % 2^130+5*(V/2^130)+V/2^130*jj:=by
  have h3:(2:Nat)^130=1361129467683753853853498429727072845824:=by decide
  have h4:jj=1361129467683753853853498429727072845819:=by unfold jj;rfl
  rw[h3]at*;rw[h4];omega
 conv=>rhs;rw[h2]
 rw[Nat.add_mul_mod_self_right]
theorem Em(l:List Nat)(hb:∀x∈l,x<256)(hl:l.length≤3000):Fn Tryz.prog 171 [] [.pv (.sl 1 (ct l))] (fun rs H'=>rs=[.pv (.sl 1 (ct (nf (gw l))))]∧H'=[]):=by
 refine Fn.ob Tryz.f171 21 [.tmp 2] fun C=> ?_
 refine aa ?_;refine aq (fun k:Nat=>⟨21,[(0,.pv (.sl 1 (ct (l.take k))))],[]⟩) (fun k=>k≤l.length∧gw (l.take k)=gw l) (fun k=>k) [0] [] l.length ⟨z48 _,by rw[z19]⟩ ?_ (hs:=by simp only[go_sem,↓reduceIte,z19]<;>rfl)
 rintro k ⟨hk,hv⟩ K hK;have hkl:(l.take k).length=k:=by rw[z05];omega
 by_cases hgo:0<k∧(l.take k).getD (k-1) 0=0
 ·obtain⟨hk0,hz⟩:=hgo;have d1:decide ((k:Int)>0)=true:=decide_eq_true (by omega)
  have d1':decide (0<k)=true:=decide_eq_true hk0;have w1:IntKind.i64.wrap ((k:Int)-1)=((k-1:Nat):Int):=by rw[an (by omega) (by omega)];omega
  have g1:=un (l:=l.take k) (i:=k-1) (by omega)
  rw[hz]at g1;have g0:(((0:Nat):Int)==0)=true:=rfl;have hkl2:(k-1≤k)=True:=eq_true (by omega)
  have htk:(l.take k).take (k-1)=l.take (k-1):=by rw[List.take_take,z36 (by omega)]
  have hvk:gw (l.take (k-1))=gw l:=by
   have h1:=um (l.take k) (k-1);rw[hz,z47,z30,show k-1+1=k by omega,htk,z00 (by omega),hv]at h1
   exact h1.symm
  have g1':(ct (l.take k))[k-1]?=some (.int .i64 0):=g1;refine ak ?_ (by simp only[go_sem,↓reduceIte,bh,hkl,d1,d1',w1,g1,g1',g0]<;>rfl)
  refine am rfl ?_;refine aa ?_ (by simp only[go_sem,↓reduceIte,bh,hkl,w1,hkl2,I2,htk]<;>rfl)
  exact ah hK (k-1) ⟨by omega,hvk⟩ (by omega)
 ·have hfin:l.take k=nf (gw l):=by
   rw[←hv];refine aq5 (fun x hx=>hb x (z06 hx)) ?_
   by_cases hk0:k=0
   ·exact .inl (by rw[hk0];rfl)
   ·refine .inr ?_;have hnz:(l.take k).getD (k-1) 0≠0:=fun h=>hgo ⟨by omega,h⟩
    have h1:=um (l.take k) (k-1);rw[show k-1+1=k by omega,z00 (l:=l.take k) (i:=k) (by omega)]at h1
    have h2:256^ (k-1)*1≤256^ (k-1)*(l.take k).getD (k-1) 0:=z42 _ (by omega)
    rw[hkl];omega
  refine Aj (T:= ?Te) (fun hT=> ?_) ?_;rotate_left
  ·by_cases hk0:0<k
   ·have hnz:(l.take k).getD (k-1) 0≠0:=fun h=>hgo ⟨hk0,h⟩
    have d1:decide ((k:Int)>0)=true:=decide_eq_true (by omega)
    have d1':decide (0<k)=true:=decide_eq_true hk0;have w1:IntKind.i64.wrap ((k:Int)-1)=((k-1:Nat):Int):=by rw[an (by omega) (by omega)];omega
    have g1:=un (l:=l.take k) (i:=k-1) (by omega)
    obtain⟨x,hx⟩:∃x,(l.take k).getD (k-1) 0=x:=⟨_,rfl⟩
    rw[hx]at g1 hnz;have g0:((x:Int)==0)=false:=by rw[beq_eq_false_iff_ne];omega
    refine ak ?_ (by simp only[go_sem,↓reduceIte,bh,hkl,d1,d1',w1,g1,g0]<;>rfl)
    refine bq [0,14] [] (s':=⟨21,[(0,.pv (.sl 1 (ct (l.take k)))),(14,.pv (.bool false))],[]⟩) ?_;exact hT ()
   ·have d1:decide ((k:Int)>0)=false:=decide_eq_false (by omega)
    have d1':decide (0<k)=false:=decide_eq_false hk0;refine ak ?_ (by simp only[go_sem,↓reduceIte,bh,hkl,d1,d1']<;>rfl)
    refine bq [0,14] [] (s':=⟨21,[(0,.pv (.sl 1 (ct (l.take k)))),(14,.pv (.bool false))],[]⟩) ?_;exact hT ()
  refine ae rfl ?_;rw[hfin];refine aa ?_;refine ac (.pv _ .nil) rfl
theorem Jv:Fn Tryz.prog 173 [] [] (fun rs H'=>rs=[.pv (.sl 1 (ct (nf jj)))]∧H'=[]):=by
 refine Fn.ob Tryz.f173 14 [.tmp 0] fun C=> ?_
 have hr:aw=140737488355328:=rfl;rw[←Mj];have m1:(1≤maxLen)=True:=eq_true (by unfold maxLen;decide)
 refine aa ?_ (by simp only[go_sem,↓reduceIte,m1]<;>rfl)
 refine aq (fun j:Nat=>⟨14,[(2,.pv (.int .i64 ((j+1:Nat):Int))),(1,.own 3 (ct (251::z16 j 255)))],[]⟩) (fun j=>j≤15) (fun j=>15-j) [2,1] [] 0 (z17 _) ?_
 rintro j hj K hK;refine aa ?_;refine AW.cond rfl (fun hc=> ?_) (fun hc=> ?_)
 ·have hlt:j<15:=by have:=of_decide_eq_true hc;omega
  have ej:IntKind.i64.wrap (((j+1:Nat):Int)+1)=((j+1+1:Nat):Int):=au (n:=j+1+1) (by omega)
  have hs:ct (251::z16 j 255)++[.int .i64 255]=ct (251::z16 (j+1) 255):=by
   rw[show [PV.int .i64 255]=ct [255]from rfl,jy,List.cons_append,←List.replicate_succ']
  have r1:((j+1+1)*8≤aw)=True:=eq_true (by omega)
  have r2:(j+1+1≤aw)=True:=eq_true (by omega)
  refine aa ?_ (by simp only[go_sem,↓reduceIte,m1,hs,bh,z37,z09,z14,z15,r1,r2,ej]<;>rfl)
  exact ah hK (j+1) (by omega) (by omega)
 have hge:j=15:=by have:=of_decide_eq_false hc;omega
 subst hge;have r1:((16+1)*8≤aw)=True:=eq_true (by omega)
 refine aa ?_ (by simp only[go_sem,↓reduceIte,m1,bh,z37,z09,z14,z15,hr]<;>rfl)
 refine ac (.lend rfl Ca .nil) rfl
theorem y5(b:List Nat)(hb:∀x∈b,x<256)(hl:b.length≤3000):Fn Tryz.prog 142 [] [.pv (.sl 1 (bytes b))] (fun rs H'=>rs=[.own 3 (ct b)]∧H'=[]):=by
 refine Fn.ob Tryz.f142 20 [.tmp 2] fun C=> ?_
 have hr:aw=140737488355328:=rfl;refine aa ?_;refine aq (fun i:Nat=>⟨20,[(4,.pv (.int .i64 i)),(0,.pv (.sl 1 (bytes b))),(3,.own 3 (ct (b.take i)))],[]⟩) (fun i=>i≤b.length) (fun i=>b.length-i) [4,0,3] [] 0 (z17 _) ?_
 rintro i hi K hK;refine aa ?_;refine AW.cond rfl (fun hc=> ?_) (fun hc=> ?_)
 ·have hlt:i<b.length:=by have:=of_decide_eq_true hc;omega
  have ei:IntKind.i64.wrap ((i:Int)+1)=((i+1:Nat):Int):=ai (by omega)
  have g1:=Bp hlt;have b8:=fj hb i;have ex:IntKind.i64.wrap ((b.getD i 0:Nat):Int)=((b.getD i 0:Nat):Int):=au (by omega)
  have hs:ct (b.take i)++[.int .i64 ((b.getD i 0:Nat):Int)]=ct (b.take (i+1)):=by
   rw[th,jy,z27 hlt,z04,z11 hlt];rfl
  have hll:(b.take i).length=i:=by rw[z05];omega
  have r1:((i+1)*8≤aw)=True:=eq_true (by omega)
  have r2:(i+1≤aw)=True:=eq_true (by omega)
  refine aa ?_ (by simp only[go_sem,↓reduceIte,g1,ex,hs,bh,hll,z09,z14,z15,r1,r2,ei]<;>rfl)
  exact ah hK (i+1) (by omega) (by omega)
 have hge:i=b.length:=by have:=of_decide_eq_false hc;omega
 subst hge;rw[z19];refine aa ?_;refine ac (.move rfl .nil) rfl
theorem adc(u v:Nat)(hu:dn u≤3000)(hv:dn v≤3000):Fn Tryz.prog 172 [] [.pv (.sl 1 (ct (nf u))),.pv (.sl 1 (ct (nf v)))] (fun rs H'=>rs=[.pv (.bool (decide (u<v)))]∧H'=[]):=by
 refine Fn.ob Tryz.f172 41 [.tmp 4] fun C=> ?_
 have dne:((dn u:Int) !=(dn v:Int))= !decide (dn u=dn v):=by rw[z35];simp;omega
 have dlt:decide ((dn u:Int)<(dn v:Int))=decide (dn u<dn v):=by rw[z35];simp
 by_cases hd:dn u=dn v
 rotate_left
 ·have h1:=aHh hd;rw[decide_eq_false hd]at dne;refine aa ?_ (by simp only[go_sem,↓reduceIte,bh,db,dne,Bool.not_false]<;>rfl)
  refine am rfl ?_;refine aa ?_ (by simp only[go_sem,↓reduceIte,bh,db,dlt,h1]<;>rfl)
  refine ac (.pv _ .nil) rfl
 rw[decide_eq_true hd]at dne;have hgu:∀k,k<dn u→(ct (nf u))[k]?=some (.int .i64 ((u/256^k % 256:Nat):Int)):=fun k hk=>by
  unfold ct;rw[z28,If hk];rfl
 have hgv:∀k,k<dn v→(ct (nf v))[k]?=some (.int .i64 ((v/256^k % 256:Nat):Int)):=fun k hk=>by
  unfold ct;rw[z28,If hk];rfl
 have w0:IntKind.i64.wrap ((dn u:Int)-1)=(dn u:Int)-1:=an (by omega) (by omega)
 refine aa ?_ (by simp only[go_sem,↓reduceIte,bh,db,dne,Bool.not_true]<;>rfl)
 refine ae rfl ?_;refine aa ?_ (by simp only[go_sem,↓reduceIte,bh,db,w0]<;>rfl)
 refine aq (fun k:Nat=>⟨41,[(5,.pv (.int .i64 ((k:Int)-1))),(0,.pv (.sl 1 (ct (nf u)))),(1,.pv (.sl 1 (ct (nf v))))],[]⟩) (fun k=>k≤dn u∧u/256^k=v/256^k) (fun k=>k) [5,0,1] [] (dn u) ⟨z48 _,by
  rw[z33 (td u),hd,z33 (td v)]⟩ ?_
 rintro k ⟨hk,hq⟩ K hK;by_cases hk0:k=0
 ·subst hk0;have he:u=v:=by simpa using hq
  subst he;refine aa ?_;refine ae rfl ?_;refine aa ?_;rw[decide_eq_false (Nat.lt_irrefl u)];refine ac (.pv _ .nil) rfl
 obtain⟨j,rfl⟩:∃j,k=j+1:=⟨k-1,by omega⟩
 have hj1:(((j+1:Nat):Int)-1)=(j:Int):=by omega
 have wj:IntKind.i64.wrap ((j:Int)-1)=(j:Int)-1:=an (by omega) (by omega)
 have g1:=hgu j (by omega)
 have g2:=hgv j (by omega)
 have d0:decide ((j:Int)≥0)=true:=decide_eq_true (by omega)
 have hu8:u/256^j % 256<256:=z25 _ (by decide)
 rw[hj1];refine aa ?_ (by simp only[go_sem,↓reduceIte,d0]<;>rfl)
 refine am rfl ?_;refine aa ?_;by_cases hdg:u/256^j % 256=v/256^j % 256
 ·have hq2:=ajs hq hdg;generalize u/256^j % 256=x at*;generalize v/256^j % 256=y at*;subst hdg;have dx:((x:Int) !=(x:Int))=false:=by simp
  refine cr ?_;refine bu [[],[],[23,24],[25],[],[],[27,28],[29],[26,30]] ?_ (by simp only[go_sem,↓reduceIte,g1,g2,dx]<;>rfl)
  refine CK.done (M:=9) 0 mixed ?_;refine a8 (by decide+kernel) ?_
  refine aa ?_;refine ae rfl ?_;refine aa ?_ (by simp only[go_sem,↓reduceIte,wj]<;>rfl)
  exact ah hK j ⟨by omega,hq2⟩ (by omega)
 ·have hl:=ajr hq hdg;rw[←hl];generalize u/256^j % 256=x at*;generalize v/256^j % 256=y at*;have dx:((x:Int) !=(y:Int))=true:=by rw[bne_iff_ne];omega
  have dl:decide ((x:Int)<(y:Int))=decide (x<y):=by rw[z35];simp
  refine cr ?_;refine bu [[],[],[23,24],[25],[],[],[27,28],[29],[26,30]] ?_ (by simp only[go_sem,↓reduceIte,g1,g2,dx]<;>rfl)
  refine CK.done (M:=9) 0 mixed ?_;refine a8 (by decide+kernel) ?_
  refine aa ?_;refine am rfl ?_;refine aa ?_;refine cr ?_;refine bu [[],[],[32,33],[34],[],[],[36,37],[38],[35,39]] ?_ (by simp only[go_sem,↓reduceIte,g1,g2,dl]<;>rfl)
  refine CK.done (M:=9) 1 mixed ?_;refine bp (fuel:=0) (listed':=z43 10 true) [9] ?_ (by decide+kernel)
  refine ak ?_;refine a8 (by decide+kernel) ?_
  refine aa ?_;refine ac (.pv _ .nil) rfl
end Go.Ck
