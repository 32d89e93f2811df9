/- What is proved here: parts of the proofs of this seat's statements (a verified evaluator for calls over pure values, its laws, and contracts of functions). No condition. -/
import Derived.Test.YtmkoabmapmehdaaGreatDoorKy
import Derived.Test.YtmkoabmapmehdaaGreatDoorKw
import Derived.Test.YtmkoabmapmehdaaGreatDoorKx
import Derived.Test.YtmkoabmapmehdaaGreatDoorKt
import Derived.Test.YtmkoabmapmehdaaGreatDoorKo
import Derived.Test.YtmkoabmapmehdaaGreatDoorKr
set_option linter.all false
open List renaming length_append→z00,length_cons→z01,mem_append→z02,length_eq_zero_iff→z04,mem_cons→z05,replicate→z06,getD_eq_getElem?_getD→z07,getElem?_eq_getElem→z08,foldl_cons→z09,length_take→z11,length_drop→z12,length_nil→z14,all_eq_true→z18,length_singleton→z22,mem_of_mem_take→z23,drop_left→z24,map_congr_left→z25,range→z26,mem_map→z28,map_map→z29,mem_flatMap→z33,length_map→z34,mem_of_mem_tail→z38,mem_of_mem_drop→z39,getElem?_drop→z41,take_add_one→z42,flatMap_cons→z43,append_assoc→z44,cons_append→z45,range_succ→z47,nil_append→z48,append_nil→z49,drop_drop→z54,map_id→z56,length→z57
open Nat renaming le_refl→z03,add_mul→z10,mul_le_mul_right→z13,zero_add→z15,pow_add→z16,mul_assoc→z17,succ_mul→z20,mul_comm→z21,lt_of_le_of_lt→z27,pow_succ→z30,mul_lt_mul_of_pos_right→z35,zero_mul→z36,one_mul→z40,two_pow_pos→z50,min_eq_left→z52,add_assoc→z55,zero_le→z58,le_zero→z59
open Bool renaming and_eq_true→z19
open Option renaming toList_some→z37
namespace Go.Ck
theorem Bq(b:Nat):∀(l:List Nat) (a:Nat),l.foldl (fun a x=>a*b+x) a=a*b^l.length+l.foldl (fun a x=>a*b+x) 0
 |[],a=>by simp
 |x::r,a=>by
  rw[z09,Bq b r (a*b+x),z09,Bq b r (0*b+x),z01,z30,z36,z15,z10,z17,z21 b (b^r.length),z55]
theorem aj6(x:Nat)(l:List Nat):u7 (x::l)=x*256^l.length+u7 l:=by
 have:=Bq 256 l (0*256+x);rw[u7,z09,this,z36,z15];rfl
theorem aql(v n:Nat):u7 (iy v n)=v % 256^n:=by
 induction n with
 |zero=>simp[iy,u7,Nat.mod_one]
 |succ n ih=>rw[iy,aj6,gv,ih,z30,Nat.mod_mul];rw[z21,Nat.add_comm]
theorem ao9(n:Nat):∀(v:Nat),v≤n→∀(k bc:Nat) (r:List Nat),v*128^k<2^64→(k=0∨v≠0)→k≤9→A3 k bc (cg v++r)=(bc+v*128^k,k+(cg v).length,0):=by
 induction n using Nat.strongRecOn with
 |_ n ih=>
  intro v hv k bc r hlt h0 hk;have h9:k=9→v<2:=by
   rintro rfl;have:v*128^9<2*128^9:=by omega
   exact Nat.lt_of_mul_lt_mul_right this
  by_cases h:v<128
  ·rw[t6 h,List.singleton_append,A3,if_neg (by omega),if_neg (by omega),if_neg (by omega)];rfl
  ·rw[yk h,z45,A3,if_neg (by omega),if_pos (by omega)]
   have hp:128^ (k+1)=128^k*128:=z30 ..;have hd:v=v/128*128+v % 128:=by omega
   have he:v*128^k=v/128*128^ (k+1)+v % 128*128^k:=by
    rw[hp,z21 (128^k),←z17,←z10,←hd]
   have hk9:k≠9:=fun e=>by have:=h9 e;omega
   rw[show(v % 128+128) % 128=v % 128 by omega,ih (v/128) (by omega) (v/128) (z03 _) (k+1) _ r (by omega) (.inr (by omega)) (by omega),z01]
   refine Prod.ext ?_ (Prod.ext ?_ rfl)
   ·simp only;omega
   ·simp only;omega
theorem rf{v:Nat}(h:v<2^64)(r:List Nat):a6 (cg v++r)=(v,(cg v).length,0):=by
 rw[Iw,ao9 v v (z03 _) 0 0 r (by simpa using h) (.inl rfl) (by omega)]
 simp
def wa:Option (Nat×Nat)→Int
 |none=> -1
 |some (l,_)=>l
def Qr(n:Int):Nat:=if 0≤n then(2*n).toNat else(2*(-(n+1))+1).toNat
def ql(n:Int):Prop:= -2^63≤n∧n<2^63
theorem aft{n:Int}(h:ql n):Qr n<2^64:=by unfold ql at h;unfold Qr;split<;>omega
theorem xor_zero{a:Nat}(h:a<2^64):ef .xor .u64 (a:Int) 0=(a:Int):=by
 have:=F9 (a:=a) (b:=0) h (by omega)
 simpa using this
theorem Vz(n:Int):ql (IntKind.i64.wrap n):=by rw[IntKind.wrap_i64];unfold ql;omega
def dif:Int→List Int→List Int
 |_,[]=> []
 |p,x::r=>IntKind.i64.wrap (x-p)::dif x r
def bc:Int→List Int→List Int
 |_,[]=> []
 |p,x::r=>IntKind.i64.wrap (x+p)::bc (IntKind.i64.wrap (x+p)) r
theorem Z8:∀(p:Int) (l:List Int),(dif p l).length=l.length
 |_,[]=>rfl
 |p,x::r=>by simp[dif,Z8 x r]
theorem arf:∀(p:Int) (l:List Int),∀x∈dif p l,ql x
 |_,[]=>by simp[dif]
 |p,x::r=>by
  intro y hy;rcases z05.1 hy with rfl|hy
  ·exact Vz _
  ·exact arf x r y hy
def qe(j:Nat)(l:List Int):List Int:=l.take (j+1)++dif (l.getD j 0) (l.drop (j+1))
theorem L4(j:Nat)(l:List Int):(qe j l).length=l.length:=by simp[qe,Z8];omega
theorem ao3(j:Nat){l:List Int}(h:∀x∈l,ql x):∀x∈qe j l,ql x:=by
 intro x hx;rcases z02.1 hx with hx|hx
 ·exact h x (z23 hx)
 ·exact arf _ _ x hx
def Cf(l:List Int):Nat→List Int
 |0=>l
 |k+1=>qe k (Cf l k)
theorem Ac(l:List Int):∀k,(Cf l k).length=l.length
 |0=>rfl
 |k+1=>by rw[Cf,L4,Ac l k]
theorem Pj{l:List Int}(h:∀x∈l,ql x):∀k,∀x∈Cf l k,ql x
 |0=>h
 |k+1=>ao3 k (Pj h k)
def oft(t:Nat):Nat:=if t=0 then 0 else if t=3∨t=4 then 2 else 1
theorem aAl(t:Nat):oft t≤3:=by unfold oft;split<;>(try split)<;>omega
theorem ai4(l:List Int)(i:Nat)(n:Int):(j4 l).set i (.int .i64 n)=j4 (l.set i n):=by simp[j4,List.map_set]
section
variable {α : Type} {D M : List α}
end
theorem Z9:∀(l:List Int) (p:Int) (k:Nat) (x:Int),l[k]?=some x→(dif p l)[k]?=some (IntKind.i64.wrap (x-(if k=0 then p else l.getD (k-1) 0)))
 |[],p,k,x,h=>by simp at h
 |y::r,p,0,x,h=>by simp at h;subst h;simp[dif]
 |y::r,p,k+1,x,h=>by
  have:=Z9 r y k x (by simpa using h)
  rw[dif,List.getElem?_cons_succ,this]
  congr 3
  cases k with
  |zero=>simp
  |succ k=>simp
theorem abr{l:List Int}{j i:Nat}(h:j<i)(hi:i<l.length):(qe j l)[i]?=some (IntKind.i64.wrap (l.getD i 0-l.getD (i-1) 0)):=by
 have hl:(l.take (j+1)).length=j+1:=by simp;omega
 have hx:(l.drop (j+1))[i-(j+1)]?=some (l.getD i 0):=by
  rw[z41,show j+1+(i-(j+1))=i by omega,z07,z08 hi];rfl
 rw[qe,List.getElem?_append_right (by omega),hl,Z9 _ _ _ _ hx]
 congr 3
 split
 ·rw[show i-1=j by omega]
 ·rw[z07,z41,z07,show j+1+(i-(j+1)-1)=i-1 by omega]
theorem Wa{l:List Int}{j i:Nat}(h:i≤j)(hi:i<l.length):(qe j l)[i]?=l[i]?:=by
 rw[qe,List.getElem?_append_left (by simp;omega),List.getElem?_take,if_pos (by omega)]
theorem afo{l:List Int}{i:Nat}(h:i<l.length):l[i]?=some (l.getD i 0):=by rw[z07,z08 h];rfl
theorem Z1{l:List Int}{i:Nat}{x:Int}(h:l[i]?=some x):(j4 l)[i]?=some (.int .i64 x):=by unfold j4;rw[List.getElem?_map,h];rfl
end Go.Ck
namespace Go.Ck
def lo:List Nat→Nat
 |[]=>0
 |x::r=>r.foldl min x
def hi:List Nat→Nat
 |[]=>0
 |x::r=>r.foldl max x
theorem apv{l:List Nat}(h:l≠ [])(x:Nat):lo (l++[x])=min (lo l) x:=by
 cases l with
 |nil=>exact absurd rfl h
 |cons a r=>simp[lo]
theorem ap4{l:List Nat}(h:l≠ [])(x:Nat):hi (l++[x])=max (hi l) x:=by
 cases l with
 |nil=>exact absurd rfl h
 |cons a r=>simp[hi]
theorem Qa(r:List Nat):∀a,r.foldl min a≤a∧∀x∈r,r.foldl min a≤x:=by
 induction r with
 |nil=>simp
 |cons y r ih=>
  intro a;rw[z09];have:=ih (min a y);refine⟨by omega,fun x hx=> ?_⟩
  rcases z05.1 hx with rfl|hx
  ·omega
  ·exact this.2 x hx
theorem P8(r:List Nat):∀a,a≤r.foldl max a∧∀x∈r,x≤r.foldl max a:=by
 induction r with
 |nil=>simp
 |cons y r ih=>
  intro a;rw[z09];have:=ih (max a y);refine⟨by omega,fun x hx=> ?_⟩
  rcases z05.1 hx with rfl|hx
  ·omega
  ·exact this.2 x hx
theorem Ys{l:List Nat}{x:Nat}(h:x∈l):lo l≤x:=by
 cases l with
 |nil=>cases h
 |cons a r=>
  have:=Qa r a;rcases z05.1 h with rfl|h
  ·exact this.1
  ·exact this.2 x h
theorem aq9{l:List Nat}{x:Nat}(h:x∈l):x≤hi l:=by
 cases l with
 |nil=>cases h
 |cons a r=>
  have:=P8 r a;rcases z05.1 h with rfl|h
  ·exact this.1
  ·exact this.2 x h
theorem Qb{B:Nat}(r:List Nat):∀a,a<B→(∀x∈r,x<B)→r.foldl max a<B:=by
 induction r with
 |nil=>intro a h _;exact h
 |cons y r ih=>
  intro a h h2;rw[z09];exact ih _ (by have:=h2 y (by simp);omega) (fun x hx=>h2 x (by simp[hx]))
theorem arb{l:List Nat}{B:Nat}(hB:0<B)(h:∀x∈l,x<B):hi l<B:=by
 cases l with
 |nil=>exact hB
 |cons a r=>exact Qb r a (h a (by simp)) (fun x hx=>h x (by simp[hx]))
theorem aq7{l:List Nat}{B:Nat}(hB:0<B)(h:∀x∈l,x<B):lo l<B:=by
 cases l with
 |nil=>exact hB
 |cons a r=>exact z27 (Ys (x:=a) (by simp)) (h a (by simp))
theorem aHd(l:List Nat):lo l≤hi l:=by
 cases l with
 |nil=>exact z03 _
 |cons a r=>exact Nat.le_trans (Ys (x:=a) (by simp)) (aq9 (by simp))
def wF(l:List Nat):Nat:=dg (hi l-lo l)
theorem afj{l:List Nat}(h:∀x∈l,x<2^64):wF l≤64:=fh.2 (z27 (Nat.sub_le _ _) (arb (by omega) h))
theorem avh{l:List Nat}{x:Nat}(h:x∈l):x-lo l<2^wF l:=by
 have h1:=Ys h;have h2:=aq9 h;exact z27 (by omega) (v7 (v:=hi l-lo l))
def pb(l:List Nat)(v w:Nat):List Nat:=l.flatMap fun x=>js (x-v) w
theorem X5(l:List Nat)(x v w:Nat):pb (l++[x]) v w=pb l v w++js (x-v) w:=by simp[pb]
theorem Fd(l:List Nat)(v w:Nat):(pb l v w).length=l.length*w:=by
 induction l with
 |nil=>simp[pb]
 |cons a r ih=>
  rw[pb,z43,z00,kn];rw[pb]at ih;rw[ih,z01,z20];omega
theorem Nl(l:List Nat)(v w:Nat):∀x∈pb l v w,x<2:=by
 intro x hx;simp only[pb,z33]at hx;obtain⟨y,_,hx⟩:=hx;exact yx _ _ x hx
def Ht(l:List Nat):List Nat:=cg (lo l)++(wF l::pk (pb l (lo l) (wF l)))
theorem apu{l:List Nat}{i:Nat}(h:i<l.length)(h0:i≠0):lo (l.take (i+1))=min (lo (l.take i)) l[i]:=by
 rw[z42,z08 h,z37,apv];intro e;have:=congrArg z57 e;rw[z11,z14]at this;omega
theorem ap3{l:List Nat}{i:Nat}(h:i<l.length)(h0:i≠0):hi (l.take (i+1))=max (hi (l.take i)) l[i]:=by
 rw[z42,z08 h,z37,ap4];intro e;have:=congrArg z57 e;rw[z11,z14]at this;omega
theorem aiw{l:List Nat}(h:0<l.length):lo (l.take 1)=l[0]∧hi (l.take 1)=l[0]:=by
 cases l with
 |nil=>simp at h
 |cons a r=>exact⟨rfl,rfl⟩
def Vh:List Nat:=[240,120,60,30,20,15,12,10,8,7,6,5,4,3,2,1]
def U7:List Nat:=[0,0,1,2,3,4,5,6,7,8,10,12,15,20,30,60]
def cn(s:Nat):Nat:=Vh.getD s 0
def wn(s:Nat):Nat:=U7.getD s 0
theorem cw(s:Nat)(h:s<16):1≤cn s∧cn s≤240∧wn s≤60∧cn s*wn s≤60:=by
 have:∀i:Fin 16,1≤cn i.val∧cn i.val≤240∧wn i.val≤60∧cn i.val*wn i.val≤60:=by decide
 exact this ⟨s,h⟩
def ro(l:List Nat)(s:Nat):Bool:=decide (cn s≤l.length)&& (l.take (cn s)).all fun x=>decide (x<2^wn s)
def D9(l:List Nat):Nat:=((z26 16).find? (ro l)).getD 15
theorem Xg(p:Nat→Bool):∀(n s:Nat),s<n→(∀t,t<s→p t=false)→p s=true→(z26 n).find? p=some s:=by
 intro n
 induction n with
 |zero=>intro s h;omega
 |succ n ih=>
  intro s hs hn hp;rw[z47,List.find?_append];by_cases h:s<n
  ·rw[ih s h hn hp];rfl
  ·have e:s=n:=by omega
   subst e;have:(z26 s).find? p=none:=by
    rw[List.find?_eq_none];intro x hx;rw[hn x (by simpa using hx)];simp
   rw[this];simp[hp]
theorem ap6{l:List Nat}{s:Nat}(hs:s<16)(hn:∀t,t<s→ro l t=false)(hp:ro l s=true):D9 l=s:=by
 unfold D9;rw[Xg (ro l) 16 s hs hn hp];rfl
theorem adw{l:List Nat}(h:l≠ [])(hx:∀x∈l,x<2^60):ro l 15=true:=by
 cases l with
 |nil=>exact absurd rfl h
 |cons a r=>
  have e1:cn 15=1:=rfl;have e2:wn 15=60:=rfl;unfold ro;rw[e1,e2];simp;exact hx a (by simp)
theorem Pe(l:List Nat):D9 l<16:=by
 unfold D9;cases h:(z26 16).find? (ro l)with
 |none=>simp
 |some s=>
  have:=List.mem_of_find?_eq_some h;simpa using this
def tc(w:Nat)(l:List Nat):Nat:=l.foldl (fun a x=>a*2^w+x) 0
theorem J4(w:Nat)(l:List Nat)(x:Nat):tc w (l++[x])=tc w l*2^w+x:=by simp[tc]
theorem Sf{w:Nat}:∀ {l:List Nat},(∀x∈l,x<2^w)→tc w l<2^ (l.length*w):=by
 intro l
 induction l using lz with
 |h0=>intro _;simp[tc]
 |h1 l b ih=>
  intro h;have h1:=ih (fun x hx=>h x (by simp[hx]))
  have h2:=h b (by simp)
  rw[J4,z00,z22,z10,z40,z16];have:=z13 (2^w) (show tc w l+1≤2^ (l.length*w)by omega)
  rw[z10,z40]at this;omega
def Cb(l:List Nat)(s:Nat):Nat:=s*2^60+tc (wn s) (l.take (cn s))*2^ (60-cn s*wn s)
def A5(l:List Nat):List Nat:=if h:l=[]then []else iy (Cb l (D9 l)) 8++A5 (l.drop (cn (D9 l)))
termination_by l.length
decreasing_by
 have:=(cw (D9 l) (Pe l)).1;have:l.length≠0:=fun e=>h (z04.1 e)
 rw[z12];omega
theorem yv:A5 []=[]:=by rw[A5];simp
theorem E4{l:List Nat}(h:l≠ []):A5 l=iy (Cb l (D9 l)) 8++A5 (l.drop (cn (D9 l))):=by rw[A5,dif_neg h]
def Q8(l:List Nat):Bool:=l.any fun x=>decide (2^60≤x)
def Hy(l:List Nat):List Nat×Int:=if Q8 l=true then([],1)else(A5 l,0)
theorem Uw{l:List Nat}(h:∀x∈l,x<2^60):Q8 l=false:=by
 unfold Q8;rw[List.any_eq_false];intro x hx;have:=h x hx;simp;omega
theorem Sl(n:Nat):∀(l:List Nat),l.length≤n→(A5 l).length≤8*l.length:=by
 induction n with
 |zero=>intro l h;rw[z04.1 (z59.1 h),yv];simp
 |succ n ih=>
  intro l h;by_cases h0:l=[]
  ·subst h0;rw[yv];simp
  ·have hc:=(cw (D9 l) (Pe l)).1;have:l.length≠0:=fun e=>h0 (z04.1 e)
   rw[E4 h0,z00,gv];have:=ih (l.drop (cn (D9 l))) (by rw[z12];omega)
   rw[z12]at this;omega
theorem ad1(n:Nat):∀(l:List Nat),l.length≤n→∀x∈A5 l,x<256:=by
 induction n with
 |zero=>intro l h;rw[z04.1 (z59.1 h),yv];simp
 |succ n ih=>
  intro l h;by_cases h0:l=[]
  ·subst h0;rw[yv];simp
  ·have hc:=(cw (D9 l) (Pe l)).1;have:l.length≠0:=fun e=>h0 (z04.1 e)
   rw[E4 h0];intro x hx;rcases z02.1 hx with hx|hx
   ·exact nt _ _ x hx
   ·exact ih (l.drop (cn (D9 l))) (by rw[z12];omega) x hx
theorem ag4{l:List Nat}{s:Nat}(hs:s<16)(h:ro l s=true):tc (wn s) (l.take (cn s))*2^ (60-cn s*wn s)<2^60∧Cb l s<2^64:=by
 obtain⟨c1,c2,c3,c4⟩:=cw s hs;simp only[ro,z19,decide_eq_true_eq,z18]at h;have h1:=Sf (w:=wn s) (l:=l.take (cn s)) (fun x hx=>h.2 x hx)
 rw[z11,z52 h.1]at h1;have h2:=z35 h1 (z50 (60-cn s*wn s));rw[←z16,show cn s*wn s+(60-cn s*wn s)=60 by omega]at h2
 refine⟨h2, ?_⟩;unfold Cb;have:s*2^60≤15*2^60:=z13 _ (by omega)
 omega
theorem aAj{a b w:Nat}(hb:b<2^w)(h:a*2^w+b<2^64):ef .or .u64 ((a*2^w:Nat):Int) (b:Int)=((a*2^w+b:Nat):Int):=by
 rw[Bo (by omega) (by omega)]
 have:=Nat.two_pow_add_eq_or_of_lt hb a;rw[z21 (2^w) a]at this;rw[this]
theorem Zf{a w:Nat}(hw:w≤64)(h:a*2^w<2^64):xw .u64 (a:Int) (w:Int)=((a*2^w:Nat):Int):=by
 rw[wg a w hw,Nat.mod_eq_of_lt h]
theorem aji{l:List Nat}{s:Nat}(h1:cn s≤l.length)(h2:∀x∈l.take (cn s),x<2^wn s):ro l s=true:=by
 simp only[ro,z19,decide_eq_true_eq,z18];exact⟨h1,h2⟩
theorem Xf{l:List Nat}{s:Nat}(h:¬cn s≤l.length):ro l s=false:=by
 simp[ro,h]
theorem ajh{l:List Nat}{s:Nat}{x:Nat}(h1:x∈l.take (cn s))(h2:¬x<2^wn s):ro l s=false:=by
 rw[Bool.eq_false_iff];intro h;simp only[ro,z19,decide_eq_true_eq,z18]at h;exact h2 (h.2 x h1)
theorem ajg{l:List Nat}{s:Nat}(h:ro l s=true):cn s≤l.length∧∀x∈l.take (cn s),x<2^wn s:=by
 simpa only[ro,z19,decide_eq_true_eq,z18]using h
def A4(c w s:Nat)(q:List Nat)(i:Nat):Nat:=s*2^60+tc w (q.take i)*2^ (60-i*w)
theorem abg{w s i:Nat}{q:List Nat}(h:i<q.length)(hi:(i+1)*w≤60):A4 0 w s q (i+1)=A4 0 w s q i+q[i]*2^ (60-(i+1)*w):=by
 unfold A4;have hti:q.take (i+1)=q.take i++[q[i]]:=by simp
 rw[hti,J4,z10,z55,z17,←z16];rw[show w+(60-(i+1)*w)=60-i*w by rw[z20]at hi⊢;omega]
theorem aox{w s i:Nat}{q:List Nat}(h:i<q.length)(hi:(i+1)*w≤60)(hs:s<16)(hx:∀x∈q,x<2^w):
  ef .or .u64 ((A4 0 w s q i:Nat):Int) ((q[i]*2^ (60-(i+1)*w):Nat):Int)=((A4 0 w s q (i+1):Nat):Int)∧q[i]*2^ (60-(i+1)*w)<2^64:=by
 have hxx:=hx _ (List.getElem_mem h);have h1:=z35 hxx (z50 (60-(i+1)*w));have hw:w+(60-(i+1)*w)=60-i*w:=by rw[z20]at hi⊢;omega
 rw[←z16,hw]at h1;have h60:2^ (60-i*w)≤2^60:=Nat.pow_le_pow_right (by omega) (by omega)
 have e:A4 0 w s q i=(s*2^ (i*w)+tc w (q.take i))*2^ (60-i*w):=by
  unfold A4;rw[z10,z17 s,←z16,show i*w+(60-i*w)=60 by rw[z20]at hi;omega]
 have hhl:tc w (q.take i)<2^ (i*w):=by
  have:=Sf (w:=w) (l:=q.take i) (fun x hx'=>hx x (z23 hx'))
  rwa [z11,z52 (by omega)]at this
 have h2:=z13 (2^ (60-i*w)) (show tc w (q.take i)+1≤2^ (i*w)by omega)
 rw[←z16,show i*w+(60-i*w)=60 by rw[z20]at hi;omega,z10,z40]at h2
 have hs2:s*2^60≤15*2^60:=z13 _ (by omega)
 have ht:A4 0 w s q i=s*2^60+tc w (q.take i)*2^ (60-i*w):=rfl;refine⟨?_,by omega⟩
 rw[abg h hi,e];rw[e]at ht;exact aAj h1 (by omega)
theorem abf(w s:Nat)(q:List Nat):A4 0 w s q 0=s*2^60:=by simp[A4,tc]
theorem aad{x w:Nat}:decide (w<dg x)= !decide (x<2^w):=by
 have:=fh (v:=x) (n:=w);by_cases h:x<2^w
 ·rw[decide_eq_true h,decide_eq_false (by have:=this.2 h;omega)];rfl
 ·rw[decide_eq_false h,decide_eq_true (by have:=mt this.1 h;omega)];rfl
def jk(k:Nat):List Nat→List Nat
 |[]=> []
 |[x]=>cg x++cg k
 |x::y::r=>if y=x then jk (k+1) (y::r)else cg x++cg k++jk 0 (y::r)
theorem M8(k:Nat):jk k []=[]:=rfl
theorem E5(k x:Nat):jk k [x]=cg x++cg k:=rfl
theorem Xl(k x:Nat)(r:List Nat):jk k (x::x::r)=jk (k+1) (x::r):=by rw[jk,if_pos rfl]
theorem Xm{k x y:Nat}(h:y≠x)(r:List Nat):jk k (x::y::r)=cg x++cg k++jk 0 (y::r):=by rw[jk,if_neg h]
theorem Xk{k x:Nat}{r:List Nat}(h:r.head?≠some x):jk k (x::r)=cg x++cg k++jk 0 r:=by
 cases r with
 |nil=>rw[E5,M8,z49]
 |cons y r=>exact Xm (fun e=>h (by rw[e];rfl)) r
theorem M7{x:Nat}{r:List Nat}(h:r.head?≠some x):∀(m k:Nat),jk k (z06 (m+1) x++r)=cg x++cg (k+m)++jk 0 r
 |0,k=>by
  have e:z06 (0+1) x++r=x::r:=rfl;rw[e,Xk h,Nat.add_zero]
 |m+1,k=>by
  have e:z06 (m+1+1) x++r=x::x::(z06 m x++r):=rfl;have e2:z06 (m+1) x++r=x::(z06 m x++r):=rfl;rw[e,Xl,←e2,M7 h m (k+1)]
  congr 3
  omega
theorem Aa:∀(l:List Nat) (k:Nat),(∀x∈l,x<2^64)→k+l.length≤65536→(jk k l).length≤20*l.length
 |[],k,_,_=>by simp[jk]
 |[x],k,h,hk=>by
  rw[E5,z00];have h1:=bn (h x (by simp))
  have h2:=bn (v:=k) (by omega)
  simp only[z22];omega
 |x::y::r,k,h,hk=>by
  simp only[z01]at hk;rw[jk];split
  ·have:=Aa (y::r) (k+1) (fun z hz=>h z (by simp[hz])) (by simp only[z01];omega)
   simp only[z01]at this⊢;omega
  ·have:=Aa (y::r) 0 (fun z hz=>h z (by simp[hz])) (by simp only[z01];omega)
   have h1:=bn (h x (by simp))
   have h2:=bn (v:=k) (by omega)
   simp only[z00,z01]at this⊢;omega
theorem Br:∀(l:List Nat) (k:Nat),∀x∈jk k l,x<256
 |[],k=>by simp[jk]
 |[x],k=>by
  rw[E5];intro z hz;rcases z02.1 hz with hz|hz
  ·exact fe _ z hz
  ·exact fe _ z hz
 |x::y::r,k=>by
  rw[jk];split
  ·exact Br (y::r) (k+1)
  ·intro z hz;rcases z02.1 hz with hz|hz
   ·rcases z02.1 hz with hz|hz
    ·exact fe _ z hz
    ·exact fe _ z hz
   ·exact Br (y::r) 0 z hz
def Hk(n:Int):Nat:=(n % 2^64).toNat
theorem V2(n:Int):IntKind.u64.wrap n=(Hk n:Int):=by rw[IntKind.wrap_u64];unfold Hk;omega
theorem ahc(n:Int):Hk n<2^64:=by unfold Hk;omega
def Gk(xs:List Int):List Nat:=xs.flatMap fun x=>iy (Hk x) 8
theorem Iz(xs:List Int):(Gk xs).length=8*xs.length:=by
 induction xs with
 |nil=>rfl
 |cons a r ih=>rw[Gk,z43,z00,gv,←Gk,ih,z01];omega
theorem ace(xs:List Int)(x:Int):Gk (xs++[x])=Gk xs++iy (Hk x) 8:=by simp[Gk]
def Al(z:List Nat):List Nat:=z.flatMap cg
theorem ade(z:List Nat)(x:Nat):Al (z++[x])=Al z++cg x:=by simp[Al]
theorem Mu(x:Nat)(z:List Nat):Al (x::z)=cg x++Al z:=by simp[Al]
theorem R5{z:List Nat}(h:∀x∈z,x<2^64):(Al z).length≤10*z.length:=by
 induction z with
 |nil=>simp[Al]
 |cons a r ih=>
  rw[Mu,z00,z01];have:=bn (h a (by simp))
  have:=ih (fun x hx=>h x (by simp[hx]))
  omega
theorem adf(z:List Nat):∀x∈Al z,x<256:=by
 intro x hx;simp only[Al,z33]at hx;obtain⟨y,_,hx⟩:=hx;exact fe y x hx
theorem acs{l:List Nat}(h:∀x∈l,x<2^64)(hl:l.length≤65536):(Ht l).length≤2^20:=by
 have h10:=bn (aq7 (by omega) h)
 have hw:=afj h;have hm:l.length*wF l≤65536*64:=Nat.mul_le_mul hl hw;unfold Ht;rw[z00,z01,Ib,Fd];omega
theorem Wu{l:List Nat}(h:∀x∈l,x<2^64):∀x∈Ht l,x<256:=by
 intro x hx;unfold Ht at hx;have hw:=afj h;rcases z02.1 hx with hx|hx
 ·exact fe _ x hx
 ·rcases z05.1 hx with rfl|hx
  ·omega
  ·exact Oz _ (Nl _ _ _) x hx
def ua(z:List Nat)(t:Nat):List Nat×Int:=if t=2 then(Ht z,0)else if t=3 then Hy z else if t=4 then(jk 0 z,0)else(Al z,0)
theorem L0{z:List Nat}(t:Nat)(h:∀x∈z,x<2^64)(hl:z.length≤65536):(ua z t).1.length≤2^21:=by
 unfold ua;split
 ·have:=acs h hl;simp only;omega
 ·split
  ·unfold Hy;split
   ·simp
   ·have:=Sl z.length z (z03 _);simp only;omega
  ·split
   ·have:=Aa z 0 h (by omega);simp only;omega
   ·have:=R5 h;simp only;omega
theorem V8{z:List Nat}(t:Nat)(h:∀x∈z,x<2^64):∀x∈(ua z t).1,x<256:=by
 unfold ua;split
 ·exact Wu h
 ·split
  ·unfold Hy;split
   ·simp
   ·exact ad1 z.length z (z03 _)
  ·split
   ·exact Br z 0
   ·exact adf z
def zdI(xs:List Int)(t:Nat):List Nat:=(Cf xs (oft t)).map Qr
theorem amc(xs:List Int)(t:Nat):(zdI xs t).length=xs.length:=by rw[zdI,z34,Ac]
theorem afu{xs:List Int}(h:∀x∈xs,ql x)(t:Nat):∀x∈zdI xs t,x<2^64:=by
 intro x hx;simp only[zdI,z28]at hx;obtain⟨y,hy,rfl⟩:=hx;exact aft (Pj h _ y hy)
def aku(z:List Nat)(t:Nat):List Nat×Int:=if(ua z.tail t).2≠0 then([],(ua z.tail t).2)else(cg (z.headD 0)++(ua z.tail t).1,0)
def aau(xs:List Int)(t:Nat):List Nat×Int:=if t=0 then(Gk xs,0)else aku (zdI xs t) t
def o8(xs:List Int)(w:Int):List Nat×Int:=if w<0∨5≤w then([],1)else if 65536<xs.length then([],4)else if xs=[]then([],0)else aau xs w.toNat
theorem ag8{xs:List Int}(t:Nat)(h:∀x∈xs,ql x)(hl:xs.length≤65536):(aau xs t).1.length≤2^22:=by
 unfold aau;split
 ·simp only[Iz];omega
 ·unfold aku;split
  ·simp
  ·have hz:=afu h t;have hzl:=amc xs t;have h0:(zdI xs t).headD 0<2^64:=by
    cases hq:zdI xs t with
    |nil=>simp
    |cons a r=>exact hz a (by rw[hq];simp)
   have h1:=bn h0;have h2:=L0 (z:=(zdI xs t).tail) t (fun x hx=>hz x (z38 hx)) (by rw[List.length_tail];omega)
   simp only[z00];omega
theorem acf(xs:List Int):∀x∈Gk xs,x<256:=by
 intro x hx;simp only[Gk,z33]at hx;obtain⟨y,_,hx⟩:=hx;exact nt _ _ x hx
theorem aa4{xs:List Int}(t:Nat)(h:∀x∈xs,ql x):∀x∈(aau xs t).1,x<256:=by
 unfold aau;split
 ·exact acf xs
 ·unfold aku;split
  ·simp
  ·intro x hx;rcases z02.1 hx with hx|hx
   ·exact fe _ x hx
   ·exact V8 t (fun y hy=>afu h t y (z38 hy)) x hx
theorem Ra{xs:List Int}(w:Int)(h:∀x∈xs,ql x):(o8 xs w).1.length≤2^22:=by
 unfold o8;split
 ·simp
 ·split
  ·simp
  ·split
   ·simp
   ·exact ag8 _ h (by omega)
theorem Ls{xs:List Int}(w:Int)(h:∀x∈xs,ql x):∀x∈(o8 xs w).1,x<256:=by
 unfold o8;split
 ·simp
 ·split
  ·simp
  ·split
   ·simp
   ·exact aa4 _ h
def Lj(xs:List Int)(b:Nat×List Nat)(w:Nat):Nat×List Nat:=if(o8 xs w).2=0∧(o8 xs w).1.length<b.2.length then(w,(o8 xs w).1)else b
def kg(xs:List Int)(n:Nat):Nat×List Nat:=(z26 n).foldl (Lj xs) (0,(o8 xs 0).1)
theorem X6(xs:List Int):kg xs 0=(0,(o8 xs 0).1):=rfl
theorem wz(xs:List Int)(n:Nat):kg xs (n+1)=Lj xs (kg xs n) n:=by simp[kg,z47]
theorem aej(xs:List Int):kg xs 1=(0,(o8 xs 0).1):=by
 rw[wz,X6,Lj];split
 ·rename_i h;have:=h.2;simp at this
 ·rfl
theorem Ah{xs:List Int}(h:∀x∈xs,ql x):∀n,n≤5→(kg xs n).1≤4∧(kg xs n).2.length≤2^22∧∀x∈(kg xs n).2,x<256
 |0,_=>⟨z58 _,Ra _ h,Ls _ h⟩
 |n+1,hn=>by
  rw[wz,Lj];split
  ·exact⟨by simp only;omega,Ra _ h,Ls _ h⟩
  ·exact Ah h n (by omega)
def Am(xs:List Int):List Nat×Int:=if 65536<xs.length then([],4)else((kg xs 5).1::(kg xs 5).2,0)
theorem ad4{xs:List Int}(h:∀x∈xs,ql x):∀x∈(Am xs).1,x<256:=by
 obtain⟨h1,h2,h3⟩:=Ah h 5 (z03 _);unfold Am;split
 ·simp
 ·intro x hx;rcases z05.1 hx with rfl|hx
  ·omega
  ·exact h3 x hx
theorem ad3{xs:List Int}(h:∀x∈xs,ql x):(Am xs).1.length≤2^23:=by
 obtain⟨h1,h2,h3⟩:=Ah h 5 (z03 _);unfold Am;split
 ·simp
 ·simp only[z01];omega
theorem aqb{xs:List Int}(hl:xs.length≤65536):Am xs=((kg xs 5).1::(kg xs 5).2,0):=by unfold Am;rw[if_neg (by omega)]
theorem aek{xs:List Int}(n:Nat):∀w,w<n→(o8 xs (w:Nat)).2=0→(kg xs n).2.length≤(o8 xs (w:Nat)).1.length:=by
 induction n with
 |zero=>intro w h;omega
 |succ n ih=>
  intro w hw he;rw[wz,Lj];by_cases hwn:w=n
  ·subst hwn;split
   ·exact z03 _
   ·rename_i h;have:¬(o8 xs (w:Nat)).1.length<(kg xs w).2.length:=fun h2=>h ⟨he,h2⟩
    omega
  ·have:=ih w (by omega) he
   split
   ·rename_i h;simp only;omega
   ·exact this
theorem ajl{xs:List Int}(hl:xs.length≤65536)(w:Int)(h:(o8 xs w).2=0):(Am xs).1.length≤(o8 xs w).1.length+1:=by
 rw[aqb hl];simp only[z01];by_cases hw:w<0∨5≤w
 ·rw[o8,if_pos hw]at h;cases h
 ·obtain⟨k,rfl⟩:∃k:Nat,w=k:=⟨w.toNat,by omega⟩
  have:=aek (xs:=xs) 5 k (by omega) h
  omega
theorem Xn{xs:List Int}(hl:xs.length≤65536):(Am xs).1.length≤8*xs.length+1:=by
 have h0:(o8 xs 0).2=0∧(o8 xs 0).1.length≤8*xs.length:=by
  unfold o8;rw[if_neg (by omega),if_neg (by omega)]
  by_cases he:xs=[]
  ·rw[if_pos he];simp
  ·rw[if_neg he];refine⟨rfl, ?_⟩;show(Gk xs).length≤_
   rw[Iz];omega
 have:=ajl hl 0 h0.1;omega
theorem Jt:∀(l:List Nat) (k bc:Nat),(∀x∈l,x<256)→(A3 k bc l).2.2=0→∃v r,(k=0∨v≠0)∧l=cg v++r∧A3 k bc l=(bc+v*128^k,k+(cg v).length,0)
 |[],k,bc,_,h=>by simp[A3]at h
 |x::r,k,bc,hb,h=>by
  have hx:=hb x (by simp)
  rw[A3]at h⊢;split at h
  ·simp at h
  ·rename_i h1;rw[if_neg h1];split at h
   ·rename_i h2;rw[if_pos h2];obtain⟨v,r',h3,h4,h5⟩:=Jt r (k+1) _ (fun y hy=>hb y (by simp[hy])) h
    have hv:v≠0:=h3.resolve_left (by omega)
    have e1:(v*128+x % 128) % 128+128=x:=by omega
    have e2:(v*128+x % 128)/128=v:=by omega
    refine⟨v*128+x % 128,r',.inr (by omega), ?_, ?_⟩
    ·rw[yk (by omega),e1,e2,z45,←h4]
    ·have hp:128^ (k+1)=128^k*128:=z30 ..;have e3:(v*128+x % 128)*128^k=v*128^ (k+1)+x % 128*128^k:=by rw[hp,z10,z17,z21 128]
     rw[h5,yk (v:=v*128+x % 128) (by omega),e2,e3,z01]
     refine Prod.ext ?_ (Prod.ext ?_ rfl)<;>simp only<;>omega
   ·rename_i h2;rw[if_neg h2];split at h
    ·simp at h
    ·rename_i h3;rw[if_neg h3];refine⟨x,r,by omega, ?_, ?_⟩
     ·rw[t6 (by omega)];rfl
     ·rw[t6 (by omega)];rfl
theorem xd{l:List Nat}(hb:∀x∈l,x<256)(h:(a6 l).2.2=0):l=cg (a6 l).1++l.drop (a6 l).2.1∧(a6 l).2.1=(cg (a6 l).1).length:=by
 rw[Iw]at h⊢;obtain⟨v,r,_,h1,h2⟩:=Jt l 0 0 hb h;rw[h2];simp only[z15,Nat.pow_zero,Nat.mul_one];refine⟨?_,trivial⟩
 conv=>rhs;rw[h1]
 rw[z24];exact h1
theorem Pr{l:List Nat}{m:Nat}(h:l.length≤m)(hl:l.length<2^64)(r:List Nat):blk (cg l.length++l++r) m=(l,0,r):=by
 unfold blk;rw[z44,rf hl];simp only[ne_eq,not_true_eq_false,if_false];rw[if_neg (by omega),if_neg (by simp),z24,List.take_left,←z54,z24,z24]
theorem aei{l:List Nat}{m:Nat}(hb:∀x∈l,x<256)(h:(blk l m).2.1=0):l=cg (blk l m).1.length++(blk l m).1++(blk l m).2.2∧(blk l m).1.length≤m:=by
 unfold blk at h⊢;split at h
 ·rename_i h1;exact absurd h h1
 ·rename_i h1;rw[if_neg h1];split at h
  ·simp at h
  ·rename_i h2;rw[if_neg h2];split at h
   ·simp at h
   ·rename_i h3;rw[if_neg h3];simp only;obtain⟨h4,h5⟩:=xd hb (by simpa using h1)
    have hlen:((l.drop (a6 l).2.1).take (a6 l).1).length=(a6 l).1:=by rw[z11,z12];omega
    rw[hlen];refine⟨?_,by omega⟩
    conv=>lhs;rw[h4]
    rw[z44]
    congr 1
    rw[←z54,List.take_append_drop]
theorem j8{l:List Nat}{m:Nat}(hb:∀x∈l,x<256):(∀x∈(blk l m).1,x<256)∧(∀x∈(blk l m).2.2,x<256)∧(blk l m).1.length≤l.length∧(blk l m).2.2.length≤l.length:=by
 unfold blk;split
 ·exact⟨by simp,hb,by simp,z03 _⟩
 ·split
  ·exact⟨by simp,hb,by simp,z03 _⟩
  ·split
   ·exact⟨by simp,hb,by simp,z03 _⟩
   ·exact⟨fun x hx=>hb x (z39 (z23 hx)),fun x hx=>hb x (z39 hx),by simp;omega,by simp⟩
def nb(s:List UInt8):List Nat:=s.map UInt8.toNat
def ub(l:List Nat):List UInt8:=l.map UInt8.ofNat
theorem Eh(s:List UInt8):(nb s).length=s.length:=by simp[nb]
theorem afv(l:List Nat):(ub l).length=l.length:=by simp[ub]
theorem O3(s:List UInt8):∀x∈nb s,x<256:=by
 intro x hx;simp only[nb,z28]at hx;obtain⟨y,_,rfl⟩:=hx;exact y.toNat_lt
theorem aEt(s:List UInt8):ub (nb s)=s:=by
 unfold ub nb;rw[z29]
 conv=>rhs;rw[←z56 s]
 exact z25 (fun x _=>by simp)
theorem aq6{l:List Nat}(h:∀x∈l,x<256):nb (ub l)=l:=by
 unfold ub nb;rw[z29]
 conv=>rhs;rw[←z56 l]
 refine z25 (fun x hx=> ?_)
 have:=h x hx;simp only[Function.comp,id];show(UInt8.ofNat x).toNat=x
 simp only[UInt8.toNat_ofNat'];omega
def Eb(l:List Nat):List Nat:=cg l.length++l
theorem ur(l:List Nat):(Eb l).length=(cg l.length).length+l.length:=by rw[Eb,z00]
theorem Fc{l:List Nat}(h:∀x∈l,x<256):∀x∈Eb l,x<256:=by
 intro x hx;rcases z02.1 hx with hx|hx
 ·exact fe _ x hx
 ·exact h x hx
abbrev Sm:=Int×Nat
def U9(xs:List Sm):List Nat:=(Am (xs.map Prod.fst)).1
def U8(xs:List Sm):List Nat:=(Gn (xs.map Prod.snd)).1
def Lp(xs:List Sm):List Nat:=cg xs.length++(Eb (U9 xs)++Eb (U8 xs))
def lv(t:List UInt8)(xs:List Sm):List Nat×Int:=if 64<t.length∨65536<xs.length then([],4)else(1::(Eb (nb t)++Lp xs),0)
def Hu(n:Nat):Nat:=1+8*min n 65536
def vb(xs:List Sm):Prop:=∀x∈xs,ql x.1∧x.2<2^64
theorem vb.t{xs:List Sm}(h:vb xs):∀x∈xs.map Prod.fst,ql x:=by
 intro x hx;obtain⟨y,hy,rfl⟩:=z28.1 hx;exact(h y hy).1
theorem vb.v{xs:List Sm}(h:vb xs):∀x∈xs.map Prod.snd,x<2^64:=by
 intro x hx;obtain⟨y,hy,rfl⟩:=z28.1 hx;exact(h y hy).2
theorem ahg{xs:List Sm}(hl:xs.length≤65536):(U9 xs).length≤Hu xs.length:=by
 have:=Xn (xs:=xs.map Prod.fst) (by simpa using hl)
 rw[z34]at this;unfold U9 Hu;omega
theorem ag9{xs:List Sm}(hl:xs.length≤65536):(U8 xs).length≤Hu xs.length:=by
 have:=Sk (xs.map Prod.snd);rw[z34]at this;unfold U8 Hu;omega
theorem R0(n:Nat):Hu n≤524289:=by unfold Hu;omega
theorem abh{xs:List Sm}(h:vb xs):∀x∈U9 xs,x<256:=ad4 h.t
theorem aa9(xs:List Sm):∀x∈U8 xs,x<256:=adz _
theorem X4{xs:List Sm}(h:vb xs):∀x∈Lp xs,x<256:=by
 intro x hx;rcases z02.1 hx with hx|hx
 ·exact fe _ x hx
 ·rcases z02.1 hx with hx|hx
  ·exact Fc (abh h) x hx
  ·exact Fc (aa9 xs) x hx
theorem Na{t:List UInt8}{xs:List Sm}(h:vb xs):∀x∈(lv t xs).1,x<256:=by
 unfold lv;split
 ·simp
 ·intro x hx;rcases z05.1 hx with rfl|hx
  ·omega
  ·rcases z02.1 hx with hx|hx
   ·exact Fc (O3 t) x hx
   ·exact X4 h x hx
theorem ar2{n:Nat}(h:n≤524289):(cg n).length≤3:=Zx 2 n (by omega)
theorem aeh{xs:List Sm}(hl:xs.length≤65536):(Lp xs).length≤3+2*(3+Hu xs.length):=by
 have h1:=ahg hl;have h2:=ag9 hl;have h3:=R0 xs.length;have h4:(cg xs.length).length≤3:=ar2 (by omega)
 have h5:(cg (U9 xs).length).length≤3:=ar2 (by omega)
 have h6:(cg (U8 xs).length).length≤3:=ar2 (by omega)
 unfold Lp;rw[z00,z00,ur,ur];omega
theorem aAx{n:Nat}(h:n≤64):(cg n).length=1:=by rw[t6 (by omega)];rfl
theorem M9{t:List UInt8}{xs:List Sm}:(lv t xs).1.length≤2^21:=by
 unfold lv;split
 ·simp
 ·rename_i h;have h1:=aeh (xs:=xs) (by omega)
  have h2:=aAx (n:=t.length) (by omega)
  have h3:=R0 xs.length;simp only[z01,z00,ur,Eh];omega
theorem aqd{t:List UInt8}{xs:List Sm}(ht:t.length≤64)(hl:xs.length≤65536):lv t xs=(1::(Eb (nb t)++Lp xs),0):=by
 rw[lv,if_neg (by omega)]
theorem ajm{t:List UInt8}{xs:List Sm}(h:(lv t xs).2≠0):(lv t xs).2=4∧(64<t.length∨65536<xs.length)∧(lv t xs).1=[]:=by
 unfold lv at h⊢;split
 ·rename_i h1;exact⟨rfl,h1,rfl⟩
 ·rename_i h1;rw[if_neg h1]at h;exact absurd rfl h
def sms(xs:List Sm):List PV:=xs.map fun x=> .agg [.int .i64 x.1,.int .u64 (x.2:Nat)]
def chP(c:List UInt8×List Sm):PV:= .agg [.str c.1,.sl 2 (sms c.2)]
theorem zk(xs:List Sm):(sms xs).length=xs.length:=by simp[sms]
theorem sw(l:List Nat):r9 (bytes l)=some (l.map fun n:Nat=>(n:Int)):=by
 induction l with
 |nil=>rfl
 |cons a r ih=>
  show r9 (.int .u8 (a:Int)::bytes r)=_
  rw[r9,ih];rfl
theorem ux(l:List Nat):Ic (l.map fun n:Nat=>(n:Int))=ub l:=by
 unfold Ic ub;rw[z29];exact z25 (fun x _=>by simp)
theorem tm(s:List UInt8):c5 s=bytes (nb s):=by
 unfold c5 nb bytes;rw[z29];rfl
set_option maxRecDepth 100000
set_option maxHeartbeats 400000
open Go.Proofs
def Og(p:Nat)(name:List UInt8):List Nat:=p::(cg name.length++nb name)
def dk(key:List Nat)(p:Nat)(name:List UInt8):List Nat×Nat:=
 if key.length≠32 then([],1)else if 64<name.length then([],4)else(pz key (Og p name++[1]),0)
theorem Y0(key:List Nat)(p:Nat)(name:List UInt8):∀x∈(dk key p name).1,x<256:=by
 unfold dk;split
 ·simp
 ·split
  ·simp
  ·exact Pa _ _
theorem agq(key:List Nat)(p:Nat)(name:List UInt8):(dk key p name).1.length≤32:=by
 unfold dk;split
 ·simp
 ·split
  ·simp
  ·simp[kl]
theorem Gc(x:Nat)(l:List Nat):PV.int .u8 (x:Int)::bytes l=bytes (x::l):=rfl
theorem ad6(p:Nat)(name:List UInt8):Og p name=p::(cg name.length++nb name):=rfl
attribute [go_sem] fv yd uu qf
theorem Uo(key info:List Nat)(hkb:∀x∈key,x<256)(hkl:key.length<2^28)(hil:info.length<2^28):Fn Tryz.prog 94 [] [.pv (.sl 1 (bytes key)),.pv (.sl 1 (bytes info)),.pv (.int .i64 32)] (fun rs H'=>rs=[.pv (.sl 1 (bytes (pz key (info++[1])))),.pv (.int .i64 0)]∧H'=[]):=by
 refine Fn.ob Tryz.f94 40 [.tmp 6,.tmp 7] fun C=> ?_
 have hroom:aw=140737488355328:=rfl;have hml:=kl key (info++[1]);refine ak ?_;refine ae rfl ?_;refine aa ?_;refine aq (fun i:Nat=>⟨40,[(0,.pv (.sl 1 (bytes key))),(1,.pv (.sl 1 (bytes info))),(2,.pv (.int .i64 32)),(8,.own 5 (bytes (if i=0 then []else pz key (info++[1])))),(9,.own 5 (bytes (if i=0 then []else pz key (info++[1])))),(10,.pv (.int .i64 ((i+1:Nat):Int)))],[]⟩) (fun i=>i≤1) (fun i=>1-i) [0,1,2,8,9,10] [] 0 (by decide) ?_
 rintro i hi K hK;have hi01:i=0∨i=1:=by omega
 rcases hi01 with rfl|rfl
 ·simp only[↓reduceIte];refine aa ?_;refine am rfl ?_;have a1:(0≤aw)=True:=eq_true (by omega)
  have a2:(info.length≤aw)=True:=eq_true (by omega)
  have a3:(info.length+1≤aw)=True:=eq_true (by omega)
  have e1:IntKind.u8.wrap ((1:Nat):Int)=((1:Nat):Int):=by decide
  have e2:IntKind.i64.wrap (1+1)=2:=by decide
  have e3:IntKind.u8.wrap 1=1:=by decide
  have hb1:bytes info++[PV.int .u8 1]=bytes (info++[1]):=wy info 1;have hb0:bytes []=[]:=rfl;refine aa ?_ (by simp only[go_sem,↓reduceIte,z14,z15,z48,z36,wq,a1,a2,a3,nc1,e3,hb1,hb0,z49]<;>rfl)
  refine av (args:=[.pv (.sl 1 (bytes key)),.pv (.sl 1 (bytes (info++[1])))]) (fun _=>0) (I4 key (info++[1]) hkb (by omega) (by rw[z00,z22];omega)) (.pv _ (.lend rfl c7 .nil)) ?_
  generalize pz key (info++[1])=T at*;have a4:(T.length≤aw)=True:=eq_true (by omega)
  refine aa ?_ (by simp only[go_sem,↓reduceIte,z14,z15,z48,a4,nc1,hb0,e2]<;>rfl)
  exact ah hK 1 (by decide) (by decide)
 ·simp only[Nat.one_ne_zero,if_false];generalize pz key (info++[1])=T at*;have d1:decide ((T.length:Int)<32)=false:=decide_eq_false (by omega)
  refine aa ?_;refine AW.cond rfl (fun hc=> ?_) (fun hc=> ?_)
  ·exfalso;rw[d1]at hc;cases hc
  have nc32:((32:Nat):Int)=32:=rfl;refine aa ?_ (by simp only[go_sem,↓reduceIte,hml,nc32,Int.reduceLE]<;>rfl)
  have hy:bytes T=((bytes T).drop 0).take 32:=by rw[List.drop_zero,List.take_of_length_le (by rw[ba];omega)]
  refine ac (.lendV rfl c7 hy (.pv _ .nil)) rfl
theorem tt(key:List Nat)(p:Nat)(name:List UInt8)(hkb:∀x∈key,x<256)(hp:p<256)(hnl:name.length≤maxLen):Fn Tryz.prog 58 [] [.pv (.sl 1 (bytes key)),.pv (.int .u8 p),.pv (.str name)] (fun rs H'=>rs=[.pv (.sl 1 (bytes (dk key p name).1)),.pv (.int .i64 (dk key p name).2)]∧H'=[]):=by
 refine Fn.ob Tryz.f58 24 [.tmp 6,.tmp 7] fun C=> ?_
 have hroom:aw=140737488355328:=rfl;have hml:maxLen<2^63:=by unfold maxLen;decide
 unfold dk;by_cases h1:key.length=32
 rotate_left
 ·have d1:((key.length:Int) !=32)=true:=by simp;omega
  have d2:(key.length !=32)=true:=by simp;omega
  rw[if_pos h1];refine aa ?_ (by simp only[go_sem,↓reduceIte,d1,d2]<;>rfl)
  refine am rfl ?_;refine aa ?_;refine ac (.lend rfl c7 (.pv _ .nil)) rfl
 have hkl:key.length<2^50:=by omega
 have d1:((key.length:Int) !=32)=false:=by simp;omega
 have d2:(key.length !=32)=false:=by simp;omega
 rw[if_neg (by simp;omega)]
 refine aa ?_ (by simp only[go_sem,↓reduceIte,d1,d2]<;>rfl)
 refine ae rfl ?_;refine aa ?_;refine AW.cond rfl (fun hc=> ?_) (fun hc=> ?_)
 ·have h2:64<name.length:=by have:=of_decide_eq_true hc;omega
  rw[if_pos h2];refine aa ?_;refine ac (.lend rfl c7 (.pv _ .nil)) rfl
 have h2:¬64<name.length:=by have:=of_decide_eq_false hc;omega
 rw[if_neg h2];refine aa ?_;refine Dp hnl afb s9 afc ?_;rw[tm];have hnb:(nb name).length=name.length:=by simp[nb]
 have l10:=bn (v:=name.length) (by omega)
 refine aa ?_;refine ap (im (nb name) (by omega)) (.pv _ .nil) ?_
 rw[hnb];have hLl:(cg name.length++nb name).length≤100:=by rw[z00];omega
 have hdk:=ad6 p name;generalize cg name.length++nb name=L at*;have r1:(1+L.length≤aw)=True:=eq_true (by omega)
 have hil:(Og p name).length<2^28:=by rw[hdk,z01];omega
 refine Io 3 ?_ (by simp only[go_sem,↓reduceIte,z01,z14,z15,r1,Gc,←hdk]<;>rfl)
 generalize Og p name=info at*;refine bj (.slot 20) ?_;refine aa ?_;refine ap (Uo key info hkb (by omega) hil) (.pv _ (.pv _ (.pv _ .nil))) ?_
 refine aa ?_;refine ac (.pv _ (.pv _ .nil)) rfl
theorem adh(key:List Nat)(hkb:∀x∈key,x<256):Fn Tryz.prog 66 [] [.pv (.sl 1 (bytes key))] (fun rs H'=>rs=[.pv (.sl 1 (bytes (dk key 4 []).1)),.pv (.int .i64 (dk key 4 []).2)]∧H'=[]):=by
 refine Fn.ob Tryz.f66 8 [.tmp 2,.tmp 3] fun C=> ?_
 refine aa ?_;refine av (args:=[.pv (.sl 1 (bytes key)),.pv (.int .u8 ((4:Nat):Int)),.pv (.str [])]) (fun _=>0) (tt key 4 [] hkb (by decide) (z58 _)) (.pv _ (.pv _ (.pv _ .nil))) ?_
 refine aa ?_;refine ac (.pv _ (.pv _ .nil)) rfl
def afa(n:Nat):Nat:=(n+15)/16*16-n
def ly(b:List Nat):List Nat:=b++z06 (afa b.length) 0
def Va(key nonce ad c:List Nat):List Nat:=aay ((yh key 0 nonce).take 32) (ly ad++ly c++fk ad.length 8++fk c.length 8)
def Hl(key nonce ad p:List Nat):List Nat:=Qu key nonce 1 p p.length++Va key nonce ad (Qu key nonce 1 p p.length)
theorem Re(key nonce ad c:List Nat):(Va key nonce ad c).length=16:=ait _ _
theorem abm(key nonce ad c:List Nat):∀x∈Va key nonce ad c,x<256:=adb _ _
theorem abz(key nonce ad p:List Nat):(Hl key nonce ad p).length=p.length+16:=by unfold Hl;rw[z00,Po,Re]
theorem Wf{key nonce ad p:List Nat}(h:∀x∈p,x<256):∀x∈Hl key nonce ad p,x<256:=by
 intro x hx;rcases z02.1 hx with h1|h1
 ·exact Sz h _ x h1
 ·exact abm _ _ _ _ x h1
theorem J5{b:List Nat}(h:∀x∈b,x<256):∀x∈ly b,x<256:=by
 intro x hx;rcases z02.1 hx with h1|h1
 ·exact h x h1
 ·rw[List.eq_of_mem_replicate h1];decide
theorem M0(b:List Nat):(ly b).length≤b.length+16:=by unfold ly afa;rw[z00,List.length_replicate];omega
theorem ak6{n i:Nat}(h1:n≤i)(h2:i≤(n+15)/16*16)(h3:i % 16=0):i-n=afa n:=by unfold afa;omega
end Go.Ck
