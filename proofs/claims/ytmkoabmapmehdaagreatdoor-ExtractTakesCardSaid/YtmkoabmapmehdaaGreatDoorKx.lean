/- What is proved here: parts of the proofs of this seat's statements (a verified evaluator for calls over pure values, its laws, and contracts of functions). No condition. -/
import Derived.Test.YtmkoabmapmehdaaGreatDoorKr
import Derived.Test.YtmkoabmapmehdaaGreatDoorKt
set_option linter.all false
open List renaming take_of_length_le→z00,replicate→z01,length_map→z03,length_drop→z06,nil_append→z07,length_nil→z08,length_eq_zero_iff→z09,replicate_succ'→z12,mem_of_mem_take→z13,length_cons→z15
open Array renaming replicate→z02
open Nat renaming zero_le→z04,reduceLT→z11,mul_one→z14,reduceAdd→z16,zero_mul→z18,zero_add→z19
open Int renaming reduceSub→z05,reduceMul→z10,reduceAdd→z17
set_option maxRecDepth 100000
set_option maxHeartbeats 400000
namespace Go.Ck
open Go.Proofs
theorem aeb(s:S8):Fn Tryz.prog 129 [] [.pv (stP s)] (fun rs H'=>rs=[.own 5 (bytes (by8 s))]∧H'=[]):=by
 refine Fn.ob Tryz.f129 27 [.tmp 2] fun C=> ?_
 have hr:aw=140737488355328:=rfl;have hsl:s.l.length=8:=rfl;have hby:by8 s=s.l.flatMap Qx:=rfl;rw[hby];have hstP:stP s= .agg [.int .u32 s.a.toNat,.int .u32 s.b.toNat,.int .u32 s.c.toNat,.int .u32 s.d.toNat,.int .u32 s.e.toNat,.int .u32 s.f.toNat,.int .u32 s.g.toNat,.int .u32 s.h.toNat]:=rfl;have hl:([.int .u32 s.a.toNat,.int .u32 s.b.toNat,.int .u32 s.c.toNat,.int .u32 s.d.toNat,.int .u32 s.e.toNat,.int .u32 s.f.toNat,.int .u32 s.g.toNat,.int .u32 s.h.toNat]:List PV)=s.l.map wP:=rfl;rw[hstP];refine aa ?_;refine aq (fun i:Nat=>⟨27,[(8,.pv (.int .i64 i)),(3,.own 5 (bytes ((s.l.take i).flatMap Qx))),(7,.pv (.agg (s.l.map wP)))],[]⟩) (fun i=>i≤8) (fun i=>8-i) [8,3,7] [] 0 (by omega) ?_
 generalize s.l=l at*;rintro i hi K hK;refine aa ?_;refine AW.cond rfl (fun hc=> ?_) (fun hc=> ?_)
 rotate_left
 ·have hge:i=8:=by have:=of_decide_eq_false hc;omega
  subst hge;rw[z00 (by omega)]
  refine aa ?_;refine ac (.move rfl .nil) rfl
 have hlt:i<8:=by have:=of_decide_eq_true hc;omega
 have hst:=aac l i (by omega)
 have hx:(l.map wP)[i]?=some (.int .u32 ((fg l i).toNat:Int)):=by rw[vp (by omega)];simp[wP,hsl,hlt]
 have hfl:((l.take i).flatMap Qx).length=4*i:=by rw[xi];simp;omega
 generalize(l.take i).flatMap Qx=bc at*;generalize fg l i=x at*;refine aa ?_;refine Gh (ho:=rfl) (n:=i) (q:= .int .u32 (x.toNat:Int)) rfl rfl afx hlt Oo ?_ ?_
 ·rw[z14];exact hx
 have e6:IntKind.i64.wrap ((i:Int)+1)=((i+1:Nat):Int):=ai (by omega)
 have r1:(bc.length+4)≤aw:=by omega
 have m4:(4≤maxLen)=True:=eq_true (jp 4);refine aa ?_ (by simp only[go_sem,↓reduceIte,Ek,El,Iq,Oj,Nj,r1,m4,e6,z14,z15,z08,z16]<;>rfl)
 exact ah hK (i+1) (by omega) (by omega) (hs:=by simp only[go_sem,↓reduceIte,hst]<;>rfl)
theorem V3(s:S8)(b:List Nat)(hb:b.length=64):Fn Tryz.prog 128 [] [.pv (stP s),.pv (.sl 1 (bytes b))] (fun rs H'=>rs=[.pv (stP (thr s b))]∧H'=[]):=by
 refine Fn.ob Tryz.f128 123 [.cell 4 157] fun C=> ?_
 have hsl:(uc b).length=64:=L7 b;have hstP:stP s= .agg [.int .u32 s.a.toNat,.int .u32 s.b.toNat,.int .u32 s.c.toNat,.int .u32 s.d.toNat,.int .u32 s.e.toNat,.int .u32 s.f.toNat,.int .u32 s.g.toNat,.int .u32 s.h.toNat]:=rfl;have hthr:thr s b=ak5 s (ni B9 (uc b) s):=rfl;rw[hstP,hthr];refine aa ?_;refine ap (Tt b hb) (.pv _ .nil) ?_;refine aa ?_;refine ap ahj .nil ?_;refine vn 2 ?_;refine rm (off:=0) (ps:=(uc b).map wP) rfl rfl rfl ?_ ?_ (hT:=by rw[z03,hsl];exact Ci) (h1:=by simp[wP,PV.one])
 ·rw[z03,hsl];decide
 rw[qu _ _ (by rw[z03,z03,hsl];rfl)]
 refine rm (off:=0) (ps:=B9.map wP) rfl rfl rfl ?_ ?_ (hT:=Ci) (h1:=by simp[wP,PV.one])
 ·rw[z03,Dd];decide
 rw[qu _ _ (by rw[z03,z03,Dd];rfl)]
 have hw:((uc b).map wP).map SV.pv=A2 (uc b):=rfl;have hk:(B9.map wP).map SV.pv=A2 B9:=rfl;rw[hw,hk];generalize uc b=ws at*;have hkl:=Dd;generalize B9=ks at*;refine bq [1,2,4,5,6] [2,4,5,6] ?_;refine aa ?_;refine pc mixed (by decide+kernel) ?_ (by simp only[go_sem,↓reduceIte]<;>rfl)
 refine aa ?_;refine aq (fun t:Nat=>⟨123,[(39,.pv (.int .i64 t)),(2,.ptr 2 0),(4,.ptr 4 0),(5,.ptr 5 0),(6,.ptr 6 0),(7,.pv (wP (ni (ks.take t) (ws.take t) s).a)),(8,.pv (wP (ni (ks.take t) (ws.take t) s).b)),(9,.pv (wP (ni (ks.take t) (ws.take t) s).c)),(10,.pv (wP (ni (ks.take t) (ws.take t) s).d)),(11,.pv (wP (ni (ks.take t) (ws.take t) s).e)),(12,.pv (wP (ni (ks.take t) (ws.take t) s).f)),(13,.pv (wP (ni (ks.take t) (ws.take t) s).g)),(14,.pv (wP (ni (ks.take t) (ws.take t) s).h))],[(2,.cells 157 [.pv (wP s.a),.pv (wP s.b),.pv (wP s.c),.pv (wP s.d),.pv (wP s.e),.pv (wP s.f),.pv (wP s.g),.pv (wP s.h)]),(4,.cells 157 [.pv (wP 0),.pv (wP 0),.pv (wP 0),.pv (wP 0),.pv (wP 0),.pv (wP 0),.pv (wP 0),.pv (wP 0)]),(5,.cells 194 (A2 ws)),(6,.cells 194 (A2 ks))]⟩) (fun t=>t≤64) (fun t=>64-t) [39,2,4,5,6,7,8,9,10,11,12,13,14] [2,4,5,6] 0 (by omega) ?_
 rintro t ht K hK;refine aa ?_;refine AW.cond rfl (fun hc=> ?_) (fun hc=> ?_)
 ·have hlt:t<64:=by have:=of_decide_eq_true hc;omega
  have l1:(t<64)=True:=eq_true hlt;have hkg:(A2 ks)[t]?=some (.pv (.int .u32 ((fg ks t).toNat:Int))):=vo (by omega)
  have hwg:(A2 ws)[t]?=some (.pv (.int .u32 ((fg ws t).toNat:Int))):=vo (by omega)
  have hstep:=Ma ks ws s t (by omega) (by omega)
  generalize fg ks t=kt at*;generalize fg ws t=wt at*;generalize ni (ks.take t) (ws.take t) s=r at*;obtain⟨a,b,c,d,e,f,g,h⟩:=r;simp only;refine aa ?_;refine cr ?_;refine bu [[],[]] ?_ (by simp only[go_sem,↓reduceIte,l1,hkg,hwg,di,kh,jn,dh,wP]<;>rfl)
  refine CK.call (ps:=[_,_]) [43] (tz e 6 6 rfl (by decide) (by decide)) ?_
  refine bu [[]] ?_ (by simp only[go_sem,↓reduceIte,l1,hkg,hwg,di,kh,jn,dh,wP]<;>rfl)
  refine CK.call (ps:=[_,_]) [45] (tz e 11 11 rfl (by decide) (by decide)) ?_
  refine bu [[44,46],[]] ?_ (by simp only[go_sem,↓reduceIte,l1,hkg,hwg,di,kh,jn,dh,wP]<;>rfl)
  refine CK.call (ps:=[_,_]) [48] (tz e 25 25 rfl (by decide) (by decide)) ?_
  refine bu [[47,49],[42,50],[],[],[52,53],[],[55],[],[56,57],[54,58],[51,59],[],[61],[62],[60,63],[],[65],[66],[64,67]] ?_ (by simp only[go_sem,↓reduceIte,l1,hkg,hwg,di,kh,jn,dh,wP]<;>rfl)
  refine CK.done (M:=27) 1 mixed ?_;refine bp (fuel:=0) (listed':=z02 28 true) [27] ?_ (by decide+kernel)
  refine ak ?_;refine a8 (by decide+kernel) ?_
  refine aa ?_;refine ap (tz a 2 2 rfl (by decide) (by decide)) (.pv _ (.pv _ .nil)) ?_
  refine aa ?_;refine ap (tz a 13 13 rfl (by decide) (by decide)) (.pv _ (.pv _ .nil)) ?_
  refine aa ?_ (by simp only[go_sem,↓reduceIte,wP,di]<;>rfl)
  refine ap (tz a 22 22 rfl (by decide) (by decide)) (.pv _ (.pv _ .nil)) ?_
  have e6:IntKind.i64.wrap ((t:Int)+1)=((t+1:Nat):Int):=ai (by omega)
  refine aa ?_ (by simp only[go_sem,↓reduceIte,wP,di,kh,dh,e6]<;>rfl)
  exact ah hK (t+1) (by omega) (by omega) (hs:=by simp only[go_sem,↓reduceIte,hstep,rnd,t1W,t2W]<;>rfl)
 have hge:t=64:=by have:=of_decide_eq_false hc;omega
 subst hge;rw[z00 (by omega),z00 (by omega)]
 generalize ni ks ws s=r at*;obtain⟨a,b,c,d,e,f,g,h⟩:=r;obtain⟨a0,b0,c0,d0,e0,f0,g0,h0⟩:=s;simp only[wP];refine aa ?_;refine aq (fun i:Nat=>⟨123,[(111,.pv (.int .i64 i)),(2,.ptr 2 0),(4,.ptr 4 0),(110,.pv (.agg [wP a,wP b,wP c,wP d,wP e,wP f,wP g,wP h]))],[(2,.cells 157 [.pv (wP (if 0<i then a0+a else a0)),.pv (wP (if 1<i then b0+b else b0)),.pv (wP (if 2<i then c0+c else c0)),.pv (wP (if 3<i then d0+d else d0)),.pv (wP (if 4<i then e0+e else e0)),.pv (wP (if 5<i then f0+f else f0)),.pv (wP (if 6<i then g0+g else g0)),.pv (wP (if 7<i then h0+h else h0))]),(4,.cells 157 [.pv (wP 0),.pv (wP 0),.pv (wP 0),.pv (wP 0),.pv (wP 0),.pv (wP 0),.pv (wP 0),.pv (wP 0)])]⟩) (fun i=>i≤8) (fun i=>8-i) [111,2,4,110] [2,4] 0 (by omega) ?_
 rintro i hi K hK;have hcase:i=8∨i=0∨i=1∨i=2∨i=3∨i=4∨i=5∨i=6∨i=7:=by omega
 rcases hcase with rfl|hcase
 ·refine aa ?_;refine ae rfl ?_;refine aa ?_ (by simp only[go_sem,↓reduceIte,z11]<;>rfl)
  refine ac (.pv _ .nil) rfl
 rcases hcase with rfl|rfl|rfl|rfl|rfl|rfl|rfl|rfl
 all_goals
  refine aa ?_;refine am rfl ?_;refine aa ?_ (by simp only[go_sem,↓reduceIte,z11]<;>rfl)
  refine Gh (ho:=rfl) rfl rfl afy (by decide) Oo rfl ?_
  refine aa ?_ (by simp only[go_sem,↓reduceIte,wP,dh,z11,nc0,nc1,nc2,nc3,nc4,nc5,nc6,nc7,z17,wr1,wr2,wr3,wr4,wr5,wr6,wr7,wr8]<;>rfl)
  first
   |exact ah hK 1 (by decide) (by decide)
   |exact ah hK 2 (by decide) (by decide)
   |exact ah hK 3 (by decide) (by decide)
   |exact ah hK 4 (by decide) (by decide)
   |exact ah hK 5 (by decide) (by decide)
   |exact ah hK 6 (by decide) (by decide)
   |exact ah hK 7 (by decide) (by decide)
   |exact ah hK 8 (by decide) (by decide)
def hO(h:HS):List (Nat×HO):=[(1000,.cells 160 (s7 h))]
theorem Dn(h0:HS)(b0:List Nat)(hp0:h0.part.length=64)(hn0:h0.n+b0.length<2^60):Fn Tryz.prog 112 (hO h0) [.ptr 1000 0,.pv (.sl 1 (bytes b0))] (fun rs H'=>rs=[.pv (.int .i64 b0.length)]∧H'=hO (wr h0 b0)):=by
 refine Fn.ob Tryz.f112 67 [.tmp 4] fun C=> ?_
 unfold hO;have hbg:=adn h0;have hlen0:=qp hp0;refine aa ?_;refine ae rfl ?_;refine aa ?_ (by simp only[go_sem,↓reduceIte,hbg]<;>rfl)
 refine pi (fun _:Unit=>⟨67,[(0,.ptr 1000 0),(1,.pv (.sl 1 (bytes b0)))],[(1000,.cells 160 (s7 (wr0 h0)))]⟩) (fun _=>True) [0,1] [1000] ?_ ?_
 ·intro K hK;obtain⟨bg,s,p,n⟩:=h0;cases bg with
  |true=>
   refine ae rfl ?_;refine aa ?_;exact jh hK () trivial (by simp only[go_sem,↓reduceIte]) (by simp only[go_sem,↓reduceIte,wr0]<;>rfl)
  |false=>
   refine am rfl ?_;refine aa ?_;refine ap ajj .nil ?_;have hsB:=ai7 ⟨false,s,p,n⟩ true;have l0:(0<74)=True:=eq_true (by decide)
   refine vn 5 ?_ (by simp only[go_sem,↓reduceIte,Nat.reduceMul,hlen0,l0,hsB]<;>rfl)
   refine rm (off:=1) (ps:=kj.l.map wP) rfl rfl rfl ?_ ?_ (hT:=On) (h1:=rfl)
   ·rw[qp (h:=⟨true,s,p,n⟩) hp0];decide
   rw[Se];refine aa ?_;exact jh hK () trivial (by simp only[go_sem,↓reduceIte]) (by simp only[go_sem,↓reduceIte,wr0]<;>rfl)
 rintro _-;have hwr:wr h0 b0=wrL (wr0 h0) b0:=rfl;have hpw:(wr0 h0).part.length=64:=by unfold wr0;split<;>exact hp0
 have hnw:(wr0 h0).n=h0.n:=by unfold wr0;split<;>rfl
 rw[hwr];rw[←hnw]at hn0;generalize wr0 h0=h1 at*;refine aa ?_;refine aq (fun a:HS×List Nat=>⟨67,[(0,.ptr 1000 0),(1,.pv (.sl 1 (bytes a.2))),(5,.pv (.int .i64 b0.length))],[(1000,.cells 160 (s7 a.1))]⟩) (fun a=>a.1.part.length=64∧wrL a.1 a.2=wrL h1 b0∧a.1.n+a.2.length=h1.n+b0.length) (fun a=>a.2.length) [0,1,5] [1000] (h1,b0) ⟨hpw,rfl,rfl⟩ ?_
 rintro⟨h,b⟩ ⟨hp,hw,hs⟩ K hK;simp only at hp hw hs;refine aa ?_;refine AW.cond rfl (fun hc=> ?_) (fun hc=> ?_)
 rotate_left
 ·have hb:b=[]:=by
   have:=of_decide_eq_false hc;exact z09.1 (by omega)
  subst hb;rw[Gw]at hw;subst hw;refine aa ?_;refine ac (.pv _ .nil) rfl
 ·have hb0:0<b.length:=by have:=of_decide_eq_true hc;omega
  have hbne:b≠ []:=List.length_pos_iff.1 hb0;have hws:=Cu (h:=h) hbne;have hwl:=Oi hp b;have hwn:(wrN h b).n=h.n+min b.length (64-h.n % 64):=rfl;have hwN:wrN h b=⟨h.begun,if(h.n+min b.length (64-h.n % 64)) % 64=0 then thr h.s (h.part.take (h.n % 64)++b.take (min b.length (64-h.n % 64))++h.part.drop (h.n % 64+min b.length (64-h.n % 64)))else h.s,h.part.take (h.n % 64)++b.take (min b.length (64-h.n % 64))++h.part.drop (h.n % 64+min b.length (64-h.n % 64)),h.n+min b.length (64-h.n % 64)⟩:=rfl
  have hpl:(h.part.take (h.n % 64)++b.take (min b.length (64-h.n % 64))++h.part.drop (h.n % 64+min b.length (64-h.n % 64))).length=64:=hwl;generalize hk:min b.length (64-h.n % 64)=kk at*;obtain⟨r,hr⟩:∃r,r=h.n % 64:=⟨_,rfl⟩
  rw[←hr]at hk hwN hpl;have hr64:r<64:=by omega
  have hn:=Yu hp;have hlen:=qp hp;have erem:((h.n:Int)).tmod 64=(r:Int):=by rw[hr];rfl
  have hbl:(b.take kk).length=kk:=by rw[List.length_take];omega
  refine aa ?_;refine cr ?_;refine bu [[],[26],[27],[],[29],[30],[31],[32]] ?_ (by simp only[go_sem,↓reduceIte,hn,erem,hlen]<;>rfl)
  refine CK.sliceO [28,33] r 64 N6 (by omega) (by omega) (by omega) ?_
  refine bu [[]] ?_ (by simp only[go_sem,↓reduceIte,hn,erem,hlen]<;>rfl)
  refine CK.done (M:=10) 2 mixed ?_;refine bp (fuel:=0) (listed':=z02 12 true) [10,11] ?_ (by decide+kernel)
  refine akj (ez:=0) (off:=9+r) (n:=64-r) (kk:=kk) (xs:=bytes b) rfl rfl ?_ rfl rfl (t8 b) ?_ ?_ (hT:=s9)
  ·rw[hlen];omega
  ·rw[ba];exact hk.symm
  rw[dz,ai5 hp r (b.take kk) (by omega),hbl]
  generalize hp1:h.part.take r++b.take kk++h.part.drop (r+kk)=p at*;refine ak ?_;refine a8 (by decide+kernel) ?_
  obtain⟨bg,s,p0,n⟩:=h;simp only at hp hw hs hwl hws hwn hr hwN;have hn2:=Yu (h:=⟨bg,s,p,n⟩) hpl;have hlen2:=qp (h:=⟨bg,s,p,n⟩) hpl;have hset2:=ai6 (h:=⟨bg,s,p,n⟩) hpl (n+kk);have e1:((b.length:Int)-(kk:Int)).toNat=b.length-kk:=by omega
  have e2:(b.drop kk).take (b.length-kk)=b.drop kk:=z00 (by rw[z06];omega)
  have e3:((kk:Int)≤(b.length:Int))=True:=eq_true (by omega)
  have e3':(kk≤b.length)=True:=eq_true (by omega)
  have e4:IntKind.i64.wrap ((n:Int)+(kk:Int))=((n+kk:Nat):Int):=by rw[an (by omega) (by omega)];omega
  have l73:(73<74)=True:=eq_true (by decide)
  have hn3:=Yu (h:=⟨bg,s,p,n+kk⟩) hpl;have hlen3:=qp (h:=⟨bg,s,p,n+kk⟩) hpl;have hs3:=ara ⟨bg,s,p,n+kk⟩;have hp3:=ai8 (h:=⟨bg,s,p,n+kk⟩) hpl;have erem2:(((n+kk:Nat):Int)).tmod 64=(((n+kk) % 64:Nat):Int):=rfl;have l74:1+8≤74:=by decide
  have l18:(1+8≤74)=True:=eq_true (by decide)
  have hfin:b.length-kk<b.length:=by omega
  have hnum:n+kk+(b.length-kk)=h1.n+b0.length:=by omega
  refine aa ?_ (by simp only[go_sem,↓reduceIte,hn2,hlen2,hset2,e1,e2,e3,e3',e4,l73,hn3,erem2]<;>rfl)
  refine AW.cond rfl (fun hc2=> ?_) (fun hc2=> ?_)
  rotate_left
  ·have hne:¬(n+kk) % 64=0:=by
    intro h;rw[h]at hc2;exact absurd hc2 (by decide)
   rw[if_neg hne]at hwN;refine aa ?_;refine ah hK (wrN ⟨bg,s,p0,n⟩ b,b.drop kk) (by exact⟨hwl,by rw[←hws];exact hw,by simp only[z06,hwn];omega⟩) (by simp;omega) (hs:=by simp only[go_sem,↓reduceIte,hwN]<;>rfl)
  ·have he:(n+kk) % 64=0:=by
    have:=eq_of_beq hc2;omega
   rw[if_pos he]at hwN;refine bq [0,1,5] [1000] ?_;refine aa ?_;refine cr ?_;refine bu [[],[],[55],[56],[57],[],[59],[60]] ?_ (by simp only[go_sem,↓reduceIte,hlen3,hs3,l18]<;>rfl)
   refine CK.sliceO [61] 0 64 N6 (by omega) (by omega) (by omega) ?_
   refine CK.callP (args:=[.pv (stP s),.pv (.sl 1 (bytes p))]) [58,62] (V3 s p hpl) (fun t hle=> .pv _ (.lendO (hle.lk rfl) hp3 (by rw[ba,hpl]) (t8 p) (jp 64) .nil)) ?_
   refine CK.done (M:=10) 3 mixed ?_;refine bp (fuel:=0) (listed':=z02 13 true) [10,11,12] ?_ (by decide+kernel)
   refine vn 2 ?_;refine rm (off:=1) (ps:=(thr s p).l.map wP) rfl rfl rfl ?_ ?_ (hT:=On) (h1:=rfl)
   ·rw[qp (h:=⟨bg,s,p,n+kk⟩) hpl];exact l74
   rw[Se];refine aa ?_;refine a8 (by decide+kernel) ?_
   refine aa ?_;exact ah hK (wrN ⟨bg,s,p0,n⟩ b,b.drop kk) (by exact⟨hwl,by rw[←hws];exact hw,by simp only[z06,hwn];omega⟩) (by simp;omega) (hs:=by simp only[go_sem,↓reduceIte,hwN]<;>rfl)
attribute [go_sem] hO
theorem Z2(h:HS)(m:List Nat)(hc:HC m h)(hm:m.length<2^59):Fn Tryz.prog 113 (hO h) [.ptr 1000 0] (fun rs H'=>rs=[.own 5 (bytes (Gi m))]∧H'=hO h):=by
 refine Fn.ob Tryz.f113 43 [.tmp 2] fun C=> ?_
 have hroom:aw=140737488355328:=rfl;have hsha:Gi m=by8 (wr h (endP m.length)).s:=by
  have:=(hc.wr (b:=endP m.length));rw[this.1.s this.2];rfl
 rw[hsha];obtain⟨hp,hn,_,_,_⟩:=hc;rw[←hn]at hm⊢;unfold hO;have hlen:=qp hp;have hgn:=Yu hp;refine aa ?_;refine ae rfl ?_;refine Io 9 ?_;refine Ti (off:=0) (ps:=hsP h) rfl rfl ?_ ?_ (hT:=by rw[zm hp];exact Ol) (hle:=by rw[zm hp,hlen];decide)
 ·rw[zm hp,Rd _ _ hlen];rfl
 refine vn 1 ?_;refine rm (off:=0) (ps:=hsP h) rfl rfl rfl ?_ ?_ (hT:=by rw[zm hp];exact Ol) (h1:=apz h)
 ·rw[zm hp];decide
 rw[qu _ _ (by rw[z03,zm hp];rfl),←afn]
 refine bq [3] [3,1000] ?_;have l73:(73<74)=True:=eq_true (by decide)
 refine aa ?_ (by simp only[go_sem,↓reduceIte,hgn,hlen,l73]<;>rfl)
 refine aq (fun j:Nat=>⟨43,[(4,.pv (.int .i64 h.n)),(3,.ptr 3 0),(5,.own 5 (bytes (128::z01 j 0)))],[(3,.cells 160 (s7 h)),(1000,.cells 160 (s7 h))]⟩) (fun j=>j≤He h.n) (fun j=>He h.n-j) [4,3,5] [3,1000] 0 (z04 _) ?_
 rintro j hj K hK;have hzp:He h.n=(119-h.n % 64) % 64:=rfl;have hql:(128::z01 j 0).length=j+1:=by simp
 have hqn:(128::z01 j 0)++[0]=128::z01 (j+1) 0:=by rw[z12];rfl
 generalize hqq:128::z01 j 0=q at*;have e1:IntKind.i64.wrap ((h.n:Int)+((j+1:Nat):Int))=((h.n+(j+1):Nat):Int):=by rw[an (by omega) (by omega)];omega
 have e2:((h.n+(j+1):Nat):Int).tmod 64=(((h.n+(j+1)) % 64:Nat):Int):=rfl;refine aa ?_ (by simp only[go_sem,↓reduceIte,hql,e1,e2]<;>rfl)
 refine AW.cond rfl (fun hc=> ?_) (fun hc=> ?_)
 ·have hne:(h.n+(j+1)) % 64≠56:=by
   intro h;rw[h]at hc;exact absurd hc (by decide)
  have r1:q.length+1≤aw:=by omega
  have r2:j+1+1≤aw:=by omega
  refine aa ?_ (by simp only[go_sem,↓reduceIte,Gb,hql,r1,r2]<;>rfl)
  exact ah hK (j+1) (by omega) (by omega) (hs:=by simp only[go_sem,↓reduceIte,hqn]<;>rfl)
 have hjz:j=He h.n:=by
  have:(h.n+(j+1)) % 64=56:=by
   have h2:((((h.n+(j+1)) % 64:Nat):Int)==56)=true:=by simpa[bne]using hc
   have:=eq_of_beq h2;omega
  omega
 subst hjz;refine aa ?_;have ew:IntKind.u64.wrap (h.n:Int)=(h.n:Int):=ay (by omega)
 have em:IntKind.u64.wrap ((h.n:Int)*8)=((h.n*8:Nat):Int):=by rw[show(h.n:Int)*8=((h.n*8:Nat):Int)by omega];exact ay (by omega)
 refine aq (fun i:Nat=>⟨43,[(4,.pv (.int .i64 h.n)),(3,.ptr 3 0),(6,.pv (.int .i64 (56-8*(i:Int)))),(5,.own 5 (bytes (ig q (h.n*8) i)))],[(3,.cells 160 (s7 h)),(1000,.cells 160 (s7 h))]⟩) (fun i=>i≤8) (fun i=>8-i) [4,3,6,5] [3,1000] 0 (z04 _) ?_ (hs:=by simp only[go_sem,↓reduceIte,ard]<;>rfl)
 rintro i hi K2 hK2;have hel:=Sp q (h.n*8) i hi;have r3:(ig q (h.n*8) i).length+1≤aw:=by omega
 have hcase:i=8∨i=0∨i=1∨i=2∨i=3∨i=4∨i=5∨i=6∨i=7:=by omega
 rcases hcase with rfl|hcase
 ·refine aa ?_;refine ae rfl ?_;have hqe:q++Yo (h.n*8)=endP h.n:=by rw[←hqq];rfl
  rw[arc,hqe];refine aa ?_;have hel2:h.n+(endP h.n).length<2^60:=by rw[Sj];omega
  refine av (args:=[.ptr 1000 0,.pv (.sl 1 (bytes (endP h.n)))]) (fun _=>3) (Dn h (endP h.n) hp hel2) (.ptr rfl (.lend rfl c7 .nil)) ?_
  have hlw:(s7 (wr h (endP h.n))).length=74:=qp (avc hp _);have hsw:=ara (wr h (endP h.n));have l18:(1+8≤74)=True:=eq_true (by decide)
  refine aa ?_ (by simp only[go_sem,↓reduceIte,hlw,hsw,l18]<;>rfl)
  refine ap (aeb (wr h (endP h.n)).s) (.pv _ .nil) ?_;refine aa ?_;refine ac (.move rfl .nil) rfl
 generalize h.n*8=v at*;rcases hcase with rfl|rfl|rfl|rfl|rfl|rfl|rfl|rfl
 all_goals
  refine aa ?_ (by simp only[go_sem,↓reduceIte,nc0,nc1,nc2,nc3,nc4,nc5,nc6,nc7,z10,z05]<;>rfl)
  refine am rfl ?_;refine aa ?_ (by simp only[go_sem,↓reduceIte,ew,em,arg,arh,ari,arj,ark,arl,aC6,aC7,wy,agp,ago,agn,agm,agl,agk,agj,agi,r3,z05,aCv,aCw,aCx,aCy,aCz,ws8,ws0,aJe]<;>rfl)
  first
   |exact ah hK2 1 (by decide) (by decide)
   |exact ah hK2 2 (by decide) (by decide)
   |exact ah hK2 3 (by decide) (by decide)
   |exact ah hK2 4 (by decide) (by decide)
   |exact ah hK2 5 (by decide) (by decide)
   |exact ah hK2 6 (by decide) (by decide)
   |exact ah hK2 7 (by decide) (by decide)
   |exact ah hK2 8 (by decide) (by decide)
theorem abx(m:List Nat)(hm:m.length<2^59):Fn Tryz.prog 86 [] [.pv (.sl 1 (bytes m))] (fun rs H'=>rs=[.own 5 (bytes (Gi m))]∧H'=[]):=by
 refine Fn.ob Tryz.f86 11 [.tmp 2] fun C=> ?_
 refine aa ?_;have h:=(HC.zero).wr (b:=m);refine AW.keepB [6,7,3] [5] (by simp only[go_sem,↓reduceIte]) (s':=⟨11,[(6,.ptr 5 0),(7,.pv (.sl 1 (bytes m))),(3,.ptr 5 0)],[(5,.cells 160 (s7 h00))]⟩) (by simp only[go_sem,↓reduceIte]<;>rfl) ?_
 refine av (fun _=>5) (Dn h00 m rfl (by show 0+m.length<2^60;omega)) (.ptr rfl (.pv _ .nil)) ?_
 refine aa ?_;refine av (fun _=>5) (Z2 (wr h00 m) m h.1 hm) (.ptr rfl .nil) ?_
 refine aa ?_;refine ac (.move rfl .nil) rfl
theorem ma(x:df)(n:Int)(m:Nat)(hn:n=m)(h0:0<m)(h1:m<32):Fn Tryz.prog 133 [] [.pv (wP x),.pv (.int .u64 n)] (fun rs H'=>rs=[.pv (wP (n5 x m))]∧H'=[]):=by
 subst hn;refine Fn.ob Tryz.f133 13 [.tmp 4] fun C=> ?_
 have e2:IntKind.u64.wrap (32-(m:Int))=((32-m:Nat):Int):=by rw[IntKind.wrap_u64];omega
 have s1:=vq x m (by omega)
 have s2:=Cg x (32-m) (by omega)
 have s3:=ahu x m;unfold wP;refine aa ?_ (by simp only[go_sem,↓reduceIte,e2,s1,s2,H0,s3]<;>rfl)
 refine ac (.pv _ .nil) rfl
theorem Xt:Fn Tryz.prog 117 [] [] (fun rs H'=>rs=[.pv (.sl 1 (xu B9)),.own 143 (xu kj.l)]∧H'=[]):=by
 refine Fn.ob Tryz.f117 8 [.tmp 0,.tmp 1] fun C=> ?_
 have m64:(64≤maxLen)=True:=eq_true (jp 64);have m8:(8≤maxLen)=True:=eq_true (jp 8);refine Io 20 ?_ (by simp only[go_sem,↓reduceIte,m64,m8]<;>rfl)
 refine bj (.slot 2) ?_;refine aa ?_ (by simp only[go_sem,↓reduceIte,m64,m8]<;>rfl)
 refine ac (.pv _ (.move rfl .nil)) ?_
 kernel_rfl
theorem acn(m:List Nat)(hm:m.length<2^30):Fn Tryz.prog 118 [] [.pv (.sl 1 (bytes m))] (fun rs H'=>rs=[.own 5 (bytes (m++endP m.length))]∧H'=[]):=by
 refine Fn.ob Tryz.f118 36 [.tmp 2] fun C=> ?_
 have hroom:aw=140737488355328:=rfl;have a1:m.length≤aw:=by omega
 have a2:m.length+1≤aw:=by omega
 have hb0:bytes m++[.int .u8 128]=bytes (m++(128::z01 0 0)):=by rw[←bx];rfl
 refine aa ?_ (by simp only[go_sem,↓reduceIte,a1,a2,wq,z18,z19,hb0,z07]<;>rfl)
 refine aq (fun j:Nat=>⟨36,[(0,.pv (.sl 1 (bytes m))),(3,.own 5 (bytes (m++(128::z01 j 0))))],[]⟩) (fun j=>j≤He m.length) (fun j=>He m.length-j) [0,3] [] 0 (z04 _) ?_
 rintro j hj K hK;have hzp:He m.length=(119-m.length % 64) % 64:=rfl;have hql:(m++(128::z01 j 0)).length=m.length+(j+1):=by simp
 have hqn:(m++(128::z01 j 0))++[0]=m++(128::z01 (j+1) 0):=by rw[z12];simp
 generalize hqq:m++(128::z01 j 0)=q at*;have e2:((m.length+(j+1):Nat):Int).tmod 64=(((m.length+(j+1)) % 64:Nat):Int):=rfl;refine aa ?_ (by simp only[go_sem,↓reduceIte,hql,e2]<;>rfl)
 refine AW.cond rfl (fun hc=> ?_) (fun hc=> ?_)
 ·have hne:(m.length+(j+1)) % 64≠56:=by
   intro h;rw[h]at hc;exact absurd hc (by decide)
  have r1:q.length+1≤aw:=by omega
  refine aa ?_ (by simp only[go_sem,↓reduceIte,Gb,r1]<;>rfl)
  exact ah hK (j+1) (by omega) (by omega) (hs:=by simp only[go_sem,↓reduceIte,hqn]<;>rfl)
 have hjz:j=He m.length:=by
  have:(m.length+(j+1)) % 64=56:=by
   have h2:((((m.length+(j+1)) % 64:Nat):Int)==56)=true:=by simpa[bne]using hc
   have:=eq_of_beq h2;omega
  omega
 subst hjz;have ew:IntKind.u64.wrap (m.length:Int)=(m.length:Int):=ay (by omega)
 have em:IntKind.u64.wrap ((m.length:Int)*8)=((m.length*8:Nat):Int):=by rw[show(m.length:Int)*8=((m.length*8:Nat):Int)by omega];exact ay (by omega)
 refine aa ?_ (by simp only[go_sem,↓reduceIte,ew,em]<;>rfl)
 have hv:m.length*8<2^33:=by omega
 have hend:q++Yo (m.length*8)=m++endP m.length:=by rw[←hqq];simp[endP]
 generalize m.length*8=v at*;refine aq (fun i:Nat=>⟨36,[(4,.pv (.int .u64 v)),(5,.pv (.int .i64 (7-(i:Int)))),(3,.own 5 (bytes (ig q v i)))],[]⟩) (fun i=>i≤8) (fun i=>8-i) [4,5,3] [] 0 (z04 _) ?_ (hs:=by simp only[go_sem,↓reduceIte,ard]<;>rfl)
 rintro i hi K2 hK2;have hel:=Sp q v i hi;have r3:(ig q v i).length+1≤aw:=by omega
 have hcase:i=8∨i=0∨i=1∨i=2∨i=3∨i=4∨i=5∨i=6∨i=7:=by omega
 rcases hcase with rfl|hcase
 ·refine aa ?_;refine ae rfl ?_;rw[arc,hend];refine aa ?_;refine ac (.move rfl .nil) rfl
 rcases hcase with rfl|rfl|rfl|rfl|rfl|rfl|rfl|rfl
 all_goals
  refine aa ?_ (by simp only[go_sem,↓reduceIte,nc0,nc1,nc2,nc3,nc4,nc5,nc6,nc7,z10,z05]<;>rfl)
  refine am rfl ?_;refine aa ?_ (by simp only[go_sem,↓reduceIte,arg,arh,ari,arj,ark,arl,aC6,aC7,wy,agp,ago,agn,agm,agl,agk,agj,agi,r3,z05,z10,z17,aCv,aCw,aCx,aCy,aCz,ws8,ws0,aJg,wr1,wr2,wr3,wr4,wr5,wr6,wr7,aJf,wu0,wu8,aJd,aJc,aJb,aJa,aI9,aI8]<;>rfl)
  first
   |exact ah hK2 1 (by decide) (by decide)
   |exact ah hK2 2 (by decide) (by decide)
   |exact ah hK2 3 (by decide) (by decide)
   |exact ah hK2 4 (by decide) (by decide)
   |exact ah hK2 5 (by decide) (by decide)
   |exact ah hK2 6 (by decide) (by decide)
   |exact ah hK2 7 (by decide) (by decide)
   |exact ah hK2 8 (by decide) (by decide)
theorem ag3(b:List Nat)(hb:b.length=64):Fn Tryz.prog 132 [] [.pv (.sl 1 (bytes b))] (fun rs H'=>rs=[.own 143 (xu (uc b))]∧H'=[]):=by
 refine Fn.ob Tryz.f132 99 [.tmp 2] fun C=> ?_
 have hroom:aw=140737488355328:=rfl;refine aa ?_;refine aq (fun i:Nat=>⟨99,[(0,.pv (.sl 1 (bytes b))),(4,.pv (.int .i64 i)),(3,.own 143 (xu (jd b i)))],[]⟩) (fun i=>i≤16) (fun i=>16-i) [0,4,3] [] 0 (z04 _) ?_
 rintro i hi K hK;have hsl:(jd b i).length=i:=qn b i;refine aa ?_;refine AW.cond rfl (fun hc=> ?_) (fun hc=> ?_)
 ·have h16:i<16:=by have:=of_decide_eq_true hc;omega
  obtain⟨p,hp⟩:∃p,p=4*i:=⟨_,rfl⟩
  obtain⟨x,y,z,w,qx,qy,qz,qw,hq⟩:=aHg b p (by omega)
  have hx:=mw qx;have hy:=mw qy;have hz:=mw qz;have hw:=mw qw;have e1:IntKind.i64.wrap (4*(i:Int))=(p:Int):=by rw[an (by omega) (by omega)];omega
  have e2:IntKind.i64.wrap ((p:Int)+1)=((p+1:Nat):Int):=by rw[an (by omega) (by omega)];omega
  have e3:IntKind.i64.wrap ((p:Int)+2)=((p+2:Nat):Int):=by rw[an (by omega) (by omega)];omega
  have e4:IntKind.i64.wrap ((p:Int)+3)=((p+3:Nat):Int):=by rw[an (by omega) (by omega)];omega
  have r1:((jd b i).length+1)*4≤aw:=by omega
  have r2:(jd b i).length+1≤aw:=by omega
  have hd4:jd b i++[((BitVec.ofNat 32 x<<<24)|||(BitVec.ofNat 32 y<<<16))|||(BitVec.ofNat 32 z<<<8)|||BitVec.ofNat 32 w]=jd b (i+1):=by
   rw[anl,←hq,hp];simp only[jd,h16,if_true]
  refine aa ?_;refine cr ?_;refine bu [[],[],[],[16],[15,17],[18],[19],[20],[],[],[23],[24],[22,25],[26],[27],[28],[21,29],[],[],[32],[33],[31,34],[35],[36],[37],[30,38],[],[],[41],[42],[40,43],[44],[45],[39,46]] ?_ (by simp only[go_sem,↓reduceIte,e1,e2,e3,e4,hx,hy,hz,hw,hb,Ej,Lu,Lv,Ir,H0]<;>rfl)
  refine CK.list [47] ?_;refine CK.done (M:=35) 2 mixed ?_;refine bp (fuel:=0) (listed':=z02 37 true) [35,36] ?_ (by decide+kernel)
  refine ak ?_ (by simp only[go_sem,↓reduceIte,Ip,r1,r2,hd4]<;>rfl)
  refine a8 (by decide+kernel) ?_
  have e6:IntKind.i64.wrap ((i:Int)+1)=((i+1:Nat):Int):=ai (by omega)
  refine aa ?_ (by simp only[go_sem,↓reduceIte,e6]<;>rfl)
  exact ah hK (i+1) (by omega) (by omega)
 have h16:i=16:=by have:=of_decide_eq_false hc;omega
 subst h16;refine aa ?_;refine aq (fun i:Nat=>⟨99,[(5,.pv (.int .i64 i)),(3,.own 143 (xu (jd b i)))],[]⟩) (fun i=>16≤i∧i≤64) (fun i=>64-i) [5,3] [] 16 (by omega) ?_
 rintro i ⟨h16,h64⟩ K2 hK2;have hsl:(jd b i).length=i:=qn b i;refine aa ?_;refine AW.cond rfl (fun hc=> ?_) (fun hc=> ?_)
 rotate_left
 ·have hge:i=64:=by have:=of_decide_eq_false hc;omega
  subst hge;refine aa ?_;refine ac (.move rfl .nil) rfl
 have hlt:i<64:=by have:=of_decide_eq_true hc;omega
 obtain⟨i15,h15⟩:∃k,k=i-15:=⟨_,rfl⟩
 obtain⟨i2,h2⟩:∃k,k=i-2:=⟨_,rfl⟩
 obtain⟨i16,h16'⟩:∃k,k=i-16:=⟨_,rfl⟩
 obtain⟨i7,h7⟩:∃k,k=i-7:=⟨_,rfl⟩
 have a15:IntKind.i64.wrap ((i:Int)-15)=(i15:Int):=by rw[an (by omega) (by omega)];omega
 have a2:IntKind.i64.wrap ((i:Int)-2)=(i2:Int):=by rw[an (by omega) (by omega)];omega
 have a16:IntKind.i64.wrap ((i:Int)-16)=(i16:Int):=by rw[an (by omega) (by omega)];omega
 have a7:IntKind.i64.wrap ((i:Int)-7)=(i7:Int):=by rw[an (by omega) (by omega)];omega
 have g15:(xu (jd b i))[i15]?=some (.int .u32 ((fg (jd b i) i15).toNat:Int)):=qm (by omega)
 have g2:(xu (jd b i))[i2]?=some (.int .u32 ((fg (jd b i) i2).toNat:Int)):=qm (by omega)
 have g16:(xu (jd b i))[i16]?=some (.int .u32 ((fg (jd b i) i16).toNat:Int)):=qm (by omega)
 have g7:(xu (jd b i))[i7]?=some (.int .u32 ((fg (jd b i) i7).toNat:Int)):=qm (by omega)
 have hnext:jd b i++[(n5 (fg (jd b i) i2) 17^^^n5 (fg (jd b i) i2) 19^^^fg (jd b i) i2>>>10)+fg (jd b i) i7+(n5 (fg (jd b i) i15) 7^^^n5 (fg (jd b i) i15) 18^^^fg (jd b i) i15>>>3)+fg (jd b i) i16]=jd b (i+1):=by
  have h0:¬i<16:=by omega
  rw[ac7];simp only[jd,h0,if_false,Lm,sg0,sg1,hsl,h15,h2,h16',h7]
 have r1:((jd b i).length+1)*4≤aw:=by omega
 have r2:(jd b i).length+1≤aw:=by omega
 generalize fg (jd b i) i15=y at*;generalize fg (jd b i) i2=x at*;generalize fg (jd b i) i16=u at*;generalize fg (jd b i) i7=v at*;have l15:(i15<i)=True:=eq_true (by omega)
 have l2:(i2<i)=True:=eq_true (by omega)
 have l16:(i16<i)=True:=eq_true (by omega)
 have l7:(i7<i)=True:=eq_true (by omega)
 refine aa ?_ (by simp only[go_sem,↓reduceIte,a15,a2,g15,g2,hsl,l15,l2]<;>rfl)
 refine ap (ma x 17 17 rfl (by decide) (by decide)) (.pv _ (.pv _ .nil)) ?_
 refine aa ?_;refine ap (ma x 19 19 rfl (by decide) (by decide)) (.pv _ (.pv _ .nil)) ?_
 refine aa ?_ (by simp only[go_sem,↓reduceIte,wP,di,rd]<;>rfl)
 refine ap (ma y 7 7 rfl (by decide) (by decide)) (.pv _ (.pv _ .nil)) ?_
 refine aa ?_;refine ap (ma y 18 18 rfl (by decide) (by decide)) (.pv _ (.pv _ .nil)) ?_
 refine aa ?_ (by simp only[go_sem,↓reduceIte,wP,di,uh]<;>rfl)
 refine cr ?_;refine bu [[],[],[],[],[83],[82,84],[85],[81,86],[],[87,88],[],[],[91],[90,92],[93],[89,94]] ?_ (by simp only[go_sem,↓reduceIte,a16,a7,g16,g7,dh,hsl,l16,l7]<;>rfl)
 refine CK.list [95] ?_;refine CK.done (M:=17) 2 mixed ?_;refine bp (fuel:=0) (listed':=z02 19 true) [17,18] ?_ (by decide+kernel)
 refine ak ?_ (by simp only[go_sem,↓reduceIte,Ip,r1,r2,hnext]<;>rfl)
 refine a8 (by decide+kernel) ?_
 have e6:IntKind.i64.wrap ((i:Int)+1)=((i+1:Nat):Int):=ai (by omega)
 refine aa ?_ (by simp only[go_sem,↓reduceIte,e6]<;>rfl)
 exact ah hK2 (i+1) (by omega) (by omega)
theorem Px(s:S8)(b:List Nat)(hb:b.length=64):Fn Tryz.prog 119 [] [.pv (.sl 1 (xu s.l)),.pv (.sl 1 (bytes b)),.pv (.sl 1 (xu B9))] (fun rs H'=>rs=[.own 143 (xu (thr s b).l)]∧H'=[]):=by
 refine Fn.ob Tryz.f119 138 [.tmp 6] fun C=> ?_
 have hroom:aw=140737488355328:=rfl;have hsl:(uc b).length=64:=L7 b;have hthr:thr s b=ak5 s (ni B9 (uc b) s):=rfl;have h8:s.l.length=8:=rfl;have q1:((8:Nat)*4≤aw)=True:=eq_true (by omega)
 have q2:((8:Nat)≤aw)=True:=eq_true (by omega)
 have hkl:=Dd;rw[hthr,←aIi];refine aa ?_;refine ap (ag3 b hb) (.pv _ .nil) ?_;generalize uc b=ws at*;generalize B9=ks at*;refine aa ?_ (by simp only[go_sem,↓reduceIte,h8,q1,q2,wq,z18,z19,z08,z07]<;>rfl)
 refine aq (fun t:Nat=>⟨138,[(9,.pv (.int .i64 t)),(0,.pv (.sl 1 (xu s.l))),(2,.pv (.sl 1 (xu ks))),(7,.own 143 (xu ws)),(8,.own 143 [wP (ni (ks.take t) (ws.take t) s).a,wP (ni (ks.take t) (ws.take t) s).b,wP (ni (ks.take t) (ws.take t) s).c,wP (ni (ks.take t) (ws.take t) s).d,wP (ni (ks.take t) (ws.take t) s).e,wP (ni (ks.take t) (ws.take t) s).f,wP (ni (ks.take t) (ws.take t) s).g,wP (ni (ks.take t) (ws.take t) s).h])],[]⟩) (fun t=>t≤64) (fun t=>64-t) [9,0,2,7,8] [] 0 (by omega) ?_
 rintro t ht K hK;refine aa ?_;refine AW.cond rfl (fun hc=> ?_) (fun hc=> ?_)
 ·have hlt:t<64:=by have:=of_decide_eq_true hc;omega
  have l1:(t<64)=True:=eq_true hlt;have hkg:(xu ks)[t]?=some (.int .u32 ((fg ks t).toNat:Int)):=qm (by omega)
  have hwg:(xu ws)[t]?=some (.int .u32 ((fg ws t).toNat:Int)):=qm (by omega)
  have hstep:=Ma ks ws s t (by omega) (by omega)
  generalize fg ks t=kt at*;generalize fg ws t=wt at*;generalize ni (ks.take t) (ws.take t) s=r at*;obtain⟨a,b,c,d,e,f,g,h⟩:=r;simp only;refine aa ?_;refine cr ?_;refine bu [[],[31],[32],[]] ?_ (by simp only[go_sem,↓reduceIte,hkg,hwg,l1,hkl,hsl,di,kh,jn,dh,wP]<;>rfl)
  refine CK.call (ps:=[_,_]) [34] (ma e 6 6 rfl (by decide) (by decide)) ?_
  refine bu [[]] ?_ (by simp only[go_sem,↓reduceIte,hkg,hwg,l1,hkl,hsl,di,kh,jn,dh,wP]<;>rfl)
  refine CK.call (ps:=[_,_]) [36] (ma e 11 11 rfl (by decide) (by decide)) ?_
  refine bu [[35,37],[]] ?_ (by simp only[go_sem,↓reduceIte,hkg,hwg,l1,hkl,hsl,di,kh,jn,dh,wP]<;>rfl)
  refine CK.call (ps:=[_,_]) [39] (ma e 25 25 rfl (by decide) (by decide)) ?_
  refine bu [[38,40],[33,41],[],[],[44],[45],[43,46],[],[48],[],[50],[51],[49,52],[47,53],[42,54],[],[],[56,57],[58],[55,59],[],[],[61,62],[63],[60,64]] ?_ (by simp only[go_sem,↓reduceIte,hkg,hwg,l1,hkl,hsl,di,kh,jn,dh,wP]<;>rfl)
  refine CK.done (M:=35) 1 mixed ?_;refine bp (fuel:=0) (listed':=z02 36 true) [35] ?_ (by decide+kernel)
  refine ak ?_;refine a8 (by decide+kernel) ?_
  refine aa ?_;refine cr ?_;refine bu [[]] ?_ (by simp only[go_sem,↓reduceIte,di,kh,jn,dh,wP]<;>rfl)
  refine CK.call (ps:=[_,_]) [66] (ma a 2 2 rfl (by decide) (by decide)) ?_
  refine bu [[]] ?_ (by simp only[go_sem,↓reduceIte,di,kh,jn,dh,wP]<;>rfl)
  refine CK.call (ps:=[_,_]) [68] (ma a 13 13 rfl (by decide) (by decide)) ?_
  refine bu [[67,69],[]] ?_ (by simp only[go_sem,↓reduceIte,di,kh,jn,dh,wP]<;>rfl)
  refine CK.call (ps:=[_,_]) [71] (ma a 22 22 rfl (by decide) (by decide)) ?_
  refine bu [[70,72],[],[],[75],[76],[74,77],[],[],[80],[81],[79,82],[78,83],[],[85],[86],[],[88],[89],[87,90],[84,91],[73,92]] ?_ (by simp only[go_sem,↓reduceIte,di,kh,jn,dh,wP]<;>rfl)
  refine CK.done (M:=28) 1 mixed ?_;refine bp (fuel:=0) (listed':=z02 29 true) [28] ?_ (by decide+kernel)
  refine ak ?_;refine a8 (by decide+kernel) ?_
  refine aa ?_;refine cr ?_;refine bu [[],[],[94,95],[],[97],[98],[],[100],[101],[],[103],[104],[],[106],[107],[],[108,109],[],[111],[112],[],[114],[115],[],[117],[118]] ?_ (by simp only[go_sem,↓reduceIte,di,kh,jn,dh,wP]<;>rfl)
  refine CK.list [96,99,102,105,110,113,116,119] ?_;refine CK.done (M:=27) 1 mixed ?_;refine bp (fuel:=0) (listed':=z02 28 true) [27] ?_ (by decide+kernel)
  refine ak ?_;refine a8 (by decide+kernel) ?_
  have e6:IntKind.i64.wrap ((t:Int)+1)=((t+1:Nat):Int):=ai (by omega)
  refine aa ?_ (by simp only[go_sem,↓reduceIte,e6]<;>rfl)
  exact ah hK (t+1) (by omega) (by omega) (hs:=by simp only[go_sem,↓reduceIte,hstep,rnd,t1W,t2W]<;>rfl)
 have hge:t=64:=by have:=of_decide_eq_false hc;omega
 subst hge;rw[z00 (by omega),z00 (by omega)]
 generalize ni ks ws s=r at*;refine aa ?_;refine aq (fun i:Nat=>⟨138,[(15,.pv (.int .i64 i)),(0,.pv (.sl 1 (xu s.l))),(8,.own 143 (xu r.l)),(14,.own 143 (xu (adl s.l r.l i)))],[]⟩) (fun i=>i≤8) (fun i=>8-i) [15,0,8,14] [] 0 (by omega) ?_
 have h81:r.l.length=8:=rfl;have h80:=h8;generalize s.l=l0 at*;generalize r.l=l1 at*;rintro i hi K hK;refine aa ?_;refine AW.cond rfl (fun hc=> ?_) (fun hc=> ?_)
 rotate_left
 ·have hge:i=8:=by have:=of_decide_eq_false hc;omega
  subst hge;refine aa ?_;refine ac (.move rfl .nil) rfl
 have hlt:i<8:=by have:=of_decide_eq_true hc;omega
 have l8:(i<8)=True:=eq_true hlt;have g0:(xu l0)[i]?=some (.int .u32 ((fg l0 i).toNat:Int)):=qm (by omega)
 have g1:(xu l1)[i]?=some (.int .u32 ((fg l1 i).toNat:Int)):=qm (by omega)
 have r1:((i+1)*4≤aw)=True:=eq_true (by omega)
 have r2:(i+1≤aw)=True:=eq_true (by omega)
 refine aa ?_;refine cr ?_;refine bu [[],[],[],[126,127],[128],[],[],[130,131],[132],[129,133]] ?_ (by simp only[go_sem,↓reduceIte,g0,g1,h80,h81,l8,dh]<;>rfl)
 refine CK.list [134] ?_;refine CK.done (M:=11) 2 mixed ?_;refine bp (fuel:=0) (listed':=z02 13 true) [11,12] ?_ (by decide+kernel)
 refine ak ?_ (by simp only[go_sem,↓reduceIte,Ip,aka,aqm,r1,r2]<;>rfl)
 refine a8 (by decide+kernel) ?_
 have e6:IntKind.i64.wrap ((i:Int)+1)=((i+1:Nat):Int):=ai (by omega)
 refine aa ?_ (by simp only[go_sem,↓reduceIte,e6]<;>rfl)
 exact ah hK (i+1) (by omega) (by omega)
theorem uj(m:List Nat)(hm:m.length<2^30):Fn Tryz.prog 93 [] [.pv (.sl 1 (bytes m))] (fun rs H'=>rs=[.own 5 (bytes (Gi m))]∧H'=[]):=by
 refine Fn.ob Tryz.f93 60 [.tmp 2] fun C=> ?_
 have hroom:aw=140737488355328:=rfl;have hpl:(m++endP m.length).length % 64=0∧(m++endP m.length).length<2^31:=by
  rw[List.length_append,Sj];unfold He;omega
 have hsha:Gi m=(fb kj (m++endP m.length)).l.flatMap Qx:=rfl;rw[hsha];refine aa ?_;refine ap Xt .nil ?_;refine aa ?_;refine ap (acn m hm) (.pv _ .nil) ?_;generalize m++endP m.length=p at*;obtain⟨hp1,hp2⟩:=hpl;refine aa ?_;refine aq (fun j:Nat=>⟨60,[(6,.pv (.int .i64 ((64*j:Nat):Int))),(3,.pv (.sl 1 (xu B9))),(5,.own 5 (bytes p)),(4,.own 143 (xu (fb kj (p.take (64*j))).l))],[]⟩) (fun j=>64*j≤p.length) (fun j=>p.length-64*j) [6,3,5,4] [] 0 (by omega) ?_ (hs:=by simp only[go_sem,↓reduceIte,Nat.mul_zero,List.take_zero,Hx (s:=kj) (l:=[]) (by decide)]<;>rfl)
 rintro j hj K hK;refine aa ?_;refine AW.cond rfl (fun hc=> ?_) (fun hc=> ?_)
 ·have hlt:64*j<p.length:=by have:=of_decide_eq_true hc;omega
  have hle:64*(j+1)≤p.length:=by omega
  have hst:=ap8 kj p j hle;have hbl:((p.drop (64*j)).take 64).length=64:=by simp;omega
  obtain⟨q,hq⟩:∃q,q=64*j:=⟨_,rfl⟩
  rw[←hq]at hst hbl⊢;have e1:IntKind.i64.wrap ((q:Int)+64)=((q+64:Nat):Int):=by rw[an (by omega) (by omega)];omega
  have e2:(((q+64:Nat):Int)-(q:Int)).toNat=64:=by omega
  have e3:(q≤q+64)=True:=eq_true (by omega)
  have e4:(q+64≤p.length)=True:=eq_true (by omega)
  have e5:((q:Int)≤((q+64:Nat):Int))=True:=eq_true (by omega)
  have e6:(((q+64:Nat):Int)≤(p.length:Int))=True:=eq_true (by omega)
  generalize fb kj (p.take q)=s at*;refine aa ?_ (by simp only[go_sem,↓reduceIte,e1,e2,e3,e4,e5,e6]<;>rfl)
  refine av (args:=[.pv (.sl 1 (xu s.l)),.pv (.sl 1 (bytes ((p.drop q).take 64))),.pv (.sl 1 (xu B9))]) (fun _=>0) (Px s _ hbl) (.lend rfl Vv (.lendV rfl c7 (by rw[ot,dz]) (.pv _ .nil))) ?_
  have hq2:q+64=64*(j+1):=by omega
  refine aa ?_ (by simp only[go_sem,↓reduceIte,e1]<;>rfl)
  exact ah hK (j+1) (by omega) (by omega) (hs:=by simp only[go_sem,↓reduceIte,hst,hq2]<;>rfl)
 have hge:64*j=p.length:=by have:=of_decide_eq_false hc;omega
 rw[hge,z00 (Nat.le_refl _)];refine aa ?_;have hl8:(fb kj p).l.length=8:=rfl;generalize(fb kj p).l=l at*;refine aq (fun i:Nat=>⟨60,[(8,.pv (.int .i64 i)),(4,.own 143 (xu l)),(7,.own 5 (bytes ((l.take i).flatMap Qx)))],[]⟩) (fun i=>i≤8) (fun i=>8-i) [8,4,7] [] 0 (by omega) ?_
 rintro i hi K hK;refine aa ?_;refine AW.cond rfl (fun hc=> ?_) (fun hc=> ?_)
 rotate_left
 ·have hge:i=8:=by have:=of_decide_eq_false hc;omega
  subst hge;rw[z00 (by omega)]
  refine aa ?_;refine ac (.move rfl .nil) rfl
 have hlt:i<8:=by have:=of_decide_eq_true hc;omega
 have l8:(i<8)=True:=eq_true hlt;have hst:=aac l i (by omega)
 have hx:(xu l)[i]?=some (.int .u32 ((fg l i).toNat:Int)):=qm (by omega)
 have hfl:((l.take i).flatMap Qx).length=4*i:=by rw[xi];simp;omega
 generalize(l.take i).flatMap Qx=bc at*;generalize fg l i=x at*;have r1:(bc.length+4≤aw)=True:=eq_true (by omega)
 refine aa ?_;refine cr ?_;refine bu [[],[],[],[34,35],[36],[37],[38],[],[],[40,41],[42],[43],[44],[],[],[46,47],[48],[49],[50],[],[],[52,53],[54],[55]] ?_ (by simp only[go_sem,↓reduceIte,hx,hl8,l8,Ek,El,Iq,Oj]<;>rfl)
 refine CK.list [39,45,51,56] ?_;refine CK.done (M:=25) 2 mixed ?_;refine bp (fuel:=0) (listed':=z02 27 true) [25,26] ?_ (by decide+kernel)
 refine ak ?_ (by simp only[go_sem,↓reduceIte,Nj,r1,z14,z15,z08,z16]<;>rfl)
 refine a8 (by decide+kernel) ?_
 have e6:IntKind.i64.wrap ((i:Int)+1)=((i+1:Nat):Int):=ai (by omega)
 refine aa ?_ (by simp only[go_sem,↓reduceIte,e6]<;>rfl)
 exact ah hK (i+1) (by omega) (by omega) (hs:=by simp only[go_sem,↓reduceIte,hst]<;>rfl)
def u7(l:List Nat):Nat:=l.foldl (fun a x=>a*256+x) 0
theorem S4(l:List Nat)(x:Nat):u7 (l++[x])=u7 l*256+x:=by simp[u7]
theorem Ik(l:List Nat)(h:∀x∈l,x<256):u7 l<256^l.length:=by
 have:∀(n:Nat) (l:List Nat),l.length=n→(∀x∈l,x<256)→u7 l<256^n:=by
  intro n
  induction n with
  |zero=>intro l hl _;rw[z09.1 hl];simp[u7]
  |succ n ih=>
   intro l hl h;have hne:l≠ []:=by rintro rfl;simp at hl
   rw[←List.dropLast_concat_getLast hne,S4];have h1:=ih l.dropLast (by simp;omega) (fun x hx=>h x (List.dropLast_subset l hx))
   have h2:=h _ (List.getLast_mem hne);rw[Nat.pow_succ];omega
 exact this _ l rfl h
def iy(v:Nat):Nat→List Nat
 |0=> []
 |n+1=>(v/256^n % 256)::iy v n
theorem gv(v n:Nat):(iy v n).length=n:=by induction n with|zero=>rfl|succ n ih=>simp[iy,ih]
theorem nt(v n:Nat):∀x∈iy v n,x<256:=by
 induction n with
 |zero=>simp[iy]
 |succ n ih=>
  intro x hx;rcases List.mem_cons.1 hx with rfl|hx
  ·omega
  ·exact ih x hx
theorem aic{a x:Nat}(ha:a<2^56)(hx:x<256):ef .or .u64 (xw .u64 (a:Int) 8) (x:Int)=((a*256+x:Nat):Int):=by
 have h8:((8:Nat):Int)=8:=rfl;have:=wg a 8 (by omega)
 rw[h8]at this;rw[this,show(2:Nat)^8=256 from rfl,Nat.mod_eq_of_lt (by omega),Bo (by omega) (by omega)]
 congr 1
 have:=Nat.two_pow_add_eq_or_of_lt (i:=8) (b:=x) (by omega) a
 rw[Nat.mul_comm a,←this]
def blk(l:List Nat)(m:Nat):List Nat×Int×List Nat:=
 if(a6 l).2.2≠0 then([],(a6 l).2.2,l)else if m<(a6 l).1 then([],4,l)else if l.length-(a6 l).2.1<(a6 l).1 then([],2,l)
 else((l.drop (a6 l).2.1).take (a6 l).1,0,l.drop ((a6 l).2.1+(a6 l).1))
theorem Rp:∀(l:List Nat) (k bc n:Nat),k≤9→k+n=10→A3 k bc (l.take n)=A3 k bc l
 |[],k,bc,n,hk,h=>by simp
 |x::r,k,bc,0,hk,h=>by omega
 |x::r,k,bc,n+1,hk,h=>by
  rw[List.take_succ_cons];simp only[A3];split
  ·rfl
  ·rename_i h9;split
   ·rw[Rp r (k+1) _ n (by omega) (by omega)]
   ·rfl
theorem Iw(l:List Nat):a6 l=A3 0 0 l:=Rp l 0 0 10 (by omega) (by omega)
theorem Dl(v n:Nat):iy v (n+1)=(v/256^n % 256)::iy v n:=rfl
theorem nx(l:List Nat)(hl:l.length≤aw)(hb:∀x∈l,x<256):Fn Tryz.prog 69 (i4 l) [.ptr 1000 0]
  (fun rs H'=>rs=[.pv (.int .u64 ((a6 l).1:Nat)),.pv (.int .i64 (a6 l).2.2)]∧H'=i4 (l.drop (a6 l).2.1)):=by
 refine Fn.ob Tryz.f69 26 [.tmp 2,.tmp 3] fun C=> ?_
 refine aa ?_;refine ae rfl ?_;refine aa ?_;refine ap (Zk l hb) (.pv _ .nil) ?_;refine aa ?_;refine av id (Gz l _ (C6 l) hl) (.ptr rfl (.pv _ .nil)) ?_;refine aa ?_;refine ac (.pv _ (.pv _ .nil)) rfl
theorem aj4(l:List Nat)(hl:l.length+20≤aw):Fn Tryz.prog 20 [] [.pv (.sl 1 (bytes l))] (fun rs H'=>rs=[.own 5 (bytes (cg l.length++l))]∧H'=[]):=by
 refine Fn.ob Tryz.f20 9 [.tmp 2] fun C=> ?_
 have hr:aw<2^63:=by decide
 have hu:IntKind.u64.wrap (l.length:Int)=(l.length:Int):=ay (by omega)
 refine aa ?_ (by simp only[go_sem,↓reduceIte,hu]<;>rfl)
 refine ap (Ai [] l.length (by omega) (by simp;omega)) (.nilsP 1 (.pv _ .nil)) ?_
 have h10:=bn (v:=l.length) (by omega)
 have hs:(cg l.length).length+l.length≤aw:=by omega
 refine aa ?_ (by simp only[go_sem,↓reduceIte,z07,hs]<;>rfl)
 refine ac (.move rfl .nil) rfl
theorem za(l:List Nat)(m:Nat)(hm:m<2^63)(hl:l.length≤aw)(hb:∀x∈l,x<256):Fn Tryz.prog 44 (i4 l) [.ptr 1000 0,.pv (.int .i64 m)]
  (fun rs H'=>rs=[.own 5 (bytes (blk l m).1),.pv (.int .i64 (blk l m).2.1)]∧H'=i4 (blk l m).2.2):=by
 refine Fn.ob Tryz.f44 55 [.tmp 4,.tmp 5] fun C=> ?_
 have hr:aw<2^63:=by decide
 have hle:=C6 l;have hlt:=sj hb;refine ak ?_;refine ae rfl ?_;refine aa ?_;refine ap (Zk l hb) (.pv _ .nil) ?_;refine aa ?_;unfold blk;generalize(a6 l).1=v at*;generalize(a6 l).2.2=e at*;generalize(a6 l).2.1=k at*;refine AW.cond rfl (fun hc=> ?_) (fun hc=> ?_)
 ·have he:e≠0:=by simpa using hc
  simp only[if_pos he];refine aa ?_;refine ac (.move rfl (.pv _ .nil)) rfl
 have he:¬e≠0:=by simpa using hc
 simp only[if_neg he];have hu:IntKind.u64.wrap (m:Int)=(m:Int):=ay (by omega)
 refine aa ?_ (by simp only[go_sem,↓reduceIte,hu]<;>rfl)
 refine AW.cond rfl (fun hc=> ?_) (fun hc=> ?_)
 ·have he:m<v:=by simp at hc;omega
  simp only[if_pos he];refine aa ?_;refine ac (.move rfl (.pv _ .nil)) rfl
 have hmv:¬m<v:=by simp at hc;omega
 simp only[if_neg hmv];refine aa ?_;refine av id (O5 l) (.ptr rfl .nil) ?_;have h1:IntKind.u64.wrap (IntKind.i64.wrap ((l.length:Int)-(k:Int)))=((l.length-k:Nat):Int):=by
  rw[←Int.ofNat_sub hle,au (by omega),ay (by omega)]
 refine aa ?_ (by simp only[go_sem,↓reduceIte,h1]<;>rfl)
 refine AW.cond rfl (fun hc=> ?_) (fun hc=> ?_)
 ·have he:l.length-k<v:=by simp at hc;omega
  simp only[if_pos he];refine aa ?_;refine ac (.move rfl (.pv _ .nil)) rfl
 have hlv:¬l.length-k<v:=by simp at hc;omega
 simp only[if_neg hlv];rw[show l.drop (k+v)=(l.drop k).drop v by rw[List.drop_drop]]
 refine aa ?_;refine av id (Gz l k hle hl) (.ptr rfl (.pv _ .nil)) ?_;have h2:IntKind.i64.wrap (v:Int)=(v:Int):=au (by omega)
 refine aa ?_ (by simp only[go_sem,↓reduceIte,h2]<;>rfl)
 refine av id (Gz (l.drop k) v (by simp;omega) (by simp;omega)) (.ptr rfl (.pv _ .nil)) ?_
 refine aa ?_;refine ac (.move rfl (.pv _ .nil)) rfl
theorem Up(l:List Nat)(n:Nat)(hn:n≤8)(hl:l.length≤aw)(hb:∀x∈l,x<256):Fn Tryz.prog 81 (i4 l) [.ptr 1000 0,.pv (.int .i64 n)]
  (fun rs H'=>rs=[.pv (.int .u64 ((if n≤l.length then u7 (l.take n)else 0):Nat)),.pv (.int .i64 (if n≤l.length then 0 else 2))]∧H'=i4 (if n≤l.length then l.drop n else l)):=by
 refine Fn.ob Tryz.f81 33 [.tmp 4,.tmp 5] fun C=> ?_
 refine aa ?_;refine ae (by simp only[go_sem,↓reduceIte];congr 3;simp;omega) ?_
 refine aa ?_;refine av id (pq l n hl) (.ptr rfl (.pv _ .nil)) ?_;have e0:(if n≤l.length then u7 (l.take n)else 0)=u7 (if n≤l.length then l.take n else []):=by split<;>rfl
 rw[e0];have hxl:(if n≤l.length then l.take n else []).length≤8:=by split<;>simp<;>omega
 have hxb:∀x∈(if n≤l.length then l.take n else []),x<256:=by
  split
  ·exact fun x hx=>hb x (z13 hx)
  ·simp
 generalize(if n≤l.length then l.take n else [])=xs at*
 generalize hE:(if n≤l.length then 0 else 2:Int)=er
 generalize hR:(if n≤l.length then l.drop n else l)=lr
 refine aa ?_;have hr:aw<2^63:=by decide
 refine aq (fun i:Nat=>⟨33,[(21,.pv (.int .i64 i)),(8,.pv (.int .u64 (u7 (xs.take i):Nat))),(19,.al (.slot 6)),(20,.pv (.int .i64 xs.length)),(6,.own 5 (bytes xs)),(7,.pv (.int .i64 er))],i4 lr⟩) (fun i=>i≤xs.length) (fun i=>xs.length-i) [21,8,19,20,6,7] [1000] 0 (z04 _) ?_
 rintro i hi K hK;refine aa ?_;refine AW.cond rfl (fun hc=> ?_) (fun hc=> ?_)
 ·have hlt:i<xs.length:=by simpa using hc
  have hget:=rl hlt;have hx:=hxb _ (List.getElem_mem hlt);have hti:xs.take (i+1)=xs.take i++[xs[i]]:=by simp
  have hbl:=Ik (xs.take i) (fun x hx=>hxb x (z13 hx))
  have hp:256^ (xs.take i).length≤256^7:=Nat.pow_le_pow_right (by omega) (by simp;omega)
  have eo:=aic (a:=u7 (xs.take i)) (x:=xs[i]) (by omega) hx
  have eu:IntKind.u64.wrap ((xs[i]:Nat):Int)=(xs[i]:Nat):=ay (by omega)
  have ei:IntKind.i64.wrap ((i:Int)+1)=((i+1:Nat):Int):=ai (by omega)
  rw[←S4,←hti]at eo;refine aa ?_ (by simp only[go_sem,↓reduceIte,hget,hlt,eu,eo,ei]<;>rfl)
  refine ah hK (i+1) hlt (by omega)
 ·have hge:¬i<xs.length:=by simpa using hc
  rw[z00 (by omega)]
  refine aa ?_;refine ac (.pv _ (.pv _ .nil)) rfl
end Go.Ck
