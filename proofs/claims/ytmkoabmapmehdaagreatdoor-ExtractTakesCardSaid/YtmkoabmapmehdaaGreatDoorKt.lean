/- What is proved here: parts of the proofs of this seat's statements (a verified evaluator for calls over pure values, its laws, and contracts of functions). No condition. -/
import Derived.Test.YtmkoabmapmehdaaGreatDoorKr
import Derived.Test.YtmkoabmapmehdaaGreatDoorKs
import Derived.Test.YtmkoabmapmehdaaGreatDoorKn
import Derived.Test.YtmkoabmapmehdaaGreatDoorKm
set_option linter.all false
open List renaming getElem?_eq_getElem→z00,length_cons→z01,drop_eq_getElem_cons→z02,length_set→z06,length_append→z07,getElem?_map→z11,length_nil→z13,length_map→z14,map→z16,getD_eq_getElem?_getD→z18,mem_cons→z19,take_of_length_le→z21,mem_of_mem_take→z22,append_assoc→z24,length_take→z25,map_append→z27,replicate→z29,map_set→z34,range→z36
open Nat renaming pow_succ→z03,mul_le_mul_right→z04,pow_le_pow_right→z05,zero_add→z08,mod_eq_of_lt→z09,zero_le→z10,mul_comm→z12,reduceAdd→z20,mul_one→z23,reduceLeDiff→z26,strongRecOn→z28,reduceMul→z30,add_assoc→z33,mod_mul→z35,mod_lt→z37
open Bool renaming eq_iff_iff→z15
open Array renaming replicate→z17
set_option maxRecDepth 100000
set_option maxHeartbeats 400000
namespace Go.Ck
open Go.Proofs
theorem C4(x:df)(m:Nat)(h0:0<m)(h1:m<32):Fn Tryz.prog 184 [] [.pv (wP x),.pv (.int .u64 m)] (fun rs H'=>rs=[.pv (wP (n5 x (32-m)))]∧H'=[]):=by
 refine Fn.ob Tryz.f184 13 [.tmp 4] fun C=> ?_
 have e2:IntKind.u64.wrap (32-(m:Int))=((32-m:Nat):Int):=by rw[IntKind.wrap_u64];omega
 have e3:=Zh x (32-m) (by omega) (by omega)
 rw[show 32-(32-m)=m by omega]at e3
 unfold wP;refine aa ?_ (by simp only[go_sem,↓reduceIte,e2,e3]<;>rfl)
 refine ac (.pv _ .nil) rfl
theorem P2(a b c d:df):Fn Tryz.prog 170 [] [.pv (wP a),.pv (wP b),.pv (wP c),.pv (wP d)]
  (fun rs H'=>rs=[.pv (wP (qrt a b c d).1),.pv (wP (qrt a b c d).2.1),.pv (wP (qrt a b c d).2.2.1),.pv (wP (qrt a b c d).2.2.2)]∧H'=[]):=by
 refine Fn.ob Tryz.f170 44 [.tmp 8,.tmp 9,.tmp 10,.tmp 11] fun C=> ?_
 refine aa ?_ (by simp only[go_sem,↓reduceIte,wP,di,dh]<;>rfl)
 refine ap (C4 _ 16 (by decide) (by decide)) (.pv _ (.pv _ .nil)) ?_
 refine aa ?_ (by simp only[go_sem,↓reduceIte,wP,di,dh]<;>rfl)
 refine ap (C4 _ 12 (by decide) (by decide)) (.pv _ (.pv _ .nil)) ?_
 refine aa ?_ (by simp only[go_sem,↓reduceIte,wP,di,dh]<;>rfl)
 refine ap (C4 _ 8 (by decide) (by decide)) (.pv _ (.pv _ .nil)) ?_
 refine aa ?_ (by simp only[go_sem,↓reduceIte,wP,di,dh]<;>rfl)
 refine ap (C4 _ 7 (by decide) (by decide)) (.pv _ (.pv _ .nil)) ?_
 refine aa ?_;refine ac (.pv _ (.pv _ (.pv _ (.pv _ .nil)))) rfl
theorem anm(ws:List df)(i:Nat)(x:df):(A2 ws).set i (.pv (.int .u32 (x.toNat:Int)))=A2 (ws.set i x):=by
 unfold A2 wP;rw[z34,z34]
theorem ann(ρ:Nat→Nat)(ws:List df):(A2 ws).map (SV.ren ρ)=A2 ws:=Vl ρ (ws.map wP)
attribute [go_sem] ann
theorem m5(ws:List df)(hw:ws.length=16)(i j k l:Nat)(hi:i<16)(hj:j<16)(hk:k<16)(hl:l<16):Fn Tryz.prog 140 [(1000,.cells 143 (A2 ws))] [.os 1000 0 16,.pv (.int .i64 i),.pv (.int .i64 j),.pv (.int .i64 k),.pv (.int .i64 l)]
  (fun rs H'=>rs=[]∧H'=[(1000,.cells 143 (A2 (lx ws i j k l)))]):=by
 refine Fn.ob Tryz.f140 52 [] fun C=> ?_
 have gi:(A2 ws)[i]?=some (.pv (.int .u32 ((fg ws i).toNat:Int))):=vo (by omega)
 have gj:(A2 ws)[j]?=some (.pv (.int .u32 ((fg ws j).toNat:Int))):=vo (by omega)
 have gk:(A2 ws)[k]?=some (.pv (.int .u32 ((fg ws k).toNat:Int))):=vo (by omega)
 have gl:(A2 ws)[l]?=some (.pv (.int .u32 ((fg ws l).toNat:Int))):=vo (by omega)
 have li:(i<16)=True:=eq_true hi;have lj:(j<16)=True:=eq_true hj;have lk:(k<16)=True:=eq_true hk;have ll:(l<16)=True:=eq_true hl;have e0:lx ws i j k l=(((ws.set i (qrt (fg ws i) (fg ws j) (fg ws k) (fg ws l)).1).set j (qrt (fg ws i) (fg ws j) (fg ws k) (fg ws l)).2.1).set k (qrt (fg ws i) (fg ws j) (fg ws k) (fg ws l)).2.2.1).set l (qrt (fg ws i) (fg ws j) (fg ws k) (fg ws l)).2.2.2:=rfl;rw[e0];have hq:=P2 (fg ws i) (fg ws j) (fg ws k) (fg ws l);generalize qrt (fg ws i) (fg ws j) (fg ws k) (fg ws l)=Q at*;obtain⟨qa,qb,qc,qd⟩:=Q;simp only at hq⊢;have n0:(A2 ws).length=16:=by rw[Gx,hw]
 have n1:(A2 (ws.set i qa)).length=16:=by rw[Gx,z06,hw]
 have n2:(A2 ((ws.set i qa).set j qb)).length=16:=by rw[Gx,z06,z06,hw]
 have n3:(A2 (((ws.set i qa).set j qb).set k qc)).length=16:=by rw[Gx,z06,z06,z06,hw]
 refine aa ?_;refine cr ?_;refine bu [[],[],[15,16],[17],[],[],[19,20],[21],[],[],[23,24],[25],[],[],[27,28],[29]] ?_ (by simp only[go_sem,↓reduceIte,gi,gj,gk,gl,li,lj,lk,ll,z08,z23]<;>rfl)
 refine CK.done (M:=16) 10 mixed ?_;refine bp (fuel:=9) (listed':= #[true,true,true,true,true,true,true,true,true,true,true,true,true,true,true,true,true,false,false,false,false,false,false,false,false,false]) [16] ?_ (by decide+kernel)
 refine ak ?_;refine ap hq (.pv _ (.pv _ (.pv _ (.pv _ .nil)))) ?_;refine ak ?_;refine AW.takes (fuel:=0) [17,18,19,20,21,22,23,24,25] ?_ (by simp only[go_sem,↓reduceIte]<;>rfl) dt (listed':= #[true,true,true,true,true,true,true,true,true,true,true,true,true,true,true,true,true,true,true,true,true,true,true,true,true,true]) (by decide+kernel) (by decide+kernel)
 refine a8 (by decide+kernel) ?_
 refine aa ?_ (by simp only[go_sem,↓reduceIte,li,lj,lk,ll,n0,n1,n2,n3,wP,anm,z08,z23]<;>rfl)
 refine ac .nil rfl
theorem Ji(b:List Nat)(n:Nat)(hb:∀x∈b,x<256)(hl:b.length=4*n)(hn:n≤1000):Fn Tryz.prog 139 [] [.pv (.sl 1 (bytes b))] (fun rs H'=>rs=[.own 143 ((jl b n).map wP)]∧H'=[]):=by
 refine Fn.ob Tryz.f139 45 [.tmp 2] fun C=> ?_
 have hr:aw=140737488355328:=rfl;refine aa ?_;refine aq (fun t:Nat=>⟨45,[(4,.pv (.int .i64 ((4*t:Nat):Int))),(0,.pv (.sl 1 (bytes b))),(3,.own 143 ((jl b t).map wP))],[]⟩) (fun t=>t≤n) (fun t=>n-t) [4,0,3] [] 0 (z10 _) ?_
 rintro t ht K hK;have e3:IntKind.i64.wrap (((4*t:Nat):Int)+3)=((4*t+3:Nat):Int):=au (n:=4*t+3) (by omega)
 refine aa ?_ (by simp only[go_sem,↓reduceIte,e3]<;>rfl)
 refine AW.cond rfl (fun hc=> ?_) (fun hc=> ?_)
 ·have hlt:t<n:=by have:=of_decide_eq_true hc;omega
  have e1:IntKind.i64.wrap (((4*t:Nat):Int)+1)=((4*t+1:Nat):Int):=au (n:=4*t+1) (by omega)
  have e2:IntKind.i64.wrap (((4*t:Nat):Int)+2)=((4*t+2:Nat):Int):=au (n:=4*t+2) (by omega)
  have e4:IntKind.i64.wrap (((4*t:Nat):Int)+4)=((4*(t+1):Nat):Int):=au (n:=4*t+4) (by omega)
  have hg:∀i,i<b.length→(bytes b)[i]?=some (.int .u8 ((b.getD i 0:Nat):Int)):=fun i hi=>by
   unfold bytes;rw[z11,z18,z00 hi];rfl
  have g0:=hg (4*t) (by omega)
  have g1:=hg (4*t+1) (by omega)
  have g2:=hg (4*t+2) (by omega)
  have g3:=hg (4*t+3) (by omega)
  have b0:=Cw _ (fj hb (4*t));have b1:=Cw _ (fj hb (4*t+1));have b2:=Cw _ (fj hb (4*t+2));have b3:=Cw _ (fj hb (4*t+3));have hw:jl b (t+1)=jl b t++[wdl b (4*t)]:=Tl b t;have hs:(jl b t).map wP++[.int .u32 ((wdl b (4*t)).toNat:Int)]=(jl b (t+1)).map wP:=by rw[hw,z27];rfl
  have hlw:((jl b t).map wP).length=t:=by rw[z14,so]
  have r1:((t+1)*4≤aw)=True:=eq_true (by omega)
  have r2:(t+1≤aw)=True:=eq_true (by omega)
  unfold wdl at hs;refine aa ?_;refine cr ?_;refine bu [[],[],[],[13,14],[15],[16],[],[],[19],[18,20],[21],[22],[23],[17,24],[],[],[27],[26,28],[29],[30],[31],[25,32],[],[],[35],[34,36],[37],[38],[39],[33,40]] ?_ (by simp only[go_sem,↓reduceIte,e1,e2,e3,g0,g1,g2,g3,b0,b1,b2,b3,Ir,Lv,Lu,H0]<;>rfl)
  refine CK.list [41] ?_;refine CK.done (M:=31) 2 mixed ?_;refine bp (fuel:=0) (listed':=z17 33 true) [31,32] ?_ (by decide+kernel)
  refine ak ?_ (by simp only[go_sem,↓reduceIte,hs,hlw,r1,r2,z14,so,z01,z13,z08]<;>rfl)
  refine a8 (by decide+kernel) ?_
  refine aa ?_ (by simp only[go_sem,↓reduceIte,e4]<;>rfl)
  exact ah hK (t+1) (by omega) (by omega)
 have hge:t=n:=by have:=of_decide_eq_false hc;omega
 subst hge;refine aa ?_;refine ac (.move rfl .nil) rfl
def wl(ws:List df):List PV:=ws.map wP
theorem Vi(ws:List df):(wl ws).length=ws.length:=by simp[wl]
theorem ave(ws:List df):(wl ws).all PV.one=true:=by simp[wl,wP,List.all_eq_true,PV.one]
theorem avd(ws:List df):(wl ws).map SV.pv=A2 ws:=rfl
theorem avf{ws:List df}{i:Nat}(h:i<ws.length):(wl ws)[i]?=some (.int .u32 ((fg ws i).toNat:Int)):=by
 unfold wl;rw[z11,z00 h,vp h];rfl
theorem aec(x:df):[PV.int .u8 ((x.toNat % 256:Nat):Int),.int .u8 (((x>>>8).toNat % 256:Nat):Int),.int .u8 (((x>>>16).toNat % 256:Nat):Int),.int .u8 (((x>>>24).toNat % 256:Nat):Int)]=bytes (byL x):=rfl
theorem Ki(key:List Nat)(c:df)(nonce:List Nat)(hk:key.length=32)(hkb:∀x∈key,x<256)(hn:nonce.length=12)(hnb:∀x∈nonce,x<256):
  Fn Tryz.prog 122 [] [.pv (.sl 1 (bytes key)),.pv (wP c),.pv (.sl 1 (bytes nonce))] (fun rs H'=>rs=[.pv (.sl 1 (bytes (yh key c nonce))),.pv (.int .i64 0)]∧H'=[]):=by
 refine Fn.ob Tryz.f122 85 [.tmp 6,.tmp 7] fun C=> ?_
 have hr:aw=140737488355328:=rfl;have d1:((key.length:Int) !=32)=false:=by rw[bne_eq_false_iff_eq];omega
 have d2:((nonce.length:Int) !=12)=false:=by rw[bne_eq_false_iff_eq];omega
 refine ak ?_ (by simp only[go_sem,↓reduceIte,d1,d2]<;>rfl)
 refine ae rfl ?_;refine aa ?_;refine ap (Ji key 8 hkb (by omega) (by omega)) (.pv _ .nil) ?_
 have w1:(z16 wP (jl key 8)).length=8:=by rw[z14,so]
 have w2:(z16 wP (jl nonce 3)).length=3:=by rw[z14,so]
 have r1:(12*4≤aw)=True:=eq_true (by omega)
 refine aa ?_ (by simp only[go_sem,↓reduceIte,w1,z01,z13,z07,z08,z20,z30,z26,hr]<;>rfl)
 refine ap (Ji nonce 3 hnb (by omega) (by omega)) (.pv _ .nil) ?_
 have hF:PV.int IntKind.u32 1634760805::PV.int IntKind.u32 857760878::PV.int IntKind.u32 2036477234::PV.int IntKind.u32 1797285236::(z16 wP (jl key 8)++[wP c]++z16 wP (jl nonce 3))=wl (qq key c nonce):=by
  simp only[wl,qq,z27,List.map_cons,List.map_nil];rfl
 have hF2:PV.int IntKind.u32 1634760805::PV.int IntKind.u32 857760878::PV.int IntKind.u32 2036477234::PV.int IntKind.u32 1797285236::(z16 wP (jl key 8)++wP c::z16 wP (jl nonce 3))=wl (qq key c nonce):=by
  rw[←hF,z24];rfl
 have hFl:(wl (qq key c nonce)).length=16:=by rw[Vi,Ga]
 refine aa ?_ (by simp only[go_sem,↓reduceIte,w1,w2,hF,hF2,hFl,z01,z13,z07,z08,z20,z30,z26,hr,List.nil_append]<;>rfl)
 have hfl:=Ga key c nonce;generalize hf:qq key c nonce=f at*;refine bj (.slot 8) ?_;refine bq [10,9,8] [] (s':=⟨85,[(10,.pv (.int .i64 0)),(9,.own 143 (wl f)),(8,.pv (.sl 1 (wl f)))],[]⟩) ?_;refine akf 9 900 (xs:=wl f) ?_ rfl (List.ne_nil_of_length_pos (by rw[Vi,hfl];decide)) (ave f) Vv rfl (show 9<85 by decide)
 rw[avd,Vi,hfl];refine aq (fun i:Nat=>⟨85,[(10,.pv (.int .i64 i)),(9,.os 900 0 16),(8,.pv (.sl 1 (wl f)))],[(900,.cells 143 (A2 (Ky f i)))]⟩) (fun i=>i≤10) (fun i=>10-i) [10,9,8] [900] 0 (z10 _) ?_
 rintro i hi K hK;refine aa ?_;refine AW.cond rfl (fun hc=> ?_) (fun hc=> ?_)
 ·have hlt:i<10:=by have:=of_decide_eq_true hc;omega
  have ei:IntKind.i64.wrap ((i:Int)+1)=((i+1:Nat):Int):=ai (by omega)
  have hd:Ky f (i+1)=ak3 (Ky f i):=rfl;have hl:=Jc f i;rw[Xr]at hd;rw[hfl]at hl;generalize Ky f i=s at*;refine aa ?_;refine av (fun _=>900) (m5 s hl 0 4 8 12 (by decide) (by decide) (by decide) (by decide)) (.os rfl (.pv _ (.pv _ (.pv _ (.pv _ .nil))))) ?_
  have hl:=(ld s 0 4 8 12).trans hl;generalize lx s 0 4 8 12=s at*;refine aa ?_;refine av (fun _=>900) (m5 s hl 1 5 9 13 (by decide) (by decide) (by decide) (by decide)) (.os rfl (.pv _ (.pv _ (.pv _ (.pv _ .nil))))) ?_
  have hl:=(ld s 1 5 9 13).trans hl;generalize lx s 1 5 9 13=s at*;refine aa ?_;refine av (fun _=>900) (m5 s hl 2 6 10 14 (by decide) (by decide) (by decide) (by decide)) (.os rfl (.pv _ (.pv _ (.pv _ (.pv _ .nil))))) ?_
  have hl:=(ld s 2 6 10 14).trans hl;generalize lx s 2 6 10 14=s at*;refine aa ?_;refine av (fun _=>900) (m5 s hl 3 7 11 15 (by decide) (by decide) (by decide) (by decide)) (.os rfl (.pv _ (.pv _ (.pv _ (.pv _ .nil))))) ?_
  have hl:=(ld s 3 7 11 15).trans hl;generalize lx s 3 7 11 15=s at*;refine aa ?_;refine av (fun _=>900) (m5 s hl 0 5 10 15 (by decide) (by decide) (by decide) (by decide)) (.os rfl (.pv _ (.pv _ (.pv _ (.pv _ .nil))))) ?_
  have hl:=(ld s 0 5 10 15).trans hl;generalize lx s 0 5 10 15=s at*;refine aa ?_;refine av (fun _=>900) (m5 s hl 1 6 11 12 (by decide) (by decide) (by decide) (by decide)) (.os rfl (.pv _ (.pv _ (.pv _ (.pv _ .nil))))) ?_
  have hl:=(ld s 1 6 11 12).trans hl;generalize lx s 1 6 11 12=s at*;refine aa ?_;refine av (fun _=>900) (m5 s hl 2 7 8 13 (by decide) (by decide) (by decide) (by decide)) (.os rfl (.pv _ (.pv _ (.pv _ (.pv _ .nil))))) ?_
  have hl:=(ld s 2 7 8 13).trans hl;generalize lx s 2 7 8 13=s at*;refine aa ?_;refine av (fun _=>900) (m5 s hl 3 4 9 14 (by decide) (by decide) (by decide) (by decide)) (.os rfl (.pv _ (.pv _ (.pv _ (.pv _ .nil))))) ?_
  rw[←hd];refine aa ?_ (by simp only[go_sem,↓reduceIte,ei]<;>rfl)
  exact ah hK (i+1) (by omega) (by omega)
 have hge:i=10:=by have:=of_decide_eq_false hc;omega
 subst hge;have hout:yh key c nonce=xp (Ky f 10) f 16:=by unfold yh;rw[hf]
 rw[hout];have hsl:=Jc f 10;rw[hfl]at hsl;generalize Ky f 10=s at*;refine aa ?_;refine aq (fun i:Nat=>⟨85,[(12,.pv (.int .i64 i)),(9,.os 900 0 16),(8,.pv (.sl 1 (wl f))),(11,.own 5 (bytes (xp s f i)))],[(900,.cells 143 (A2 s))]⟩) (fun i=>i≤16) (fun i=>16-i) [12,9,8,11] [900] 0 (z10 _) ?_
 rintro i hi K hK;refine aa ?_;refine AW.cond rfl (fun hc=> ?_) (fun hc=> ?_)
 ·have hlt:i<16:=by have:=of_decide_eq_true hc;omega
  have li:(i<16)=True:=eq_true hlt;have ei:IntKind.i64.wrap ((i:Int)+1)=((i+1:Nat):Int):=ai (by omega)
  have gs:(A2 s)[i]?=some (.pv (.int .u32 ((fg s i).toNat:Int))):=vo (by omega)
  have gf:(wl f)[i]?=some (.int .u32 ((fg f i).toNat:Int)):=avf (by omega)
  have hs:bytes (xp s f i)++bytes (byL (fg s i+fg f i))=bytes (xp s f (i+1)):=by rw[Kf,bx]
  have hlo:=Ae s f i;generalize fg s i=x at*;generalize fg f i=y at*;have hby:=aec (x+y);have r1:((xp s f i).length+4≤aw)=True:=eq_true (by omega)
  have m4:(4≤maxLen)=True:=eq_true (by unfold maxLen;decide)
  have hbl:(byL (x+y)).length=4:=rfl;have hl2:=Ae s f (i+1);have r2:((xp s f (i+1)).length≤aw)=True:=eq_true (by omega)
  refine aa ?_;refine cr ?_;refine bu [[],[],[61,62],[63],[],[],[65,66],[67],[64,68]] ?_ (by simp only[go_sem,↓reduceIte,gs,gf,li,z08,z23,dh]<;>rfl)
  refine CK.done (M:=9) 1 mixed ?_;refine bp (fuel:=0) (listed':=z17 10 true) [9] ?_ (by decide+kernel)
  refine ak ?_;refine a8 (by decide+kernel) ?_
  refine aa ?_ (by simp only[go_sem,↓reduceIte,ei,Oj,Iq,El,Ek,hby,hs,hbl,r1,m4,ba]<;>rfl)
  exact ah hK (i+1) (by omega) (by omega)
 have hge:i=16:=by have:=of_decide_eq_false hc;omega
 subst hge;refine aa ?_;refine ac (.lend rfl c7 (.pv _ .nil)) rfl
theorem zb(l:List Nat)(hl:l.length≤aw):Fn Tryz.prog 53 [] [.pv (.sl 1 (bytes l))] (fun rs H'=>rs=[.own 5 (bytes l)]∧H'=[]):=by
 refine Fn.ob Tryz.f53 8 [.tmp 2] fun C=> ?_
 refine aa ?_;refine Tj (.inl rfl) rfl rfl rfl s9 (by simp only[go_sem,↓reduceIte]<;>rfl) rfl rfl rfl (fun b hb=> ?_)
 refine aa ?_;refine AW.cond (b:=b) (by simp only[go_sem,↓reduceIte]<;>rfl) (fun h1=> ?_) (fun h1=> ?_)
 ·have hx:l=[]:=by simpa[bytes]using hb h1
  subst hx;refine aa ?_;refine ac (.move rfl .nil) rfl
 ·refine aa ?_ (by simp only[go_sem,↓reduceIte,hl]<;>rfl)
  refine ac (.move rfl .nil) rfl
theorem Y6(xs ys:List Nat)(hl:xs.length+ys.length≤aw):Fn Tryz.prog 54 [] [.own 5 (bytes xs),.pv (.sl 1 (bytes ys))] (fun rs H'=>rs=[.own 5 (bytes (xs++ys))]∧H'=[]):=by
 refine Fn.ob Tryz.f54 8 [.tmp 4] fun C=> ?_
 refine aa ?_ (by simp only[go_sem,↓reduceIte,hl]<;>rfl)
 refine ac (.move rfl .nil) rfl
def cg(v:Nat):List Nat:=if v<128 then [v]else(v % 128+128)::cg (v/128)
termination_by v
decreasing_by omega
theorem t6{v:Nat}(h:v<128):cg v=[v]:=by rw[cg,if_pos h]
theorem yk{v:Nat}(h:¬v<128):cg v=(v % 128+128)::cg (v/128):=by rw[cg,if_neg h]
theorem Zw(v:Nat):0<(cg v).length:=by
 by_cases h:v<128
 ·rw[t6 h];simp
 ·rw[yk h];simp
theorem Zx(n:Nat):∀v,v<128^ (n+1)→(cg v).length≤n+1:=by
 induction n with
 |zero=>intro v h;rw[t6 (by omega)];simp
 |succ n ih=>
  intro v h;by_cases h1:v<128
  ·rw[t6 h1];simp
  ·rw[yk h1,z01];have:=ih (v/128) (by rw[Nat.div_lt_iff_lt_mul (by omega)];rw[z03]at h;omega)
   omega
theorem bn{v:Nat}(h:v<2^64):(cg v).length≤10:=Zx 9 v (by omega)
theorem fe(v:Nat):∀x∈cg v,x<256:=by
 induction v using z28 with
 |_ v ih=>
  by_cases h:v<128
  ·rw[t6 h];simp;omega
  ·rw[yk h];intro x hx;rcases z19.1 hx with rfl|hx
   ·omega
   ·exact ih (v/128) (by omega) x hx
theorem aHa{x:Nat}(h:x<256):x|||128=x % 128+128:=by
 have:∀x:Fin 256,x.val|||128=x.val % 128+128:=by decide+kernel
 exact this ⟨x,h⟩
def A3:Nat→Nat→List Nat→Nat×Nat×Int
 |_,_,[]=>(0,0,2)
 |k,bc,x::r=>if k=9∧1<x then(0,0,3)else if 128≤x then A3 (k+1) (bc+x % 128*128^k) r else if x=0∧0<k then(0,0,3)else(bc+x*128^k,k+1,0)
def a6(b:List Nat):Nat×Nat×Int:=A3 0 0 (b.take 10)
theorem Mh:∀(l:List Nat) (k bc:Nat),(A3 k bc l).2.1≤k+l.length∧((A3 k bc l).2.2≠0→(A3 k bc l).1=0∧(A3 k bc l).2.1=0)∧(A3 k bc l).2.1≤k+l.length
 |[],k,bc=>by simp[A3]
 |x::r,k,bc=>by
  simp only[A3];split
  ·simp
  ·split
   ·have:=Mh r (k+1) (bc+x % 128*128^k);simp only[z01];refine⟨by omega,this.2.1,by omega⟩
   ·split
    ·simp
    ·simp
theorem C6(b:List Nat):(a6 b).2.1≤b.length:=by
 have:=(Mh (b.take 10) 0 0).1;simp at this;unfold a6;omega
theorem af2:∀(l:List Nat) (k bc:Nat),k+l.length≤10→(∀x∈l,x<256)→bc<128^k→(A3 k bc l).1<2^64
 |[],k,bc,_,_,_=>by simp[A3]
 |x::r,k,bc,hk,hx,ha=>by
  have hx0:=hx x (by simp)
  simp only[z01]at hk;have hp:128^ (k+1)=128^k*128:=z03 ..;simp only[A3];split
  ·simp
  ·rename_i h9;split
   ·refine af2 r (k+1) _ (by omega) (fun y hy=>hx y (by simp[hy])) ?_
    rw[hp];have h1:x % 128*128^k≤127*128^k:=z04 _ (by omega)
    omega
   ·split
    ·simp
    ·simp only;by_cases hk9:k=9
     ·subst hk9;have:x≤1:=by omega
      have h1:x*128^9≤1*128^9:=z04 _ this;omega
     ·have h2:128^k≤128^8:=z05 (by omega) (by omega)
      have h1:x*128^k≤127*128^k:=z04 _ (by omega)
      omega
theorem sj{b:List Nat}(hb:∀x∈b,x<256):(a6 b).1<2^64:=af2 _ 0 0 (by simp;omega) (fun x hx=>hb x (z22 hx)) (by simp)
theorem aeq{x:Nat}(h:x<256):ef .andNot .u8 (x:Int) 128=((x % 128:Nat):Int):=by
 have:∀x:Fin 256,ef .andNot .u8 ((x.val:Nat):Int) 128=((x.val % 128:Nat):Int):=by decide+kernel
 exact this ⟨x,h⟩
theorem aib{a x k:Nat}(ha:a<128^k)(hx:x*128^k<2^64)(ha2:a<2^64)(hk:7*k≤64):ef .or .u64 (a:Int) (xw .u64 (x:Int) ((7*k:Nat):Int))=((a+x*128^k:Nat):Int):=by
 have hp:(2:Nat)^ (7*k)=128^k:=by rw[Nat.pow_mul]
 rw[wg _ _ hk,hp,z09 hx,Bo ha2 hx]
 congr 1
 have:=Nat.two_pow_add_eq_or_of_lt (i:=7*k) (b:=a) (by rw[hp];exact ha) x
 rw[hp]at this;rw[Nat.or_comm,z12 x,←this,Nat.add_comm]
theorem Ai(b:List Nat)(v:Nat)(hv:v<2^64)(hl:b.length+10≤aw):Fn Tryz.prog 19 [] [.pv (.sl 1 (bytes b)),.pv (.int .u64 v)] (fun rs H'=>rs=[.own 5 (bytes (b++cg v))]∧H'=[]):=by
 refine Fn.ob Tryz.f19 23 [.tmp 4] fun C=> ?_
 refine aa ?_;refine ap (zb b (by omega)) (.pv _ .nil) ?_
 refine aa ?_;have hlen:=bn hv;refine aq (fun a:List Nat×Nat=>⟨23,[(5,.own 5 (bytes a.1)),(1,.pv (.int .u64 a.2))],[]⟩) (fun a=>a.1++cg a.2=b++cg v∧a.2<2^64) (fun a=>a.2) [5,1] [] (b,v) ⟨rfl,hv⟩ ?_
 rintro⟨o,u⟩ ⟨ho,hu⟩ K hK;simp only at ho hu;have hol:o.length+(cg u).length=b.length+(cg v).length:=by rw[←z07,ho,z07]
 have hup:=Zw u;refine aa ?_;refine AW.cond rfl (fun hb=> ?_) (fun hb=> ?_)
 ·have hge:¬u<128:=by simp at hb;omega
  refine aa ?_;have e1:ef .or .u8 (IntKind.u8.wrap (u:Int)) 128=((u % 128+128:Nat):Int):=by
   rw[wrap_u8];have:=My (a:=u % 256) (b:=128) (by omega) (by omega)
   rw[aHa (by omega)]at this
   refine this.trans ?_
   congr 2;omega
  rw[e1];refine ap (Y6 o [u % 128+128] (by simp;omega)) (.move rfl (.lend rfl c7 .nil)) ?_
  refine aa ?_;have e2:mo .u64 (u:Int) 7=((u/128:Nat):Int):=j7 .u64 u 7 (by decide)
  refine ah hK (o++[u % 128+128],u/128) ⟨?_,by simp only;omega⟩ (by simp only;omega) (by simp only[go_sem,↓reduceIte]) (by simp only[go_sem,↓reduceIte,e2])
  simp only[z24,List.singleton_append];rw[←yk hge,ho]
 ·have hlt:u<128:=by simp at hb;omega
  refine aa ?_;have e1:IntKind.u8.wrap (u:Int)=((u:Nat):Int):=fi (by omega)
  rw[e1];refine ap (Y6 o [u] (by simp;omega)) (.move rfl (.lend rfl c7 .nil)) ?_
  refine aa ?_;refine ac (.move rfl .nil) ?_;rw[←ho,t6 hlt]
abbrev i4(l:List Nat):List (Nat×HO):=[(1000,.cells 110 [.pv (.sl 1 (bytes l))])]
attribute [go_sem] i4
theorem E8(l:List Nat)(hl:l.length≤aw):Fn Tryz.prog 32 [] [.pv (.sl 1 (bytes l))] (fun rs H'=>rs=[.ptr 7 0]∧H'=[(7,.cells 110 [.pv (.sl 1 (bytes l))])]):=by
 refine Fn.ob Tryz.f32 8 [.tmp 2] fun C=> ?_
 refine aa ?_;refine ap (zb l hl) (.pv _ .nil) ?_;refine aa ?_;refine ac (.ptr rfl .nil) rfl
theorem O5(l:List Nat):Fn Tryz.prog 70 (i4 l) [.ptr 1000 0] (fun rs H'=>rs=[.pv (.int .i64 l.length)]∧H'=i4 l):=by
 refine Fn.ob Tryz.f70 8 [.tmp 2] fun C=> ?_
 refine aa ?_;refine ac (.pv _ .nil) rfl
theorem Gz(l:List Nat)(n:Nat)(hn:n≤l.length)(hl:l.length≤aw):Fn Tryz.prog 71 (i4 l) [.ptr 1000 0,.pv (.int .i64 n)] (fun rs H'=>rs=[.own 5 (bytes (l.take n))]∧H'=i4 (l.drop n)):=by
 refine Fn.ob Tryz.f71 23 [.tmp 4] fun C=> ?_
 refine aa ?_ (by simp only[go_sem,↓reduceIte,hn]<;>rfl)
 refine ap (zb (l.take n) (by simp;omega)) (.pv _ .nil) ?_
 have e:(((l.length:Int)-(n:Int)).toNat)=l.length-n:=by omega
 have e2:(bytes (l.drop n)).take (l.length-n)=bytes (l.drop n):=z21 (by simp[bytes])
 refine aa ?_ (by simp only[go_sem,↓reduceIte,hn,e];rw[←dz,e2]<;>rfl)
 refine ac (.move rfl .nil) rfl
theorem E9(l:List Nat):Fn Tryz.prog 46 (i4 l) [.ptr 1000 0] (fun rs H'=>rs=[.pv (.int .i64 (if l=[]then 0 else 3))]∧H'=i4 l):=by
 refine Fn.ob Tryz.f46 12 [.tmp 2] fun C=> ?_
 refine aa ?_;refine ae rfl ?_;refine aa ?_;refine av id (O5 l) (.ptr rfl .nil) ?_;refine aa ?_;refine AW.cond rfl (fun hb=> ?_) (fun hb=> ?_)
 ·refine aa ?_;refine ac (.pv _ .nil) ?_;rw[if_neg (by rintro rfl;simp at hb)]
 ·refine aa ?_;refine ac (.pv _ .nil) ?_;rw[if_pos (by simpa using hb)]
theorem pq(l:List Nat)(n:Nat)(hl:l.length≤aw):Fn Tryz.prog 35 (i4 l) [.ptr 1000 0,.pv (.int .i64 n)]
  (fun rs H'=>rs=[.own 5 (bytes (if n≤l.length then l.take n else [])),.pv (.int .i64 (if n≤l.length then 0 else 2))]∧H'=i4 (if n≤l.length then l.drop n else l)):=by
 refine Fn.ob Tryz.f35 25 [.tmp 4,.tmp 5] fun C=> ?_
 refine ak ?_;refine ae rfl ?_;refine aa ?_;refine av id (O5 l) (.ptr rfl .nil) ?_;refine aa ?_;refine AW.cond rfl (fun hb=> ?_) (fun hb=> ?_)
 ·have hn:¬n≤l.length:=by simp at hb;omega
  simp only[if_neg hn];refine aa ?_;refine ac (.move rfl (.pv _ .nil)) rfl
 ·have hn:n≤l.length:=by simp at hb;omega
  simp only[if_pos hn];refine aa ?_;refine av id (Gz l n hn hl) (.ptr rfl (.pv _ .nil)) ?_;refine aa ?_;refine ac (.move rfl (.pv _ .nil)) rfl
theorem Aj{T Q:Prop}(h:(Unit→T)→Q)(t:T):Q:=h (fun _=>t)
theorem Zk(b:List Nat)(hb:∀x∈b,x<256):Fn Tryz.prog 76 [] [.pv (.sl 1 (bytes b))] (fun rs H'=>rs=[.pv (.int .u64 ((a6 b).1:Nat)),.pv (.int .i64 ((a6 b).2.1:Nat)),.pv (.int .i64 (a6 b).2.2)]∧H'=[]):=by
 refine Fn.ob Tryz.f76 47 [.tmp 2,.tmp 3,.tmp 4] fun C=> ?_
 have hm:(if(10:Int)<(b.length:Int)then(10:Int)else(b.length:Int))=((b.take 10).length:Nat):=by
  rw[z25];split<;>omega
 have h1:(b.take 10).length≤b.length:=by simp;omega
 have h2:b.take (b.take 10).length=b.take 10:=by rw[z25];simp[List.take_eq_take_iff]
 refine aa ?_ (by simp only[go_sem,↓reduceIte,hm,h1,h2]<;>rfl)
 have hbb:∀x∈b.take 10,x<256:=fun x hx=>hb x (z22 hx)
 have hlen:(b.take 10).length≤10:=by simp;omega
 unfold a6;generalize b.take 10=c at hbb hlen⊢;refine aq (fun a:Nat×Nat=>⟨47,[(14,.pv (.int .i64 a.1)),(5,.pv (.int .u64 a.2)),(12,.pv (.sl 1 (bytes c))),(13,.pv (.int .i64 c.length))],[]⟩) (fun a=>a.1≤c.length∧A3 a.1 a.2 (c.drop a.1)=A3 0 0 c∧a.2<128^a.1) (fun a=>c.length-a.1) [14,5,12,13] [] (0,0) ⟨z10 _,rfl,by simp⟩ ?_
 rintro⟨i,v⟩ ⟨hi,hr,hv⟩ K hK;simp only at hi hr hv;refine aa ?_;refine AW.cond rfl (fun hc=> ?_) (fun hc=> ?_)
 ·have hlt:i<c.length:=by simpa using hc
  have hx:=hbb c[i] (List.getElem_mem hlt);have hget:=rl hlt;rw[z02 hlt]at hr;simp only[A3]at hr;generalize c[i]=x at hx hget hr;have hvlt:v<2^64:=by
   have:128^i≤128^9:=z05 (by omega) (by omega)
   omega
  have hp:128^ (i+1)=128^i*128:=z03 ..;have e9:((i:Int)==9)=decide (i=9):=by rw[z15];simp;omega
  have e1:decide ((x:Int)>1)=decide (1<x):=by rw[z15];simp;omega
  have e7:IntKind.i64.wrap (7*(i:Int))=((7*i:Nat):Int):=by rw[an (by omega) (by omega)];omega
  have hu:IntKind.u64.wrap ((x % 128:Nat):Int)=((x % 128:Nat):Int):=ay (by omega)
  have ei:IntKind.i64.wrap ((i:Int)+1)=((i+1:Nat):Int):=ai (by omega)
  by_cases h9:i=9∧1<x
  ·obtain⟨k1,k2⟩:=h9;rw[if_pos ⟨k1,k2⟩]at hr;have b1:decide (i=9)=true:=by simpa using k1
   have b2:decide (1<x)=true:=by simpa using k2
   refine ak ?_ (by simp only[go_sem,↓reduceIte,hget,e9,e1,b1,b2]<;>rfl)
   refine am rfl ?_;refine aa ?_;refine ac (.pv _ (.pv _ (.pv _ .nil))) ?_;rw[←hr];rfl
  ·rw[if_neg h9]at hr;have ea:ef .andNot .u8 (x:Int) 128=((x % 128:Nat):Int):=aeq hx;have hi9:i≤9:=by omega
   have hpw:128^i≤128^9:=z05 (by omega) hi9
   have hxs:x % 128*128^i<2^64:=by
    by_cases k:i=9
    ·subst k;have:x≤1:=by omega
     have h1:x % 128*128^9≤1*128^9:=z04 _ (by omega)
     omega
    ·have h2:128^i≤128^8:=z05 (by omega) (by omega)
     have h1:x % 128*128^i≤127*128^i:=z04 _ (by omega)
     omega
   have eo:=aib (a:=v) (x:=x % 128) (k:=i) hv hxs hvlt (by omega)
   refine Aj (T:= ?T) (fun hT=> ?_) ?_
   rotate_left
   ·by_cases k:i=9
    ·have b1:decide (i=9)=true:=by simpa using k
     refine ak ?_ (by simp only[go_sem,↓reduceIte,hget,e9,b1]<;>rfl)
     refine AW.cond rfl (fun hc2=>absurd ⟨k,by simp at hc2;omega⟩ h9) (fun hc2=> ?_)
     refine bq [5,6,7,12,13,14] [] ?_;exact hT ()
    ·have b1:decide (i=9)=false:=by simpa using k
     refine ak ?_ (by simp only[go_sem,↓reduceIte,hget,e9,b1]<;>rfl)
     refine ae rfl ?_;refine bq [5,6,7,12,13,14] [] ?_;exact hT ()
   refine aa ?_ (by simp only[go_sem,↓reduceIte,ea,e7,hu,eo]<;>rfl)
   refine AW.cond rfl (fun hc2=> ?_) (fun hc2=> ?_)
   ·have h128:128≤x:=by simp at hc2;omega
    rw[if_pos h128]at hr;refine aa ?_ (by simp only[go_sem,↓reduceIte,ei]<;>rfl)
    refine ah hK (i+1,v+x % 128*128^i) ⟨hlt,hr, ?_⟩ (by simp only;omega)
    simp only;rw[hp];have h1:x % 128*128^i≤127*128^i:=z04 _ (by omega)
    omega
   ·have h128:¬128≤x:=by simp at hc2;omega
    rw[if_neg h128]at hr;have hxm:x % 128=x:=z09 (by omega)
    have e0:((x:Int)==0)=decide (x=0):=by rw[z15];simp
    have ep:decide ((i:Int)>0)=decide (0<i):=by rw[z15];simp
    rw[hxm];by_cases k0:x=0
    ·have b1:decide (x=0)=true:=by simpa using k0
     refine ak ?_ (by simp only[go_sem,↓reduceIte,e0,b1]<;>rfl)
     refine AW.cond rfl (fun hc3=> ?_) (fun hc3=> ?_)
     ·have:0<i:=by simp at hc3;omega
      rw[if_pos ⟨k0,this⟩]at hr;refine aa ?_;refine ac (.pv _ (.pv _ (.pv _ .nil))) ?_;rw[←hr];rfl
     ·have:¬0<i:=by simp at hc3;omega
      rw[if_neg (fun h=>this h.2)]at hr
      refine aa ?_ (by simp only[go_sem,↓reduceIte,ei]<;>rfl)
      refine ac (.pv _ (.pv _ (.pv _ .nil))) ?_;rw[←hr]
    ·have b1:decide (x=0)=false:=by simpa using k0
     refine ak ?_ (by simp only[go_sem,↓reduceIte,e0,b1]<;>rfl)
     refine ae rfl ?_;rw[if_neg (fun h=>k0 h.1)]at hr
     refine aa ?_ (by simp only[go_sem,↓reduceIte,ei]<;>rfl)
     refine ac (.pv _ (.pv _ (.pv _ .nil))) ?_;rw[←hr]
 ·have hge:¬i<c.length:=by simpa using hc
  rw[List.drop_eq_nil_of_le (by omega),A3]at hr
  refine aa ?_;refine ac (.pv _ (.pv _ (.pv _ .nil))) ?_;rw[←hr];rfl
def xu(ws:List df):List PV:=ws.map wP
theorem ank(ws:List df):(xu ws).length=ws.length:=by simp[xu]
theorem qm{ws:List df}{i:Nat}(h:i<ws.length):(xu ws)[i]?=some (.int .u32 ((fg ws i).toNat:Int)):=by
 rw[vp h];simp[xu,wP,h]
theorem Ip(ws:List df)(x:df):xu ws++[.int .u32 (x.toNat:Int)]=xu (ws++[x]):=by simp[xu,wP]
theorem ajw(ws:List df):vg (xu ws)=true:=by
 induction ws with
 |nil=>rfl
 |cons a l ih=>simpa[xu,vg,PV.clo,wP]using ih
attribute [go_sem] ank ajw
theorem ahu(x:df)(n:Nat):(x>>>n)|||(x<<<(32-n))=n5 x n:=BitVec.or_comm _ _
theorem ac7(a b c d:df):a+b+c+d=d+c+b+a:=by
 rw[BitVec.add_comm (a+b+c) d,BitVec.add_comm (a+b) c,BitVec.add_comm a b,←BitVec.add_assoc,←BitVec.add_assoc]
theorem ao6(x:df)(a b:Nat):(x<<<a)<<<b=x<<<(a+b):=(BitVec.shiftLeft_add x a b).symm
theorem anl(a b c d:Nat):((BitVec.ofNat 32 a<<<24)|||(BitVec.ofNat 32 b<<<16))|||(BitVec.ofNat 32 c<<<8)|||BitVec.ofNat 32 d=wd4 [a,b,c,d]:=by
 have h0:((0:df)<<<32)=0#32:=by decide
 simp only[wd4,List.foldl_cons,List.foldl_nil,BitVec.shiftLeft_or_distrib,ao6,z20,h0,BitVec.zero_or]
theorem aHg(b:List Nat)(p:Nat)(h:p+4≤b.length):∃x y z w,b[p]?=some x∧b[p+1]?=some y∧b[p+2]?=some z∧b[p+3]?=some w∧(b.drop p).take 4=[x,y,z,w]:=by
 refine⟨b[p],b[p+1],b[p+2],b[p+3],z00 _,z00 _,z00 _,z00 _, ?_⟩;rw[z02 (by omega),z02 (i:=p+1) (by omega),z02 (i:=p+2) (by omega),z02 (i:=p+3) (by omega)]
 rfl
theorem mw{l:List Nat}{i x:Nat}(h:l[i]?=some x):(bytes l)[i]?=some (.int .u8 (x:Int)):=by
 unfold bytes;rw[z11,h];rfl
theorem aJg:IntKind.i64.wrap 56=56:=by decide
theorem aJf:IntKind.i64.wrap (-1)= -1:=by decide
theorem wu0:IntKind.u64.wrap 0=0:=by decide
theorem wu8:IntKind.u64.wrap 8=8:=by decide
theorem aJd:IntKind.u64.wrap 16=16:=by decide
theorem aJc:IntKind.u64.wrap 24=24:=by decide
theorem aJb:IntKind.u64.wrap 32=32:=by decide
theorem aJa:IntKind.u64.wrap 40=40:=by decide
theorem aI9:IntKind.u64.wrap 48=48:=by decide
theorem aI8:IntKind.u64.wrap 56=56:=by decide
def adl(l0 l1:List df)(i:Nat):List df:=(z36 i).map fun j=>fg l0 j+fg l1 j
theorem aka(l0 l1:List df)(i:Nat):adl l0 l1 i++[fg l0 i+fg l1 i]=adl l0 l1 (i+1):=by
 simp[adl,List.range_succ]
theorem aqm(l0 l1:List df)(i:Nat):(adl l0 l1 i).length=i:=by simp[adl]
theorem aIi(s r:S8):adl s.l r.l 8=(ak5 s r).l:=rfl
theorem ap8(s:S8)(p:List Nat)(j:Nat)(h:64*(j+1)≤p.length):fb s (p.take (64*(j+1)))=thr (fb s (p.take (64*j))) ((p.drop (64*j)).take 64):=by
 have e:p.take (64*(j+1))=p.take (64*j)++(p.drop (64*j)).take 64:=by
  rw[show 64*(j+1)=64*j+64 by omega,List.take_add]
 have hl:((p.drop (64*j)).take 64).length=64:=by simp;omega
 rw[e,Of j _ _ _ (by simp;omega),Yv (l:=(p.drop (64*j)).take 64) (by omega),z21 (l:=(p.drop (64*j)).take 64) (by omega),Hx (by rw[List.length_drop];omega)]
theorem aCc(x:df):∀y∈Qx x,y<256:=by
 intro y hy;simp only[Qx,z19,List.not_mem_nil,or_false]at hy;rcases hy with rfl|rfl|rfl|rfl<;>exact z37 _ (by decide)
theorem H7(m:List Nat):∀y∈Gi m,y<256:=by
 intro y hy;simp only[Gi,by8,List.mem_flatMap]at hy;obtain⟨x,_,h⟩:=hy;exact aCc x y h
def kof(key:List Nat):List Nat:=if 64<key.length then Gi key else key
def D8(key:List Nat):List Nat:=kof key++z29 (64-(kof key).length) 0
def u9(k:List Nat)(x:Nat):List Nat:=k.map (· ^^^x)
def pz(key m:List Nat):List Nat:=Gi (u9 (D8 key) 92++Gi (u9 (D8 key) 54++m))
theorem Zz(key:List Nat):(kof key).length≤64:=by
 unfold kof;split
 ·rw[qo];decide
 ·omega
theorem aAy{key:List Nat}(h:∀x∈key,x<256):∀x∈kof key,x<256:=by
 unfold kof;split
 ·exact H7 key
 ·exact h
theorem I5(key:List Nat):(D8 key).length=64:=by
 have:=Zz key;simp[D8];omega
theorem kl(k m:List Nat):(pz k m).length=32:=qo _
theorem Pa(k m:List Nat):∀y∈pz k m,y<256:=H7 _
theorem Q9(k:List Nat)(x:Nat):(u9 k x).length=k.length:=by simp[u9]
theorem Bn{a b:Nat}(ha:a<2^8)(hb:b<2^8):ef .xor .u8 (a:Int) (b:Int)=((a^^^b:Nat):Int):=by
 have h:=Nat.xor_lt_two_pow ha hb;have e1:(BitVec.ofNat 8 a^^^BitVec.ofNat 8 b).toNat=a^^^b:=by
  rw[BitVec.toNat_xor,BitVec.toNat_ofNat,BitVec.toNat_ofNat,z09 ha,z09 hb]
 have e2:ef .xor .u8 (a:Int) (b:Int)=IntKind.u8.wrap ((BitVec.ofInt 8 (a:Int)^^^BitVec.ofInt 8 (b:Int)).toNat:Int):=rfl;rw[e2,rh,rh,e1];exact fi h
def lsP(ls:List (List Nat)):List PV:=ls.map fun b=> .sl 1 (bytes b)
theorem aps(ls:List (List Nat)):(lsP ls).length=ls.length:=by simp[lsP]
attribute [go_sem] aps
def hpc(key info:List Nat):Nat→List Nat
 |0=> []
 |i+1=>pz key (hpc key info i++info++[(i+1) % 256])
def D5(n i:Nat):Nat:=min n (64*((i+63)/64))
theorem avj(n:Nat):D5 n 0=0:=by unfold D5;simp
theorem ans{n i:Nat}(h:i % 64=0)(hi:i≤n):D5 n i=i:=by unfold D5;omega
theorem abc{n i:Nat}(h:i % 64=0)(hi:i<n):D5 n (i+1)=min n (i+64):=by unfold D5;omega
theorem abb{n i:Nat}(h:i % 64≠0):D5 n (i+1)=D5 n i:=by unfold D5;omega
theorem ahb(n:Nat):D5 n n=n:=by unfold D5;omega
theorem az0(i:Nat):Int.tdiv (i:Int) 64=((i/64:Nat):Int):=by rw[Int.tdiv_eq_ediv_of_nonneg (by omega)];rfl
theorem awm(i:Nat):Int.tmod (i:Int) 64=((i % 64:Nat):Int):=by rw[Int.tmod_eq_emod_of_nonneg (by omega)];rfl
theorem Bp{b:List Nat}{i:Nat}(h:i<b.length):(bytes b)[i]?=some (.int .u8 ((b.getD i 0:Nat):Int)):=by
 unfold bytes;rw[z11,z18,z00 h];rfl
theorem To(key:List Nat)(c:Nat)(nonce b:List Nat)(hk:key.length=32)(hkb:∀x∈key,x<256)(hn:nonce.length=12)(hnb:∀x∈nonce,x<256)(hc:c<1000)(hl:b.length≤2^36)(hb:∀x∈b,x<256):
  Fn Tryz.prog 100 [] [.pv (.sl 1 (bytes key)),.pv (.int .u32 c),.pv (.sl 1 (bytes nonce)),.pv (.sl 1 (bytes b))] (fun rs H'=>rs=[.own 5 (bytes (Qu key nonce c b b.length)),.pv (.int .i64 0)]∧H'=[]):=by
 refine Fn.ob Tryz.f100 80 [.tmp 8,.tmp 9] fun C=> ?_
 have hr:aw=140737488355328:=rfl;have d1:((key.length:Int) !=32)=false:=by rw[bne_eq_false_iff_eq];omega
 have d2:((nonce.length:Int) !=12)=false:=by rw[bne_eq_false_iff_eq];omega
 have ec:IntKind.u64.wrap (c:Int)=(c:Int):=ay (by omega)
 have h64:((64:Int)=0)=False:=by simp
 refine ak ?_ (by simp only[go_sem,↓reduceIte,d1,d2]<;>rfl)
 refine ae rfl ?_;refine aa ?_ (by simp only[go_sem,↓reduceIte,ec]<;>rfl)
 refine aq (fun i:Nat=>⟨80,[(12,.pv (.int .i64 i)),(0,.pv (.sl 1 (bytes key))),(2,.pv (.sl 1 (bytes nonce))),(3,.pv (.sl 1 (bytes b))),(11,.pv (.int .u64 c)),(10,.own 5 (bytes (Qu key nonce c b (D5 b.length i))))],[]⟩) (fun i=>i≤b.length) (fun i=>b.length-i) [12,0,2,3,11,10] [] 0 (z10 _) ?_ (hs:=by simp only[go_sem,↓reduceIte,avj]<;>rfl)
 rintro i hi K hK;refine aa ?_;refine AW.cond rfl (fun hc=> ?_) (fun hc=> ?_)
 ·have hlt:i<b.length:=by have:=of_decide_eq_true hc;omega
  have ei:IntKind.i64.wrap ((i:Int)+1)=((i+1:Nat):Int):=ai (by omega)
  have e1:=az0 i;have e2:=awm i;have e3:IntKind.i64.wrap ((i/64:Nat):Int)=((i/64:Nat):Int):=au (by omega)
  have e4:IntKind.i64.wrap ((i % 64:Nat):Int)=((i % 64:Nat):Int):=au (by omega)
  have e5:IntKind.u64.wrap ((i/64:Nat):Int)=((i/64:Nat):Int):=ay (by omega)
  have e6:IntKind.u64.wrap ((c:Int)+((i/64:Nat):Int))=((c+i/64:Nat):Int):=ay (n:=c+i/64) (by omega)
  have d3:decide (((c+i/64:Nat):Int)>4294967295)=false:=decide_eq_false (by omega)
  have d3':decide (4294967295<c+i/64)=false:=decide_eq_false (by omega)
  refine aa ?_ (by simp only[go_sem,↓reduceIte,h64,e1,e3,e5,e6,d3,d3']<;>rfl)
  refine ae rfl ?_;by_cases hm:i % 64=0
  ·have d4:((((i % 64:Nat)):Int)==0)=true:=by rw[hm];rfl
   have d4':(i % 64==0)=true:=by rw[hm];rfl
   have e7:=Ej (c+i/64);have hblk:=Ki key (BitVec.ofNat 32 (c+i/64)) nonce hk hkb hn hnb;have hbl:=Ng key (BitVec.ofNat 32 (c+i/64)) nonce;have hbb:=Bw key (BitVec.ofNat 32 (c+i/64)) nonce;have hX:∀j,j<64→ccX key nonce c b (i+j)=b.getD (i+j) 0^^^ (yh key (BitVec.ofNat 32 (c+i/64)) nonce).getD j 0:=fun j hj=>by
    unfold ccX;rw[show(i+j)/64=i/64 by omega,show(i+j) % 64=j by omega]
   unfold wP at hblk;generalize yh key (BitVec.ofNat 32 (c+i/64)) nonce=kk at*;refine aa ?_ (by simp only[go_sem,↓reduceIte,h64,e2,e4,d4,d4']<;>rfl)
   refine am rfl ?_;refine aa ?_ (by simp only[go_sem,↓reduceIte,h64,e1,e3,e5,e6,e7]<;>rfl)
   refine ap hblk (.pv _ (.pv _ (.pv _ .nil))) ?_;refine aa ?_;refine aq (fun j:Nat=>⟨80,[(15,.pv (.int .i64 j)),(12,.pv (.int .i64 i)),(0,.pv (.sl 1 (bytes key))),(2,.pv (.sl 1 (bytes nonce))),(3,.pv (.sl 1 (bytes b))),(11,.pv (.int .u64 c)),(13,.pv (.sl 1 (bytes kk))),(10,.own 5 (bytes (Qu key nonce c b (i+j))))],[]⟩) (fun j=>j≤64∧i+j≤b.length) (fun j=>64-j) [15,12,0,2,3,11,13,10] [] 0 ⟨z10 _,hi⟩ ?_ (hs:=by simp only[go_sem,↓reduceIte,ans hm hi]<;>rfl)
   rintro j ⟨hj,hij⟩ K2 hK2;have ej:IntKind.i64.wrap ((j:Int)+1)=((j+1:Nat):Int):=ai (by omega)
   have eij:IntKind.i64.wrap ((i:Int)+(j:Int))=((i+j:Nat):Int):=au (n:=i+j) (by omega)
   by_cases hgo:j<64∧i+j<b.length
   ·obtain⟨hj64,hijl⟩:=hgo;have d5:decide ((j:Int)<64)=true:=decide_eq_true (by omega)
    have d5':decide (j<64)=true:=decide_eq_true hj64;have d6:decide (((i+j:Nat):Int)<(b.length:Int))=true:=decide_eq_true (by omega)
    have d6':decide (i+j<b.length)=true:=decide_eq_true hijl;have gb:=Bp hijl;have gk:=Bp (b:=kk) (i:=j) (by omega)
    have hx:=Bn (a:=b.getD (i+j) 0) (b:=kk.getD j 0) (fj hb _) (fj hbb _);have hs:bytes (Qu key nonce c b (i+j))++[.int .u8 ((b.getD (i+j) 0^^^kk.getD j 0:Nat):Int)]=bytes (Qu key nonce c b (i+(j+1))):=by
     rw[←z33,aj1,hX j hj64,←bx];rfl
    have hsl:=Po key nonce c b (i+j);have r1:(i+j+1≤aw)=True:=eq_true (by omega)
    refine ak ?_ (by simp only[go_sem,↓reduceIte,d5,d5',eij,d6,d6']<;>rfl)
    refine am rfl ?_;refine aa ?_;refine cr ?_;refine bu [[],[],[],[],[67,68],[66,69],[70],[],[],[72,73],[74],[71,75]] ?_ (by simp only[go_sem,↓reduceIte,eij,gb,gk,hx]<;>rfl)
    refine CK.list [76] ?_;refine CK.done (M:=13) 2 mixed ?_;refine bp (fuel:=0) (listed':=z17 15 true) [13,14] ?_ (by decide+kernel)
    refine ak ?_ (by simp only[go_sem,↓reduceIte,hs,hsl,r1,z01,z13,z08]<;>rfl)
    refine a8 (by decide+kernel) ?_
    refine aa ?_ (by simp only[go_sem,↓reduceIte,ej]<;>rfl)
    exact ah hK2 (j+1) ⟨by omega,by omega⟩ (by omega)
   ·have hfin:i+j=D5 b.length (i+1):=by rw[abc hm hlt];omega
    refine Aj (T:= ?Te) (fun hT=> ?_) ?_;rotate_left
    ·by_cases hj64:j<64
     ·have d5:decide ((j:Int)<64)=true:=decide_eq_true (by omega)
      have d5':decide (j<64)=true:=decide_eq_true hj64;have d6:decide (((i+j:Nat):Int)<(b.length:Int))=false:=decide_eq_false (by omega)
      have d6':decide (i+j<b.length)=false:=decide_eq_false (by omega)
      refine ak ?_ (by simp only[go_sem,↓reduceIte,d5,d5',eij,d6,d6']<;>rfl)
      refine bq [62,12,0,2,3,11,10] [] (s':=⟨80,[(62,.pv (.bool false)),(12,.pv (.int .i64 i)),(0,.pv (.sl 1 (bytes key))),(2,.pv (.sl 1 (bytes nonce))),(3,.pv (.sl 1 (bytes b))),(11,.pv (.int .u64 c)),(10,.own 5 (bytes (Qu key nonce c b (i+j))))],[]⟩) ?_;exact hT ()
     ·have d5:decide ((j:Int)<64)=false:=decide_eq_false (by omega)
      have d5':decide (j<64)=false:=decide_eq_false hj64;refine ak ?_ (by simp only[go_sem,↓reduceIte,d5,d5']<;>rfl)
      refine bq [62,12,0,2,3,11,10] [] (s':=⟨80,[(62,.pv (.bool false)),(12,.pv (.int .i64 i)),(0,.pv (.sl 1 (bytes key))),(2,.pv (.sl 1 (bytes nonce))),(3,.pv (.sl 1 (bytes b))),(11,.pv (.int .u64 c)),(10,.own 5 (bytes (Qu key nonce c b (i+j))))],[]⟩) ?_;exact hT ()
    refine ae rfl ?_;refine aa ?_ (by simp only[go_sem,↓reduceIte,ei]<;>rfl)
    exact ah hK (i+1) (by omega) (by omega) (hs:=by simp only[go_sem,↓reduceIte,hfin]<;>rfl)
  ·have d4:((((i % 64:Nat)):Int)==0)=false:=by rw[beq_eq_false_iff_ne];omega
   have d4':(i % 64==0)=false:=by rw[beq_eq_false_iff_ne];omega
   have hsm:=abb (n:=b.length) hm;refine aa ?_ (by simp only[go_sem,↓reduceIte,h64,e2,e4,d4,d4']<;>rfl)
   refine ae rfl ?_;refine aa ?_ (by simp only[go_sem,↓reduceIte,ei]<;>rfl)
   exact ah hK (i+1) (by omega) (by omega) (hs:=by simp only[go_sem,↓reduceIte,hsm]<;>rfl)
 have hge:i=b.length:=by have:=of_decide_eq_false hc;omega
 subst hge;rw[ahb];refine aa ?_;refine ac (.move rfl (.pv _ .nil)) rfl
def gw:List Nat→Nat
 |[]=>0
 |x::r=>x+256*gw r
def fk(v:Nat):Nat→List Nat
 |0=> []
 |n+1=>v % 256::fk (v/256) n
theorem ff:∀(n v:Nat),(fk v n).length=n
 |0,v=>rfl
 |n+1,v=>by simp[fk,ff n]
theorem i6:∀(n v:Nat),∀x∈fk v n,x<256
 |0,v=>by simp[fk]
 |n+1,v=>by
  intro x hx;simp only[fk,z19]at hx;rcases hx with h|h
  ·omega
  ·exact i6 n _ x h
theorem oo:∀(a b:List Nat),gw (a++b)=gw a+256^a.length*gw b
 |[],b=>by simp[gw]
 |x::a,b=>by
  simp only[List.cons_append,gw,oo a b,z01,z03];rw[Nat.mul_add,z33,z12 (256^a.length) 256,Nat.mul_assoc]
theorem A8:∀(l:List Nat),(∀x∈l,x<256)→gw l<256^l.length
 |[],h=>by simp[gw]
 |x::r,h=>by
  have h1:=h x (by simp)
  have h2:=A8 r (fun y hy=>h y (by simp[hy]))
  simp only[gw,z01,z03];omega
theorem O8:∀(l:List Nat),(∀x∈l,x<256)→fk (gw l) l.length=l
 |[],h=>rfl
 |x::r,h=>by
  have h1:=h x (by simp)
  have h2:=O8 r (fun y hy=>h y (by simp[hy]))
  simp only[gw,z01,fk];rw[show(x+256*gw r) % 256=x by omega,show(x+256*gw r)/256=gw r by omega,h2]
theorem mi:∀(n v:Nat),gw (fk v n)=v % 256^n
 |0,v=>by simp[fk,gw,Nat.mod_one]
 |n+1,v=>by
  simp only[fk,gw,mi n];rw[z03,z12,z12 (256^n) 256,z35];omega
theorem Db{l:List Nat}{v n:Nat}(hl:l.length=n)(hb:∀x∈l,x<256)(hv:gw l=v):l=fk v n:=by
 subst hl;subst hv;exact(O8 l hb).symm
theorem O7(v n:Nat):fk (v % 256^n) n=fk v n:=by
 have h:=O8 (fk v n) (i6 n v);rw[mi,ff]at h;exact h
theorem R6:∀n,gw (z29 n 0)=0
 |0=>rfl
 |n+1=>by simp[List.replicate_succ,gw,R6 n]
theorem Dc(v n:Nat):fk v (n+1)=fk v n++[v/256^n % 256]:=by
 have h:fk v n++[v/256^n % 256]=fk (v % 256^ (n+1)) (n+1):=by
  refine Db ?_ ?_ ?_
  ·rw[z07,ff];rfl
  ·intro x hx;rcases List.mem_append.1 hx with h|h
   ·exact i6 n v x h
   ·simp at h;omega
  ·rw[oo,mi,ff,z03,z35];simp only[gw,Nat.mul_zero,Nat.add_zero]
 rw[h,O7]
theorem R7(v:Nat):∀(n k:Nat),k≤n→(fk v n).take k=fk v k
 |n,0,h=>by simp[fk]
 |0,k+1,h=>by omega
 |n+1,k+1,h=>by simp only[fk,List.take_succ_cons];rw[R7 _ n k (by omega)]
theorem Cs(v:Nat):∀(n i:Nat),i<n→(fk v n)[i]?=some (v/256^i % 256)
 |0,i,h=>by omega
 |n+1,0,h=>by simp[fk]
 |n+1,i+1,h=>by
  simp only[fk,List.getElem?_cons_succ];rw[Cs _ n i (by omega),Nat.div_div_eq_div_mul,z03,z12 (256^i) 256]
def dn(v:Nat):Nat:=if h:v=0 then 0 else dn (v/256)+1
termination_by v
decreasing_by omega
theorem Pi:dn 0=0:=by unfold dn;simp
theorem td(v:Nat):v<256^dn v:=by
 induction v using z28 with
 |_ v ih=>
  by_cases h:v=0
  ·subst h;rw[Pi];decide
  ·have:=ih (v/256) (by omega)
   rw[dn,dif_neg h,z03];omega
theorem Hz{v:Nat}:∀ {n:Nat},v<256^n→dn v≤n
 |0,h=>by
    rw[Nat.pow_zero]at h;obtain rfl:v=0:=by omega
    rw[Pi];exact Nat.le_refl _
 |n+1,h=>by
  rw[dn];split
  ·exact z10 _
  ·have:=Hz (v:=v/256) (n:=n) (by rw[z03]at h;omega)
   omega
theorem Yz{v:Nat}:∀ {n:Nat},256^n≤v→n<dn v
 |n,h=>by
  refine Nat.lt_of_not_le (fun hc=> ?_)
  have h1:=td v;have h2:256^dn v≤256^n:=z05 (by omega) hc
  omega
def nf(v:Nat):List Nat:=fk v (dn v)
theorem db(v:Nat):(nf v).length=dn v:=ff _ _
theorem Cq(v:Nat):∀x∈nf v,x<256:=i6 _ _
theorem Vr(v:Nat):gw (nf v)=v:=by unfold nf;rw[mi,z09 (td v)]
theorem apr:nf 0=[]:=by unfold nf;rw[Pi];rfl
theorem aq5{l:List Nat}(hb:∀x∈l,x<256)(h:l=[]∨256^ (l.length-1)≤gw l):l=nf (gw l):=by
 unfold nf;refine Db ?_ hb rfl;have h1:=Hz (A8 l hb);rcases h with h|h
 ·subst h;simp at h1;simp[h1]
 ·have:=Yz h;omega
theorem If{v i:Nat}(h:i<dn v):(nf v)[i]?=some (v/256^i % 256):=Cs v _ _ h
theorem Vp{v n:Nat}(h:dn v=n+1):256^n≤v:=by
 refine Nat.le_of_not_lt (fun hc=> ?_)
 have:=Hz hc;omega
def jj:Nat:=2^130-5
def vk(key:List Nat):List Nat:=(z36 16).map (fun i=>if i % 4=3 then key.getD i 0 % 16 else if i % 4=0∧i≠0 then key.getD i 0-key.getD i 0 % 4 else key.getD i 0)
def pR(key:List Nat):Nat:=gw (vk key)
def ar0(b:List Nat)(i:Nat):Nat:=gw ((b.drop (16*i)).take 16++[1])
def py(r:Nat)(b:List Nat):Nat→Nat
 |0=>0
 |i+1=>(py r b i+ar0 b i)*r % jj
def aay(key b:List Nat):List Nat:=fk (py (pR key) b ((b.length+15)/16)+gw (key.drop 16)) 16
theorem ait(key b:List Nat):(aay key b).length=16:=ff _ _
theorem adb(key b:List Nat):∀x∈aay key b,x<256:=i6 _ _
theorem Zp(r:Nat)(b:List Nat):∀i,py r b i<jj
 |0=>by unfold py jj;decide
 |i+1=>by unfold py;exact z37 _ (by unfold jj;decide)
theorem Xw(key:List Nat):(vk key).length=16:=by simp[vk]
theorem Uq{key:List Nat}(h:∀x∈key,x<256):∀x∈vk key,x<256:=by
 intro x hx;obtain⟨i,_,rfl⟩:=List.mem_map.1 hx;have:=fj h i;split
 ·omega
 ·split<;>omega
end Go.Ck
