
/- Several texts in one: WalK, RwW, RwX. -/
import Derived.Test.YtmemlkmnhcealaaGreatMrg28
set_option linter.unusedVariables false
set_option maxRecDepth 100000
set_option maxHeartbeats 8000000
namespace Go.Proofs.YtmemlkmnhcealaaGreat
open Value renaming int→O,pointer→Zs,slice→Zt
open IntKind renaming i64→Z
open Ending renaming returned→Zu
open Obj renaming cells→Zv
open Go.Proofs.Tryz renaming prog→Zw
open Go.RowKit
open Lib(hid)
variable {A:Adr} {ls:List (List UInt8)} {X:List OP} {B:Nat} {T:Nat->Nat} {S:Nat->Prop} {lg:Option Nat} {R:RS} {v vw:Value} {w w':World}
def logTo(s:BaySt)(k size head:Nat)(ls:List (List UInt8)):Nat->BaySt
 |0=>s
 |n+1=>(logTo s k size head ls n).put k (2+(head+n)%size) (ls.getD n [])
def loggedS(s:BaySt)(k size head:Nat)(ls:List (List UInt8)):BaySt:=(logTo s k size head ls (ls.length-1)).dried k
theorem Zh1{s:BaySt}{G:Nat->Prop}{sz:Nat->Nat}(h:Fit s G sz)(k size head:Nat)(ls:List (List UInt8))(hk:k<s.n)(hg:G k)(hs:2+size≤sz k)(h0:0<size)(hl:∀l∈ls,l.length=128):∀n,n≤ls.length->Zeroed s (logTo s k size head ls n) G sz k n
 |0,_=>⟨h,rfl,rfl,by show s.cnt 1=s.cnt 1+((0:Nat):Int);omega,rfl,fun m hm=>hm,fun q _=>rfl⟩
 |n+1,hn=>by
  have ih:=Zh1 h k size head ls hk hg hs h0 hl n (by omega);have hm:(head+n)%size<size:=Nat.mod_lt _ h0;obtain⟨h1,h2⟩:=Zdd ih.fit k (2+(head+n)%size) (ls.getD n []) (by rw[ih.n'];exact hk) hg (by omega) (by rw[Zi,Zh (by omega)];exact hl _ (Zj _));show Zeroed s ((logTo s k size head ls n).put k (2+(head+n)%size) (ls.getD n [])) G sz k (n+1)
  exact⟨h1,h2.n.trans ih.n',h2.c0.trans ih.c0,by rw[h2.c1,ih.c1];push_cast;omega,h2.c2.trans ih.c2,fun m hm=>by have:=h2.small _ (ih.small m hm);rwa [Nat.add_assoc]at this,fun q hq=>(h2.pos q hq).trans (ih.pos q hq)⟩
theorem SecRow.keep(h:SecRow w B v ls)(hc:Chg S w w')(hS:∀q,S q->q<B):SecRow w' B v ls:=by
 obtain⟨us,h1,h2,h3⟩:=h;exact⟨us,h1,Zad h2 hc (fun g hg e=>by have:=hS g e;have:=(h2.lt g hg).1;omega),fun j h h'=>Zad (h3 j h h') hc (fun g hg e=>by have:=hS g e;have:=((h3 j h h').lt g hg).1;omega)⟩
theorem SecRow.cell(h:SecRow w B v ls)(h0:0<ls.length):∃g c,v=Zt (some ⟨g,0,none⟩) ls.length c/\ls.length≤c/\∀j (hj:j<ls.length),∃a uc,w.cell? ⟨g,j,none⟩=some (Zt (some ⟨a,0,none⟩) 128 uc)/\w.ownsRow B 5 1 (Zt (some ⟨a,0,none⟩) 128 uc) 128 (ucells ls[j]):=by
 obtain⟨us,h1,h2,h3⟩:=h;obtain⟨g,c,hv⟩:=Zcd h2 h0;subst hv;refine⟨g,c,rfl,?_,fun j hj=> ?_⟩
 ·rcases h2.2 with ⟨h,-⟩|⟨g',cap,cur,e,-,-,hc,-⟩
  ·cases h
  ·simp only [Zn]at e
   rw[e.2.2];exact hc
 ·have h4:=h3 j hj (by omega)
  obtain⟨a,uc,e⟩:=Zcd h4 (by decide);refine⟨a,uc,?_,by rw[<-e];exact h4⟩;rw[<-e];obtain⟨-,h5⟩:=h2;rcases h5 with ⟨h,-⟩|⟨g',cap,cur,e',-,hg,hc,-,hs,ht⟩
  ·cases h
  ·simp only [Zn,Zg,Addr.mk.injEq]at e'
   obtain⟨⟨rfl,-,-⟩,-,-⟩:=e';have e2:w.cell? ⟨g,j,none⟩=cur[j]?:=by
    unfold World.cell?;simp[hg]
   rw[e2];have e3:us[j]?=some (us[j]'(by omega)):=Zh _;rw[<-e3];have e4:(List.take (ls.length*1) cur.toList)[j]?=us[j]?:=congrArg (fun l=>l[j]?) ht;rw[List.getElem?_take_of_lt (by omega)]at e4;simpa using e4
theorem Zhr(ep seq:Nat)(ps:List Pat)(h:∀p∈ps,p.d.length=128):∀n,n≤ps.length->∀l∈secsTo ep seq ps n,l.length=128
 |0,_,l,hl=>by cases hl
 |n+1,hn,l,hl=>by
  have e:secsTo ep seq ps (n+1)=secsTo ep seq ps n++ [headSec ep seq ps n,escRow (patN ps n).d]:=rfl;rw[e,List.mem_append]at hl;rcases hl with hl|hl
  ·exact Zhr ep seq ps h n (by omega) l hl
  ·simp only [List.mem_cons,List.not_mem_nil,or_false]at hl
   rcases hl with rfl|rfl
   ·exact Zbu _ _ _ _
   ·have hd:(patN ps n).d.length=128:=by rw[Zng ps n (by omega)];exact h _ (Zj _)
    rw[Zfq _ (by omega),hd]
theorem Zc5(ep seq:Nat)(ps:List Pat)(h:Loggable ps):∀l∈txnSecs ep seq ps,l.length=128:=fun l hl=>by
 have e:txnSecs ep seq ps=secsTo ep seq ps ps.length++ [sealSec ep seq ps]:=rfl;rw[e,List.mem_append]at hl;rcases hl with hl|hl
 ·exact Zhr ep seq ps (fun p hp=>(h.each p hp).2.2.2.2) ps.length (Za _) l hl
 ·simp only [List.mem_singleton]at hl
  subst hl;exact Zen _ _ _
theorem Zv2{b:Nat}{s:BaySt}(h:BayAt w T b s)(slot ep rp next wp:Nat)(sure:Bool)(lg:Option Nat)(hw:At w wp (walCells b slot ep rp next sure lg 0) 148)(tw:T wp=0)(size tail used:Nat)(hr:RingAt w rp size tail used)(tr:T rp=0)(h0:0<size)(h2:size≤2048)(h3:tail<size)(h4:used≤size)
  (he:ep≤4611686018427387904) (hn1:1≤next) (hn2:next≤4611686018427387904) (v:Value) (ps:List Pat) (hv:PSeg w v ps) (hp:Loggable ps) (hroom:2*ps.length+1≤size-used) {G:Nat->Prop} {sz:Nat->Nat} (hf:Fit s G sz) (hsl:slot<s.n) (hg:G slot) (hsz:2+size≤sz slot)
  (hcnt:s.cnt 1≤999999000000) (hcnt2:s.cnt 2≤999999000000) (hm:s.small 900000):
  Calls Zw 105 #[Zs (some ⟨wp,0,none⟩),v] w fun e w'=>e=Zu (.int .u16 0)/\∃T' lp u,BayAt w' T' b (loggedS s slot size ((tail+used)%size) (txnSecs ep next ps))/\(∀q,q<w.heap.size->T' q=T q)/\Chg (fun q=>T q≠0\/q=wp) w w'/\
   At w' wp (walCells b slot ep rp next true (some lp) 0) 148/\At w' lp #[O Z (2*ps.length+1:Nat),u] 228/\T' lp=0/\Seg w' u ((txnSecs ep next ps).getD (2*ps.length) [])/\NotBay T' u/\w.heap.size≤lp/\(∀a n c,u=Zt (some a) n c->w.heap.size≤a.block):=by
 obtain⟨va,vc,rfl⟩:=hv.shape;have hlt:=hw.lt;have hrl:=hr.lt;have hrw:rp≠wp:=Zaw hr hw (by decide);have hps:=hp.some;have hfew:=hp.few;have HSC:Hid (∀W,Below w.heap.size w W->Calls Zw 147 #[.int .u64 ep,.agg #[.int .u64 next,Zt va ps.length vc]] W fun e w'=>∃v',e=Zu (.tuple #[v',.int .u16 0])/\SecRow w' W.heap.size v' (txnSecs ep next ps)/\Below W.heap.size W w'):=fun W hb=>Zk2 ep next _ ps W he hn1 hn2 (hv.below hb) hp
 have HSS:Hid (∀W,Below w.heap.size w W->W.cell? ⟨wp,2,none⟩=some (.int .u64 ep)/\W.cell? ⟨wp,4,none⟩=some (.int .u64 next)):=fun W hb=>⟨(hb.cell (p:=⟨wp,2,none⟩) hlt).trans (hw.cell 2),(hb.cell (p:=⟨wp,4,none⟩) hlt).trans (hw.cell 4)⟩
 have c7:w.cell? ⟨wp,7,none⟩=some (.int .u16 0):=hw.cell 7;have HB:=hid h;have HW:=hid hw;have HR:=hid hr;have HF:=hid hf;have HPQ:=hid hp;have HC1:=hid hcnt;have HC2:=hid hcnt2;have HM:=hid hm;have HLA:Hid (∀l∈txnSecs ep next ps,l.length=128):=Zc5 ep next ps HPQ.out;obtain⟨N,hN⟩:∃N,N=2*ps.length+1:=⟨_,rfl⟩;have HLN:Hid ((txnSecs ep next ps).length=N):=by rw[hN];exact Zb9 _ _ _
 have HN1:Hid (N=2*ps.length+1):=hN;have hN1:3≤N:=by omega
 have hN2:N≤2047:=by omega
 have hN3:N≤size-used:=by omega
 have hN4:(N:Int)≤size:=by omega
 have hN5:(N:Int)≤(size-used:Nat):=by omega
 generalize hls:txnSecs ep next ps=ls at*;have e1N:N-1+1=N:=by omega
 clear hN hls hps hfew hroom;have hnw:next≤4611686018427387904:=hn2;clear h hw hr hv hf hp hcnt hcnt2 hm;go_enter Tryz.func105,Tryz.ntmps105;go_wp2;go_region_held3 (fun W=>W.cell? ⟨wp,2,none⟩=some (.int .u64 ep)/\W.cell? ⟨wp,4,none⟩=some (.int .u64 next))
  (first|exact HSS.out _ (Zb _ _)|exact HSS.out _ (Zb _ _).drew|exact HSS.out _ HB1.out)
  (first
   |(go_at_call 147;(with_reducible refine(HSC.out _ (Zb _ _).drew).mono ?_);rintro e w1 ⟨v1,rfl,hs1,hb1⟩;have HB1:Hid (Below w.heap.size w w1):=(Zb _ _).drew.trans hb1;have HS1:Hid (SecRow w1 w.heap.size v1 ls):=hs1;obtain⟨g1,c1',hv1,hcap,-⟩:=HS1.out.cell (by rw[HLN.out];omega);rw[HLN.out]at hv1 hcap;subst hv1;clear hs1 hb1))
 have d3:w1.cell? ⟨wp,3,none⟩=some (Zs (some ⟨rp,0,none⟩)):=(HW.out.below HB1.out hlt).cell 3;have HSZ:=hid (Zjy rp size tail used w1 (HR.out.below HB1.out hrl));have HFR:=hid (Zoz rp size tail used w1 (HR.out.below HB1.out hrl) h2 h4);clear HSC HSS c7;have hle1:¬((size:Int)<(N:Int)):=by omega
 have hle2:¬(((size-used:Nat):Int)<(N:Int)):=by omega
 have hle3:decide (size-used<N)=false:=by simp;omega
 have hwr:IntKind.i64.wrap ((N:Int)-1)=((N-1:Nat):Int):=by rw[IntKind.wrap_i64];omega
 go_wp2_with (first
  |(go_at_call 143;(with_reducible refine HSZ.out.mono ?_);rintro e w2 ⟨rfl,hw2⟩;subst hw2)
  |(go_at_call 148;(with_reducible refine HFR.out.mono ?_);rintro e w3 ⟨rfl,hb3⟩;have HB3:Hid (Below w.heap.size w w3):=HB1.out.trans (hb3.mono HB1.out.size);have HS3:=hid (HS1.out.below hb3);clear hb3))
 have hkeep:∀q,(T q≠0\/q=wp)->q<w.heap.size:=fun q hq=>by
  rcases hq with hq|hq
  ·apply Classical.byContradiction
   intro hn;exact hq (Zae HB.out q (by omega))
  ·omega
 have HKEEP:=hid hkeep;clear hkeep;obtain⟨hd,hhd⟩:∃hd,hd=(tail+used)%size:=⟨_,rfl⟩;have HHD:=hid hhd;clear hhd;have HLT:Hid (∀n,n≤N->Zeroed s (logTo s slot size hd ls n) G sz slot n):=fun n hn=>Zh1 HF.out slot size hd ls hsl hg hsz h0 HLA.out n (by rw[HLN.out];exact hn)
 have HW3:Hid (WalPost w3 T b (logTo s slot size hd ls 0) wp (walCells b slot ep rp next sure lg 0) w3):=⟨T,HB.out.below HB3.out,fun _ _=>rfl,Zl _ _,HW.out.below HB3.out hlt⟩;have hlt3:wp<w3.heap.size:=Zd hlt HB3.out.size;have hsz3:=HB3.out.size;have HR3:=hid (HR.out.below HB3.out hrl);clear HSZ HFR d3 hle1 hle2 hwr;have HCELL:Hid (∀W,Chg (fun q=>T q≠0\/q=wp) w3 W->∀j,j<N->∃a uc,W.cell? ⟨g1,j,none⟩=some (Zt (some ⟨a,0,none⟩) 128 uc)/\W.ownsRow w.heap.size 5 1 (Zt (some ⟨a,0,none⟩) 128 uc) 128 (ucells (ls.getD j []))/\T a=0/\w.heap.size≤a/\a<w3.heap.size):=fun W k3 j hj=>by
  obtain⟨g',cc,hgc,-,hcell⟩:=HS3.out.cell (by rw[HLN.out];omega);simp only [Zn,Zg,Addr.mk.injEq]at hgc;obtain⟨⟨rfl,-,-⟩,-,-⟩:=hgc;obtain⟨a,uc,d1,hown⟩:=hcell j (by rw[HLN.out];omega);have hlo:w.heap.size≤a/\a<w3.heap.size:=hown.lt a rfl;have hg1:w.heap.size≤g1/\g1<w3.heap.size:=by
   obtain⟨us,-,h2,-⟩:=HS3.out;exact h2.lt g1 rfl
  refine⟨a,uc,(k3.cell (p:=⟨g1,j,none⟩) hg1.2 (fun e=>by have:=HKEEP.out g1 e;omega)).trans d1,?_,Zae HB.out a hlo.1,hlo.1,hlo.2⟩;rw[Zi,Zh (by rw[HLN.out];omega)];exact Zad hown k3 (fun q hq e=>by have:=HKEEP.out q e;have:=(hown.lt q hq).1;omega)
 have HLJ:Hid (∀j,j<N->(ls.getD j []).length=128):=fun j hj=>by
  rw[Zi,Zh (by rw[HLN.out];omega)];exact HLA.out _ (Zj _)
 go_loopw [4,64] (fun z q wr=>∃i:Nat,i≤N-1/\z=.int .u16 0/\q=O Z i/\WalPost w3 T b (logTo s slot size hd ls i) wp (walCells b slot ep rp next sure lg 0) wr) (fun _ q _=>N-(intOf q).toNat);case atStart=>exact⟨0,by omega,rfl,rfl,HW3.out⟩
 case round=>
  obtain⟨i,hi,rfl,rfl,hwp⟩:=hrel;have HWP:=hid hwp;obtain⟨T1,k1,k2,k3,k4⟩:=hwp;have hring:=HR3.out.mod k3 (fun e=>e.elim (fun e=>e tr) hrw);by_cases hin:i<N-1
  ·obtain⟨a,uc,d1,hown,hta,hla,hlb⟩:=HCELL.out _ k3 i (by omega)
   have hz:=HLT.out i (by omega);have hm':(hd+i)%size<size:=Nat.mod_lt _ h0;have hwf:=Zb4 hz.fit slot (2+(hd+i)%size) (ls.getD i []) (by rw[hz.n'];exact hsl) hg (by omega) (by rw[Zi,Zh (by rw[HLN.out];omega)];exact HLA.out _ (Zj _));have HPL:Hid (Calls Zw 149 #[Zs (some ⟨wp,0,none⟩),O Z i,Zt (some ⟨a,0,none⟩) 128 uc] wr fun e w'=>e=Zu (.int .u16 0)/\WalPost w3 T b (logTo s slot size hd ls (i+1)) wp (walCells b slot ep rp next sure lg 0) w'):=by
    have hc:=Zl4 k1 slot ep rp next 0 wp sure lg k4 (by rw[k2 wp hlt3];exact tw) size tail used i hring h0 h2 h3 h4 (by omega) (Zt (some ⟨a,0,none⟩) 128 uc) (ls.getD i []) (Zao (by rw[show(ls.getD i []).length=128 from by rw[Zi,Zh (by rw[HLN.out];omega)];exact HLA.out _ (Zj _)];exact hown)) (fun a' n c e=>by
     simp only [Zn,Zg]at e
     obtain⟨rfl,-,-⟩:=e
     rw[k2 a hlb];exact hta) (by rw[hz.c1];have:=HC1.out;omega) (fun i' hi' x hx=>Zc (hz.small _ HM.out i' hi' x hx) (by omega))
    rw[<-HHD.out]at hc;have ht:tried 0 (logTo s slot size hd ls i) ((logTo s slot size hd ls i).write slot ((2+(hd+i)%size:Nat):Int) (ls.getD i []))=(0,logTo s slot size hd ls (i+1)):=by rw[hwf];rfl
    rw[ht]at hc;refine hc.mono ?_;rintro e w' ⟨rfl,hp'⟩;exact⟨rfl,hp'.trans k2 k3⟩
   have K1:Hid (i+1≤N-1):=hin;have hiN:(i:Int)<((N-1:Nat):Int):=by omega
   have hN6:i<c1':=by omega
   clear k1 k2 k3 k4 hring HCELL hown hz hwf HW3 HLJ
   go_wp2_with (first
    |(go_at_call 149;(with_reducible refine HPL.out.mono ?_);rintro e w8 ⟨rfl,hp8⟩;have HP8:=hid hp8;clear hp8))
   exact⟨⟨i+1,K1.out,rfl,by go_num,HP8.out⟩,by simp[intOf];omega⟩
  ·obtain rfl:i=N-1:=by omega
   have hz:=HLT.out (N-1) (by omega);have hff:=Zco hz.fit slot (by rw[hz.n'];exact hsl) hg;have HFL:Hid (Calls Zw 123 #[Zs (some ⟨wp,0,none⟩)] wr fun e w'=>e=Zu (.int .u16 0)/\WalPost w3 T b (loggedS s slot size hd ls) wp (walCells b slot ep rp next sure lg 0) w'):=by
    have hc:=Zha k1 slot ep rp next 0 wp sure lg k4 (by rw[k2 wp hlt3];exact tw) (by rw[hz.c2];have:=HC2.out;omega) (fun i' hi' x hx=>Zc (hz.small _ HM.out i' hi' x hx) (by omega));have ht:tried 0 (logTo s slot size hd ls (N-1)) ((logTo s slot size hd ls (N-1)).flush slot)=(0,loggedS s slot size hd ls):=by
     rw[hff];show(0,_)=_
     unfold loggedS;rw[HLN.out]
    rw[ht]at hc;refine hc.mono ?_;rintro e w' ⟨rfl,hp'⟩;exact⟨rfl,hp'.trans k2 k3⟩
   clear k1 k2 k3 k4 hring hz hff HW3;have hN7:N-1<c1':=by omega
   go_wp2_with (first
    |(go_at_call 123;(with_reducible refine HFL.out.mono ?_);rintro e w8 ⟨rfl,hp8⟩;have HP8:=hid hp8;clear hp8;obtain⟨a,uc,d1,hown,hta,hla,hlb⟩:=HCELL.out _ HP8.out.choose_spec.2.2.1 (N-1) (by omega);have HOWN:=hid hown;have d5:w8.cell? ⟨wp,5,none⟩=some (.bool sure):=HP8.out.choose_spec.2.2.2.cell 5;have d6:w8.cell? ⟨wp,6,none⟩=some (.pointer (lg.map fun g=>⟨g,0,none⟩)):=HP8.out.choose_spec.2.2.2.cell 6;have f5:=HP8.out.choose_spec.2.2.2.free 5;have f6:=HP8.out.choose_spec.2.2.2.free 6;have hlt8:=HP8.out.choose_spec.2.2.2.lt;clear hown HCELL))
   go_ret;obtain⟨T2,q1,q2,q3,q4⟩:=HP8.out;have hsz8:=q3.size;have hst:Chg (fun q=>q=wp) w8 ((w8.setCell ⟨wp,5,none⟩ (.bool true)).setCell ⟨wp,6,none⟩ (Zs (some ⟨w8.heap.size,0,none⟩))):=Zk (S:=fun q=>q=wp) (Zk (S:=fun q=>q=wp) (Zl _ _) ⟨wp,5,none⟩ (.inl rfl) _) ⟨wp,6,none⟩ (.inl rfl) _;have hszs:((w8.setCell ⟨wp,5,none⟩ (.bool true)).setCell ⟨wp,6,none⟩ (Zs (some ⟨w8.heap.size,0,none⟩))).heap.size=w8.heap.size:=by rw[Za6,Za6]
   have hal:Below ((w8.setCell ⟨wp,5,none⟩ (.bool true)).setCell ⟨wp,6,none⟩ (Zs (some ⟨w8.heap.size,0,none⟩))).heap.size ((w8.setCell ⟨wp,5,none⟩ (.bool true)).setCell ⟨wp,6,none⟩ (Zs (some ⟨w8.heap.size,0,none⟩))) (((w8.setCell ⟨wp,5,none⟩ (.bool true)).setCell ⟨wp,6,none⟩ (Zs (some ⟨w8.heap.size,0,none⟩))).alloc (Zv #[O Z N,Zt (some ⟨a,0,none⟩) 128 uc] 228)):=(Zb _ _).alloc (Za _) _;have hnew:=At.new ((w8.setCell ⟨wp,5,none⟩ (.bool true)).setCell ⟨wp,6,none⟩ (Zs (some ⟨w8.heap.size,0,none⟩))) #[O Z N,Zt (some ⟨a,0,none⟩) 128 uc] 228;rw[hszs]at hnew;have hl2:ls.getD (2*ps.length) []=ls.getD (N-1) []:=by rw[HN1.out];rfl
   rw[<-HHD.out];refine⟨rfl,T2,w8.heap.size,Zt (some ⟨a,0,none⟩) 128 uc,?_,fun q hq=>q2 q (by omega),?_,?_,?_,Zae q1 _ (Za _),?_,fun a' n c e=> ?_,by omega,fun a' n c e=> ?_⟩
   ·exact(q1.keep hst (fun k hk e=>hk (by rw[e,q2 wp hlt3];exact tw))).below hal
   ·refine Zaj (Zm HB3.out _) (Chg.trans q3 (Chg.trans (hst.mono fun q hq=>.inr hq) (Zm hal _))) (fun q hq hs=>hs)
   ·exact((q4.set 5 (.bool true)).set 6 (Zs (some ⟨w8.heap.size,0,none⟩))).alloc _
   ·rw[<-HN1.out];exact hnew
   ·rw[hl2]
    refine Seg.below (Zao (base:=w.heap.size) (l:=ls.getD (N-1) []) ?_) hal;rw[HLJ.out (N-1) (by omega)];exact Zad HOWN.out hst (fun q hq e=>Za4 HOWN.out q4 (by decide) (by rw[hq,e]))
   ·simp only [Zn,Zg]at e
    obtain⟨rfl,-,-⟩:=e;show T2 a=0
    rw[q2 a hlb];exact hta
   ·simp only [Zn,Zg]at e
    obtain⟨rfl,-,-⟩:=e;exact hla
open Go.RowKit
structure Logd (w:World) (T:Nat->Nat) (N lp cost:Nat) (u:Value) (sec:List UInt8):Prop where
 at':At w lp #[O Z (cost:Nat),u] 228
 tl:T lp=0
 seg:Seg w u sec
 nb:NotBay T u
 lo:N≤lp
 lou:∀a n c,u=Zt (some a) n c->N≤a.block
theorem Logd.keep{T':Nat->Nat}{N lp cost:Nat}{u:Value}{sec:List UInt8}(h:Logd w T N lp cost u sec)(hl:sec.length=128)(hc:Chg S w w')(hT:∀q,q<w.heap.size->T' q=T q)(h1:∀q,S q->T q≠0\/q<N):Logd w' T' N lp cost u sec:=by
 obtain⟨b,off,cap,hv,hb,-⟩:=h.seg.full (by omega);have hlt:b<w.heap.size:=hb;refine⟨h.at'.mod hc (fun e=>(h1 _ e).elim (fun e=>e h.tl) (fun e=>by have:=h.lo;omega)),(hT _ h.at'.lt).trans h.tl,Znu h.seg hc ?_,?_,h.lo,h.lou⟩
 ·subst hv
  intro b' q' c' e;simp only [Zn,Zg]at e;obtain⟨⟨rfl,-,-⟩,-,-⟩:=e;intro _ hs;rcases h1 _ hs with e|e
  ·exact e (h.nb _ _ _ rfl)
  ·have:=h.lou _ _ _ rfl
   have e2:b<N:=e;have e3:N≤b:=this;omega
 ·intro a n c e
  rw[hv]at e;simp only [Zn,Zg]at e;obtain⟨rfl,-,-⟩:=e;exact(hT b hlt).trans (h.nb _ _ _ hv)
def RS.logged(R:RS)(ps:List Pat):RS:={R with s:=loggedS R.s R.M R.size ((R.tail+R.used)%R.size) (txnSecs R.ep R.next ps),sure:=true}
def RS.lastSec(R:RS)(ps:List Pat):List UInt8:=(txnSecs R.ep R.next ps).getD (2*ps.length) []
theorem Zud(h:RwIn w T A R lg vw X)(hn:R.s.n=R.M+1)(hf:Fit R.s R.G R.szs)(hj:Jrn R)(v:Value)(ps:List Pat)(hv:PSeg w v ps)(hp:Loggable ps)(hroom:2*ps.length+1≤R.size-R.used)(hcnt:R.s.cnt 1≤999998000000)(hcnt2:R.s.cnt 2≤999998000000)(hsm:R.s.small 900000):
  Calls Zw 105 #[Zs (some ⟨A.wp,0,none⟩),v] w fun e w'=>e=Zu (.int .u16 0)/\∃T' lp u,RwIn w' T' A (R.logged ps) (some lp) vw X/\(∀q,q<w.heap.size->T' q=T q)/\Chg (fun q=>T q≠0\/q=A.wp) w w'/\Logd w' T' w.heap.size lp (2*ps.length+1) u (R.lastSec ps):=by
 obtain⟨z1,z2,tl,us,ep,nx,nx2⟩:=hj;refine(Zv2 h.bay R.M R.ep A.rp R.next A.wp R.sure lg h.wal h.tw R.size R.tail R.used h.ring h.tr (by omega) z2 tl us ep nx (by omega) v ps hv hp hroom hf (by omega) (.inl rfl) (by unfold RS.szs;rw[Ze (by omega)];omega) (by omega) (by omega) hsm).mono ?_;rintro e w' ⟨rfl,T',lp,u,k1,k2,k3,k4,k5,k6,k7,k8,k9,k10⟩;refine⟨rfl,T',lp,u,?_,k2,k3,k5,k6,k7,k8,k9,k10⟩;exact h.walT (R':=R.logged ps) k1 k2 (k3.mono fun q hq=>hq.imp id .inl) k4 (h.ring.mod k3 (fun e=>e.elim (fun e=>e h.tr) (fun e=>Zaw h.ring h.wal (by decide) e))) rfl ⟨rfl,rfl,rfl⟩
theorem Zwd(h:RwIn w T A R lg vw X)(hn:R.s.n=R.M+1)(hf:Fit R.s R.G R.szs)(hj:Jrn R)(bp:Nat)(pv rv xv:Value)(ps:List Pat)(hb:At w bp (batCells A pv rv xv) 120)(tb:T bp=0)(hv:PSeg w xv ps)(hp:Loggable ps)(hroom:2*ps.length+1≤R.size-R.used)(hcnt:R.s.cnt 1≤999998000000)(hcnt2:R.s.cnt 2≤999998000000)(hsm:R.s.small 900000):
  Calls Zw 58 #[Zs (some ⟨bp,0,none⟩)] w fun e w'=>e=Zu (.agg #[O Z 0,.int .u16 0])/\∃T' lp u,RwIn w' T' A (R.logged ps) (some lp) vw X/\(∀q,q<w.heap.size->T' q=T q)/\Chg (fun q=>T q≠0\/q=A.wp) w w'/\Logd w' T' w.heap.size lp (2*ps.length+1) u (R.lastSec ps):=by
 have hb0:Below w.heap.size w (w.alloc (Zv #[O Z 0,.int .u16 0] 76)):=(Zb _ _).alloc (Za _) _;have htb:T w.heap.size=0:=Zae h.bay _ (Za _);have hlow:=h.low;have hbw:bp≠A.wp:=fun e=>h.offAt hb (by decide) (by decide) (by decide) (by decide) (.inr (.inl e))
 have h0:=h.below hb0;obtain⟨xa,xc,rfl⟩:=hv.shape;have hps:=hp.few;have hls:(R.lastSec ps).length=128:=by
  unfold RS.lastSec;rw[Zi,Zh (by rw[Zb9];omega)];exact Zc5 R.ep R.next ps hp _ (Zj _)
 have HLG:Hid (∀W,Below (w.alloc (Zv #[O Z 0,.int .u16 0] 76)).heap.size (w.alloc (Zv #[O Z 0,.int .u16 0] 76)) W->Calls Zw 105 #[Zs (some ⟨A.wp,0,none⟩),Zt xa ps.length xc] W fun e w'=>e=Zu (.int .u16 0)/\∃T' lp u,RwIn w' T' A (R.logged ps) (some lp) vw X/\(∀q,q<W.heap.size->T' q=T q)/\Chg (fun q=>T q≠0\/q=A.wp) W w'/\Logd w' T' W.heap.size lp (2*ps.length+1) u (R.lastSec ps)):=fun W hW=>Zud (h0.below hW) hn hf hj _ ps ((hv.below hb0).below hW) hp hroom hcnt hcnt2 hsm
 have HTB:Hid (At (w.alloc (Zv #[O Z 0,.int .u16 0] 76)) w.heap.size #[O Z 0,.int .u16 0] 76):=At.new _ _ _;have HBT:Hid (At (w.alloc (Zv #[O Z 0,.int .u16 0] 76)) bp (batCells A pv rv (Zt xa ps.length xc)) 120):=hb.below hb0 hb.lt;have HSS:Hid (∀W,Below (w.alloc (Zv #[O Z 0,.int .u16 0] 76)).heap.size (w.alloc (Zv #[O Z 0,.int .u16 0] 76)) W->W.cell? ⟨bp,0,none⟩=some (Zs (some ⟨A.q,0,none⟩))/\W.cell? ⟨A.q,4,none⟩=some (Zs (some ⟨A.wp,0,none⟩))/\W.cell? ⟨bp,3,none⟩=some (Zt xa ps.length xc)):=fun W hW=>⟨(HBT.out.below hW HBT.out.lt).cell 0,(h0.below hW).rw.cell 4,(HBT.out.below hW HBT.out.lt).cell 3⟩
 have H:=hid h;have HB0:=hid hb0;have HLS:=hid hls;have e0:(w.alloc (Zv #[O Z 0,.int .u16 0] 76)).heap.size=w.heap.size+1:=Zaa _ _;have hqlt:=h.rw.lt;have hblt:=hb.lt;have HNW:Hid (¬w.heap.size=A.wp):=fun e=>hlow.ne (Za _) (.inr (.inl e))
 clear h hb0 h0 hb hv hp hj hn hf hls hps hroom hsm;obtain⟨lg0,hlg0⟩:∃x,x=R.lastSec ps:=⟨_,rfl⟩;go_enter Tryz.func58,Tryz.ntmps58;go_wp2;go_region_held3 (fun W=>W.cell? ⟨bp,0,none⟩=some (Zs (some ⟨A.q,0,none⟩))/\W.cell? ⟨A.q,4,none⟩=some (Zs (some ⟨A.wp,0,none⟩))/\W.cell? ⟨bp,3,none⟩=some (Zt xa ps.length xc))
  (first|exact HSS.out _ (Zb _ _)|exact HSS.out _ (Zb _ _).drew|exact HS4.out _ (Zb _ _)|exact HS4.out _ HB5.out|exact HS6.out)
  (first
   |(go_at_call 105;(with_reducible refine(HLG.out _ (Zb _ _).drew).mono ?_);rintro e w4 ⟨rfl,T4,lp,u,k1,k2,k3,k4⟩;have HK1:=hid k1;have HK2:Hid (∀q,q<w.heap.size+1->T4 q=T q):=(fun q hq=>k2 q (by show q<(w.alloc _).heap.size;rw[e0];exact hq));have k3':Chg (fun q=>T q≠0\/q=A.wp) (w.alloc (Zv #[O Z 0,.int .u16 0] 76)) w4:=((Zm (Zb (w.alloc (Zv #[O Z 0,.int .u16 0] 76)).heap.size _).drew _).trans k3);have HK3:=hid k3';have HK4:=hid k4;have hbx4:=HTB.out.mod k3' (fun e=>e.elim (fun e=>e htb) HNW.out);have HBX4:=hid hbx4;have hbt4:=HBT.out.mod k3' (fun e=>e.elim (fun e=>e tb) hbw);have HBT4:=hid hbt4;have HS4:Hid (∀W,Below w4.heap.size w4 W->W.cell? ⟨bp,0,none⟩=some (Zs (some ⟨A.q,0,none⟩))/\W.cell? ⟨A.q,4,none⟩=some (Zs (some ⟨A.wp,0,none⟩))/\W.cell? ⟨bp,3,none⟩=some (Zt xa ps.length xc)):=(fun W hW=>⟨(HBT4.out.below hW HBT4.out.lt).cell 0,(HK1.out.below hW).rw.cell 4,(HBT4.out.below hW HBT4.out.lt).cell 3⟩);clear k1 k2 k3 k3' k4 hbx4 hbt4)
   |(go_at_call 96;(with_reducible refine(Zbn w4 HK1.out.rw).mono ?_);rintro e w5 ⟨rfl,hb5⟩;have HB5:=hid hb5;have hbx5:=HBX4.out.below hb5 HBX4.out.lt;have k0:w5.cell? ⟨w.heap.size,0,none⟩=some (O Z 0):=hbx5.cell 0;have k1:w5.cell? ⟨w.heap.size,1,none⟩=some (.int .u16 0):=hbx5.cell 1;have f0:=hbx5.free 0;have f1:=hbx5.free 1;have HBX5:=hid hbx5;have hr5:=HK1.out.below hb5;have hr6:=hr5.box hbx5 (by rw[HK2.out _ (by omega)];exact htb) (box2 w5 w.heap.size (O Z 0) (.int .u16 0));have HR6:=hid hr6;have HS6:Hid (((w5.setCell ⟨w.heap.size,0,none⟩ (O Z 0)).setCell ⟨w.heap.size,1,none⟩ (.int .u16 0)).cell? ⟨bp,0,none⟩=some (Zs (some ⟨A.q,0,none⟩))/\((w5.setCell ⟨w.heap.size,0,none⟩ (O Z 0)).setCell ⟨w.heap.size,1,none⟩ (.int .u16 0)).cell? ⟨A.q,4,none⟩=some (Zs (some ⟨A.wp,0,none⟩))/\((w5.setCell ⟨w.heap.size,0,none⟩ (O Z 0)).setCell ⟨w.heap.size,1,none⟩ (.int .u16 0)).cell? ⟨bp,3,none⟩=some (Zt xa ps.length xc)):=(by have hh:=(HBT4.out.below hb5 HBT4.out.lt).mod (box2 w5 w.heap.size (O Z 0) (.int .u16 0)) (Zaw (HBT4.out.below hb5 HBT4.out.lt) hbx5 (by decide));exact⟨hh.cell 0,hr6.rw.cell 4,hh.cell 3⟩);clear hbx5 hb5 hr5 hr6))
 have hF:=(HBX5.out.set 0 (O Z 0)).set 1 (.int .u16 0);have r0:=hF.cell 0;have r1:=hF.cell 1;have HEND:Hid (∃T' lp u,RwIn ((w5.setCell ⟨w.heap.size,0,none⟩ (O Z 0)).setCell ⟨w.heap.size,1,none⟩ (.int .u16 0)) T' A (R.logged ps) (some lp) vw X/\(∀q,q<w.heap.size->T' q=T q)/\Chg (fun q=>T q≠0\/q=A.wp) w ((w5.setCell ⟨w.heap.size,0,none⟩ (O Z 0)).setCell ⟨w.heap.size,1,none⟩ (.int .u16 0))/\Logd ((w5.setCell ⟨w.heap.size,0,none⟩ (O Z 0)).setCell ⟨w.heap.size,1,none⟩ (.int .u16 0)) T' w.heap.size lp (2*ps.length+1) u (R.lastSec ps)):=by
  have h2:=box2 w5 w.heap.size (O Z 0) (.int .u16 0);refine⟨T4,lp,u,HR6.out,fun q hq=>HK2.out q (by omega),?_,?_⟩
  ·exact Zaj ((Zaj (Zm HB0.out _) HK3.out (fun q hq e=>e)).trans (Zm HB5.out _)) h2 (fun q hq e=>by omega)
  ·have k4:=HK4.out.keep HLS.out (Zm HB5.out (fun _=>False)) (fun _ _=>rfl) (fun q e=>e.elim)
   have k5:=k4.keep HLS.out h2 (fun _ _=>rfl) (fun q e=>.inr (by show q<(w.alloc _).heap.size;rw[e0];omega));exact⟨k5.at',k5.tl,k5.seg,k5.nb,Zc (Nat.le_succ _) (by have:=k5.lo;rw[show(w.alloc (Zv #[O Z 0,.int .u16 0] 76)).drew.heap.size=w.heap.size+1 from e0]at this;exact this),fun a n c e=>Zc (Nat.le_succ _) (by have:=k5.lou a n c e;rw[show(w.alloc (Zv #[O Z 0,.int .u16 0] 76)).drew.heap.size=w.heap.size+1 from e0]at this;exact this)⟩
 clear hF HBX5 HB5 HR6 HS6 HBX4 HBT4 HS4 HK1 HK2 HK3 HK4 HLG HTB HBT HSS H HB0 HLS HNW;go_wp2;(try simp only [Exit.inBlock,Exit.then]);refine bodyPost_ret (v:=.agg #[O Z 0,.int .u16 0]) ?_ rfl ⟨rfl,HEND.out⟩;rw[Zai rfl];go_simp;try rfl
open Go.RowKit
theorem Zsk(h:RwIn w T A R lg vw X)(hr:Ready R)(bp:Nat)(pv rv xv:Value)(hb:At w bp (batCells A pv rv xv) 120)(hcnt:R.s.cnt 1≤999998000000)(hsm:R.s.small 900000):
  Calls Zw 59 #[Zs (some ⟨bp,0,none⟩)] w fun e w'=>e=Zu (.agg #[O Z 0,.int .u16 0])/\∃R' vw' X',PlacedR R R'/\RPost w T A R' lg vw' X' w':=by
 have hb0:Below w.heap.size w (w.alloc (Zv #[O Z 0,.int .u16 0] 76)):=(Zb _ _).alloc (Za _) _;have htb:T w.heap.size=0:=Zae h.bay _ (Za _);have h0:=h.below hb0;have HPL:=hid (Zd3 h0 hr hcnt hsm);have c0:(w.alloc (Zv #[O Z 0,.int .u16 0] 76)).cell? ⟨bp,0,none⟩=some (Zs (some ⟨A.q,0,none⟩)):=(hb.below hb0 hb.lt).cell 0;have hblt:=hb.lt;have HTB:Hid (At (w.alloc (Zv #[O Z 0,.int .u16 0] 76)) w.heap.size #[O Z 0,.int .u16 0] 76):=At.new _ _ _;have H:=hid h;have HB0:=hid hb0;clear h hb0 h0 hr hb;go_enter Tryz.func59,Tryz.ntmps59
 go_wp2_with (first
  |(go_at_call 66;(with_reducible refine HPL.out.mono ?_);rintro e w5 ⟨rfl,R',vw',X',hpl,hp5⟩;have HP5:=hid hp5;have HPR:=hid hpl;have htb5:=hp5.keep HTB.out htb (H.out.low.ne (Za _));have k0:w5.cell? ⟨w.heap.size,0,none⟩=some (O Z 0):=htb5.cell 0;have k1:w5.cell? ⟨w.heap.size,1,none⟩=some (.int .u16 0):=htb5.cell 1;have f0:=htb5.free 0;have f1:=htb5.free 1;have HT5:=hid htb5;clear hpl hp5 htb5))
 have hF:=(HT5.out.set 0 (O Z 0)).set 1 (.int .u16 0);have r0:=hF.cell 0;have r1:=hF.cell 1;have HEND:Hid (∃R' vw' X',PlacedR R R'/\RPost w T A R' lg vw' X' ((w5.setCell ⟨w.heap.size,0,none⟩ (O Z 0)).setCell ⟨w.heap.size,1,none⟩ (.int .u16 0))):=⟨R',vw',X',HPR.out,HP5.out.out HB0.out HT5.out (Za _) (by rw[Zaa];omega) htb (box2 _ _ _ _)⟩;clear hF HT5 HP5 HPL HTB H HPR;(try simp only [Exit.inBlock,Exit.then]);refine bodyPost_ret (v:=.agg #[O Z 0,.int .u16 0]) ?_ rfl ⟨rfl,HEND.out⟩;rw[Zai rfl];go_simp;try rfl
def EndR(R R':RS):Prop:=(R.lazy=true/\R'=R)\/(R.lazy=false/\PlacedR R.synced R')
theorem Zwn(h:RwIn w T A R lg vw X)(hr:Ready R)(bp:Nat)(pv rv xv:Value)(hb:At w bp (batCells A pv rv xv) 120)(hcnt:R.s.cnt 1≤999998000000)(hcnt2:R.s.cnt 2≤999998000000)(hsm:R.s.small 900000):
  Calls Zw 61 #[Zs (some ⟨bp,0,none⟩)] w fun e w'=>e=Zu (.agg #[O Z 0,.int .u16 0])/\∃R' vw' X',EndR R R'/\RPost w T A R' lg vw' X' w':=by
 have hb0:Below w.heap.size w (w.alloc (Zv #[O Z 0,.int .u16 0] 76)):=(Zb _ _).alloc (Za _) _;have htb:T w.heap.size=0:=Zae h.bay _ (Za _);have h0:=h.below hb0;have HPL:=hid (Zhy h0 hr hcnt hcnt2 hsm);have c0:(w.alloc (Zv #[O Z 0,.int .u16 0] 76)).cell? ⟨bp,0,none⟩=some (Zs (some ⟨A.q,0,none⟩)):=(hb.below hb0 hb.lt).cell 0;have c5:(w.alloc (Zv #[O Z 0,.int .u16 0] 76)).cell? ⟨A.q,5,none⟩=some (.bool R.lazy):=h0.rw.cell 5;have hblt:=hb.lt;have hqlt:=h.rw.lt;have HTB:Hid (At (w.alloc (Zv #[O Z 0,.int .u16 0] 76)) w.heap.size #[O Z 0,.int .u16 0] 76):=At.new _ _ _;have H:=hid h;have HB0:=hid hb0;clear h hb0 h0 hr hb;cases hlz:R.lazy
 focus
  rw[hlz]at c5
  go_enter Tryz.func61,Tryz.ntmps61
  go_wp2_with (first
   |(go_at_call 95;(with_reducible refine HPL.out.mono ?_);rintro e w5 ⟨rfl,R',vw',X',hpl,hp5⟩;have HP5:=hid hp5;have HPR:=hid hpl;have htb5:=hp5.keep HTB.out htb (H.out.low.ne (Za _));have k0:w5.cell? ⟨w.heap.size,0,none⟩=some (O Z 0):=htb5.cell 0;have k1:w5.cell? ⟨w.heap.size,1,none⟩=some (.int .u16 0):=htb5.cell 1;have f0:=htb5.free 0;have f1:=htb5.free 1;have HT5:=hid htb5;clear hpl hp5 htb5))
  have hF:=(HT5.out.set 0 (O Z 0)).set 1 (.int .u16 0)
  have r0:=hF.cell 0
  have r1:=hF.cell 1
  have HEND:Hid (∃R' vw' X',EndR R R'/\RPost w T A R' lg vw' X' ((w5.setCell ⟨w.heap.size,0,none⟩ (O Z 0)).setCell ⟨w.heap.size,1,none⟩ (.int .u16 0))):=⟨R',vw',X',.inr ⟨hlz,HPR.out⟩,HP5.out.out HB0.out HT5.out (Za _) (by rw[Zaa];omega) htb (box2 _ _ _ _)⟩
  clear hF HT5 HP5 HPL HTB H HPR
 rotate_left
 focus
  rw[hlz]at c5
  have HEND:Hid (∃R' vw' X',EndR R R'/\RPost w T A R' lg vw' X' (w.alloc (Zv #[O Z 0,.int .u16 0] 76))):=⟨R,vw,X,.inl ⟨hlz,rfl⟩,T,H.out.below HB0.out,fun _ _=>rfl,Zm HB0.out _⟩
  have r0:=HTB.out.cell 0
  have r1:=HTB.out.cell 1
  clear HPL H
  go_enter Tryz.func61,Tryz.ntmps61
  go_wp2
 rotate_left
 all_goals
  (try simp only [Exit.inBlock,Exit.then])
  refine bodyPost_ret (v:=.agg #[O Z 0,.int .u16 0]) ?_ rfl ⟨rfl,HEND.out⟩
  rw[Zai rfl]
  go_simp
  try rfl
end Go.Proofs.YtmemlkmnhcealaaGreat
