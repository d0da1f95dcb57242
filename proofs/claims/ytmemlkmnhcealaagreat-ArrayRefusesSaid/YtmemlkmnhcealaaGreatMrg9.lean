
/- Several texts in one: ScnB, RngW. -/
import Derived.Test.YtmemlkmnhcealaaGreatMrg8
import Derived.RangeFuncNested
import Derived.RangeFuncBound
import Derived.RangeFuncCalls
import Derived.RangeFuncLeaves
set_option linter.unusedVariables false
set_option maxRecDepth 100000
set_option maxHeartbeats 8000000
namespace Go.Proofs.YtmemlkmnhcealaaGreat
open Value renaming int→O,slice→Zt
open IntKind renaming i64→Z
open Go.RowKit CrcM
open Lib(hid)
variable {s:BitVec 32} {N:Int} {ls:List (List UInt8)} {l1 l2:List UInt8} {us:List Value} {dg n seq:Nat} {v1 v2 v8 xv z:Value} {w w7 w8:World}
structure Loggable (ps:List Pat):Prop where
 some:1≤ps.length
 few:ps.length≤1023
 each:∀p∈ps,0≤p.m/\p.m≤15/\0≤p.r/\p.r≤4095/\p.d.length=128
theorem Zsj{wr w2 w3:World}(ep seq:Nat)(ps:List Pat){va:Option Addr}{vc g c:Nat}(hbw:Below w.heap.size w wr)(hx:At wr w.heap.size #[.int .u64 seq,Zt va n vc] 226)
  (hr:w2.ownsRow wr.heap.size 36 1 (Zt (some ⟨g,0,none⟩) 0 c) 0 []) (hb:Below wr.heap.size wr w2) (hlt:wr.heap.size<w2.heap.size) (hw:w3=w2.alloc (.cells (digest 0#32 0) 357)):
  Below w.heap.size w w3/\At w3 w.heap.size #[.int .u64 seq,Zt va n vc] 226/\At w3 w2.heap.size (digest (sumTo ep seq ps 0) (0*128:Nat)) 357/\SecRow w3 w.heap.size (Zt (some ⟨g,0,none⟩) 0 c) (secsTo ep seq ps 0):=by
 subst hw;refine⟨(hbw.trans (hb.mono hbw.size)).alloc (Zc hbw.size (Nat.le_of_lt hlt)) _,(hx.below hb hx.lt).alloc _,At.new w2 (digest 0#32 0) _,?_⟩;exact SecRow.below ⟨[],rfl,Zc9 hr hbw.size,fun j h=>absurd h (by simp[secsTo])⟩ ((Zb _ _).alloc (Za _) _)
theorem SecRow.open{B:Nat}{v:Value}(h:SecRow w B v ls):∃us:List Value,us.length=ls.length/\w.ownsRow B 36 1 v ls.length us/\∀j (h:j<ls.length) (h':j<us.length),w.ownsRow B 5 1 us[j] 128 (ucells ls[j]):=h
theorem Ztf{w6:World}{s':BitVec 32}{N':Int}(h1:Below w.heap.size w w6)(h2:At w6 dg (digest s N) 357)(h3:SecRow w6 w.heap.size z ls)(h4:At w6 w.heap.size #[.int .u64 seq,xv] 226)
  (h5:w6.ownsRow w.heap.size 5 1 v1 128 (ucells l1)) (h6:w6.ownsRow w.heap.size 5 1 v2 128 (ucells l2)) (h7:At w7 dg (digest s' N') 357) (hc:Chg (· =dg) w6 w7) (hdg:w.heap.size≤dg):
  Below w.heap.size w w7/\At w7 dg (digest s' N') 357/\SecRow w7 w.heap.size z ls/\At w7 w.heap.size #[.int .u64 seq,xv] 226/\w7.ownsRow w.heap.size 5 1 v1 128 (ucells l1)/\w7.ownsRow w.heap.size 5 1 v2 128 (ucells l2):=
 ⟨Zcb h1 h1.size hc (fun q hq=>by have:q=dg:=hq;omega),h7,h3.mod h2 hc (by decide) (by decide),h4.mod hc (Zaw h4 h2 (by decide)),Zad h5 hc (fun x hx e=>Za4 h5 h2 (by decide) (e ▸ hx)),Zad h6 hc (fun x hx e=>Za4 h6 h2 (by decide) (e ▸ hx))⟩
theorem Zk6(hb:Below w.heap.size w w7)(hd:At w7 dg (digest s N) 357)(hx:At w7 w.heap.size #[.int .u64 seq,xv] 226)
  (h1:w7.ownsRow w.heap.size 5 1 v1 128 (ucells l1)) (h2:w7.ownsRow w.heap.size 5 1 v2 128 (ucells l2)) (e1:us.length=ls.length) (hn:ls.length=n) (e2:(w7.alloc (.cells #[v1,v2] 36)).ownsRow w.heap.size 36 1 z n us)
  (e3:∀j (h:j<ls.length) (h':j<us.length),w7.ownsRow w.heap.size 5 1 us[j] 128 (ucells ls[j])) (ho:w8.ownsRow w.heap.size 36 1 v8 (n+2) (us++ [v1,v2])) (hc:Chg (fun q=>z.ownBlock=some q) (w7.alloc (.cells #[v1,v2] 36)) w8):
  SecRow w8 w.heap.size v8 (ls++ [l1,l2])/\At w8 dg (digest s N) 357/\Below w.heap.size w w8/\At w8 w.heap.size #[.int .u64 seq,xv] 226:=by
 subst hn;refine⟨Zjt (ms:= [l1,l2]) e1 e2 (fun j h h'=>(e3 j h h').alloc _) rfl (fun j h h'=> ?_) ho hc,(hd.alloc _).mod hc (Za4 e2 (hd.alloc _) (by decide)),Zcb (hb.alloc hb.size _) (by rw[Zaa];have:=hb.size;omega) hc (fun q hq=>(e2.lt q hq).1),(hx.alloc _).mod hc (Za4 e2 (hx.alloc _) (by decide))⟩;match j,h with
 |0,_=>exact h1.alloc _
 |1,_=>exact h2.alloc _
theorem Zpq(hb:Below w.heap.size w w7)
  (h1:w7.ownsRow w.heap.size 5 1 v1 128 (ucells l1)) (e1:us.length=ls.length) (hn:ls.length=n) (e2:(w7.alloc (.cells #[v1] 36)).ownsRow w.heap.size 36 1 z n us)
  (e3:∀j (h:j<ls.length) (h':j<us.length),w7.ownsRow w.heap.size 5 1 us[j] 128 (ucells ls[j])) (ho:w8.ownsRow w.heap.size 36 1 v8 (n+1) (us++ [v1])) (hc:Chg (fun q=>z.ownBlock=some q) (w7.alloc (.cells #[v1] 36)) w8):
  SecRow w8 w.heap.size v8 (ls++ [l1])/\Below w.heap.size w w8:=by
 subst hn;refine⟨Zjt (ms:= [l1]) e1 e2 (fun j h h'=>(e3 j h h').alloc _) rfl (fun j h h'=> ?_) ho hc,Zcb (hb.alloc hb.size _) (by rw[Zaa];have:=hb.size;omega) hc (fun q hq=>(e2.lt q hq).1)⟩;match j,h with
 |0,_=>exact h1.alloc _
theorem Zen(ep seq:Nat)(ps:List Pat):(sealSec ep seq ps).length=128:=Za5 _ _ _ _ (by simp[Zal])
theorem Zk2(ep seq:Nat)(v:Value)(ps:List Pat)(w:World)(he:ep≤4611686018427387904)(hq1:1≤seq)(hq:seq≤4611686018427387904)(hv:PSeg w v ps)(hp:Loggable ps):
  Calls Tryz.prog 147 #[.int .u64 ep,.agg #[.int .u64 seq,v]] w fun e w'=>∃v',e=.returned (.tuple #[v',.int .u16 0])/\SecRow w' w.heap.size v' (txnSecs ep seq ps)/\Below w.heap.size w w':=by
 have hbox:=At.new w #[.int .u64 seq,v] 226;have c0:=hbox.cell 0;have c1:=hbox.cell 1;obtain⟨va,vc,rfl⟩:=hv.shape;have HV:=hid hv;have HP:=hid hp;have hn1:=hp.some;have hn2:=hp.few;have HB0:Hid (Below w.heap.size w (w.alloc (.cells #[.int .u64 seq,Zt va ps.length vc] 226))):=(Zb _ _).alloc (Za _) _;have HX0:=hid hbox;clear hv hp hbox;go_enter Tryz.func147,Tryz.ntmps147;go_wp2;go_loopw [7,32] (fun z q wr=>∃k:Nat,k≤ps.length/\q=O Z k/\z=.int .u16 0/\Below w.heap.size w wr/\At wr w.heap.size #[.int .u64 seq,Zt va ps.length vc] 226) (fun _ q _=>ps.length-(intOf q).toNat);case atStart=>exact⟨0,by omega,rfl,rfl,HB0.out,HX0.out⟩
 case round=>
  obtain⟨k,hk,rfl,rfl,hbw,hx⟩:=hrel;by_cases hkn:k<ps.length
  ·obtain⟨b,o,rfl,hlt,hx3⟩:=PSeg.full (HV.out.below hbw) (by omega)
   obtain⟨d0,d1,u,d2,hu⟩:=hx3 k hkn;obtain⟨ua,uc,rfl⟩:=hu.shape;obtain⟨p1,p2,p3,p4,p5⟩:=HP.out.each _ (Zj hkn);have K1:Hid (k+1≤ps.length):=hkn;have HBW:=hid hbw;have HX:=hid hx;rw[p5]at d2;clear p5;clear hx3 hu hbw hx;generalize ps[k].m=x at*;generalize ps[k].r=y at*;go_wp2;exact⟨⟨k+1,K1.out,by go_num,rfl,HBW.out.alloc HBW.out.size _,HX.out.alloc _⟩,by simp[intOf];omega⟩
  ·obtain rfl:k=ps.length:=by omega
   have HBW:=hid hbw;have HX:=hid hx;clear HX0 HB0 c0 c1;have c0:=hx.cell 0;have c1:=hx.cell 1;clear hbw hx
   go_wp2_with (first
    |(refine Zgr rfl _ _ 220 36 1 24 rfl Zf3 _ _ _ (2*ps.length+1) rfl rfl (by omega) (by omega) (by unfold maxLen;omega) ?_;intro w2 hr2 hb2 hlt2)
    |(go_at_call 219;(with_reducible refine(Zwm _).mono ?_);rintro e w3 ⟨rfl,hw3⟩;obtain⟨hb3,hx3,hd3,hs3⟩:=Zsj ep seq ps HBW.out HX.out hr2 hb2 hlt2 hw3;clear hw3 c0 c1 hr2;have c0:=hx3.cell 0;have c1:=hx3.cell 1;have HB3:=hid hb3;have HX3:=hid hx3;have HD3:=hid hd3;have HS3:=hid hs3;clear hb3 hx3 hd3 hs3;have hdgl:w.heap.size≤w2.heap.size:=(by have:=HBW.out.size;omega);generalize w2.heap.size=dg at*))
   go_loopw [10,86] (fun z q wx=>∃k:Nat,k≤ps.length/\q=O Z k/\SecRow wx w.heap.size z (secsTo ep seq ps k)/\At wx dg (digest (sumTo ep seq ps k) (k*128:Nat)) 357/\Below w.heap.size w wx/\At wx w.heap.size #[.int .u64 seq,Zt va ps.length vc] 226) (fun _ q _=>ps.length-(intOf q).toNat);case atStart=>exact⟨0,by omega,rfl,HS3.out,HD3.out,HB3.out,HX3.out⟩
   case round=>
    obtain⟨k,hk,rfl,hs,hd,hbw,hx⟩:=hrel;have hz:=hs.shape;by_cases hkn2:k<ps.length
    ·obtain⟨b,o,rfl,hlt,hx3⟩:=PSeg.full (HV.out.below hbw) (by omega)
     have hxk:PatAt wr b (o+k*3) (patN ps k):=by rw[Zng ps k hkn2];exact hx3 k hkn2
     have hpm:patN ps k∈ps:=by rw[Zng ps k hkn2];exact Zj hkn2
     obtain⟨d0,d1,u,d2,hu⟩:=hxk;obtain⟨ua,uc,rfl⟩:=hu.shape;obtain⟨p1,p2,p3,p4,p5⟩:=HP.out.each _ hpm;have K1:Hid (k+1≤ps.length):=hkn2;obtain⟨x,ex⟩:∃x:Nat,(patN ps k).m=x:=⟨(patN ps k).m.toNat,by omega⟩;obtain⟨y,ey⟩:∃y:Nat,(patN ps k).r=y:=⟨(patN ps k).r.toNat,by omega⟩;have HHS:Hid (headSec ep seq ps k=recSec 1 ep seq (le4 [k,ps.length,x,y,(escOf (patN ps k).d).toNat,crcN (escRow (patN ps k).d)])):=by
      show _=_
      unfold headSec;rw[ex,ey];rfl
     have HST:Hid (secsTo ep seq ps (k+1)=secsTo ep seq ps k++ [headSec ep seq ps k,escRow (patN ps k).d]):=rfl;have HSU:Hid (sumTo ep seq ps (k+1)=more (sumTo ep seq ps k) (nats (headSec ep seq ps k))):=rfl;rw[ex]at d0 p1 p2;rw[ey]at d1 p3 p4;rw[p5]at d2;clear ex ey hx3 hpm;generalize (patN ps k).d=d at*;have HU:=hid hu;have HE:Hid (∀W,Below wr.heap.size wr W->Calls Tryz.prog 220 #[Zt ua 128 uc] W fun e w'=>∃v',e=.returned (.tuple #[v',.bool (escOf d),.int .u16 0])/\w'.ownsRow W.heap.size 5 1 v' 128 (ucells (escRow d))/\Below W.heap.size W w'):=fun W hb=>Zpo _ d W p5 (by rw[<-p5];exact hu.below hb)
     have HHD:Hid (∀W,Calls Tryz.prog 221 #[.agg #[.int .u64 ep,.int .u64 seq,O Z k,O Z ps.length,O Z x,O Z y,.bool (escOf d),.int .u32 (crcN (escRow d))]] W (NewRow W (headSec ep seq ps k))):=fun W=>by
      rw[HHS.out];exact Zqp ep seq k ps.length x y (crcN (escRow d)) (escOf d) W he hq1 hq hn1 hn2 hkn2 (by omega) (by omega) (more 0#32 (nats (escRow d))).isLt
     have HLR:Hid ((escRow d).length=128):=by show _=_;rw[Zfq _ (by omega),p5]
     have HSQ:=hid hs;have HDQ:=hid hd;have HBQ:=hid hbw;have HXQ:=hid hx;clear hu hs hd hbw hx p5;obtain⟨za,zc,rfl⟩:=hz
     go_wp2_with (first
      |(go_at_call 220;(with_reducible refine(HE.out _ ?_).mono ?_);(exact(Zb _ _).alloc (Za _) _);rintro e w4 ⟨v4,rfl,hv4,hb4⟩;obtain⟨ge,ce,rfl⟩:=Zcd hv4 (by decide);have HV4:=hid hv4;have HB4:=hid hb4;clear hv4 hb4))
     have hlw:w.heap.size<wr.heap.size:=HXQ.out.lt;have hx4:At w4 w.heap.size #[.int .u64 seq,Zt (some ⟨b,o,none⟩) ps.length vc] 226:=(HXQ.out.alloc _).below HB4.out (by rw[Zaa];omega);have hp4:At w4 wr.heap.size #[O Z x,O Z y,Zt ua 128 uc] 167:=(At.new wr _ _).below HB4.out (by rw[Zaa];omega);have HSA:Hid (w4.cell? ⟨w.heap.size,0,none⟩=some (.int .u64 seq)/\w4.cell? ⟨wr.heap.size,0,none⟩=some (O Z x)/\w4.cell? ⟨wr.heap.size,1,none⟩=some (O Z y)):=⟨hx4.cell 0,hp4.cell 0,hp4.cell 1⟩;have HSS:Hid (∀W,Below w4.heap.size w4 W->W.cell? ⟨w.heap.size,0,none⟩=some (.int .u64 seq)/\W.cell? ⟨wr.heap.size,0,none⟩=some (O Z x)/\W.cell? ⟨wr.heap.size,1,none⟩=some (O Z y)):=fun W hb=>⟨(hb.cell (p:=⟨w.heap.size,0,none⟩) hx4.lt).trans (hx4.cell 0),(hb.cell (p:=⟨wr.heap.size,0,none⟩) hp4.lt).trans (hp4.cell 0),(hb.cell (p:=⟨wr.heap.size,1,none⟩) hp4.lt).trans (hp4.cell 1)⟩
     have HSM:Hid (∀W,Below w4.heap.size w4 W->Calls Tryz.prog 133 #[Zt (some ⟨ge,0,none⟩) 128 ce] W fun e w'=>e=.returned (.int .u32 (crcN (escRow d)))/\Below W.heap.size W w'):=fun W hb=>Zj7 _ (escRow d) W (by rw[HLR.out];decide) (Zao (by rw[HLR.out];exact Zaf HV4.out hb (Za _)))
     have HX4:=hid hx4;clear hx4 hp4 d0 d1 d2 c0 c1;go_region_held3 (fun w'=>w'.cell? ⟨w.heap.size,0,none⟩=some (.int .u64 seq)/\w'.cell? ⟨wr.heap.size,0,none⟩=some (O Z x)/\w'.cell? ⟨wr.heap.size,1,none⟩=some (O Z y))
      (first|exact HSA.out|exact HSB|exact HSC)
      (first
       |(go_at_call 133;(with_reducible refine(HSM.out _ ?_).mono ?_);(first|exact Zb _ _|exact(Zb _ _).drew|exact below_drewN (Zb _ _) _);rintro e w5 ⟨rfl,hb5⟩;have HB5:Hid (Below w4.heap.size w4 w5):=((below_drewN (Zb _ _) _).trans hb5);have HSB:=HSS.out w5 HB5.out)
       |(go_at_call 221;(with_reducible refine(HHD.out _).mono ?_);rintro e w6 ⟨v6,rfl,hv6,hb6⟩;have HB6:Hid (Below w4.heap.size w4 w6):=HB5.out.trans (hb6.mono HB5.out.size);have HSC:=HSS.out w6 HB6.out;rw[Zbu]at hv6;have hlo6:w.heap.size≤w5.heap.size:=Zc (Nat.le_of_lt HX4.out.lt) HB5.out.size;obtain⟨g6,c6,rfl⟩:=Zcd hv6 (by decide);have HV6:=hid hv6;clear hv6 hb6))
     have hb46:Below w.heap.size w w6:=((HBQ.out.alloc HBQ.out.size _).trans (HB4.out.mono (by rw[Zaa];omega))).trans (HB6.out.mono (Nat.le_of_lt HX4.out.lt));have hd6:At w6 dg (digest (sumTo ep seq ps k) (k*128:Nat)) 357:=((HDQ.out.alloc _).below HB4.out (by rw[Zaa];have:=HDQ.out.lt;omega)).below HB6.out (((HDQ.out.alloc _).below HB4.out (by rw[Zaa];have:=HDQ.out.lt;omega)).lt);have hs6:SecRow w6 w.heap.size (.slice za (secsTo ep seq ps k).length zc) (secsTo ep seq ps k):=(((HSQ.out.below ((Zb _ _).alloc (Za _) _)).below HB4.out)).below HB6.out;have hx6:At w6 w.heap.size #[.int .u64 seq,Zt (some ⟨b,o,none⟩) ps.length vc] 226:=HX4.out.below HB6.out HX4.out.lt;have hv6:w6.ownsRow w.heap.size 5 1 (Zt (some ⟨g6,0,none⟩) 128 c6) 128 (ucells (headSec ep seq ps k)):=Zc9 HV6.out hlo6;have hv4:w6.ownsRow w.heap.size 5 1 (Zt (some ⟨ge,0,none⟩) 128 ce) 128 (ucells (escRow d)):=Zc9 (Zaf HV4.out HB6.out (Za _)) (by rw[Zaa];omega);have HAD:=hid (Zwg dg (sumTo ep seq ps k) (k*128) _ (headSec ep seq ps k) w6 hd6 (Zao (by rw[Zbu];exact hv6)) (by omega) (by rw[Zbu];decide));have HF:Hid (Below w.heap.size w w6/\At w6 dg (digest (sumTo ep seq ps k) (k*128:Nat)) 357/\SecRow w6 w.heap.size (.slice za (secsTo ep seq ps k).length zc) (secsTo ep seq ps k)/\At w6 w.heap.size #[.int .u64 seq,Zt (some ⟨b,o,none⟩) ps.length vc] 226/\w6.ownsRow w.heap.size 5 1 (Zt (some ⟨g6,0,none⟩) 128 c6) 128 (ucells (headSec ep seq ps k))/\w6.ownsRow w.heap.size 5 1 (Zt (some ⟨ge,0,none⟩) 128 ce) 128 (ucells (escRow d))):=⟨hb46,hd6,hs6,hx6,hv6,hv4⟩;clear hb46 hd6 hs6 hx6 hv6 hv4 hb5;have HLN:Hid ((secsTo ep seq ps k).length=2*k):=Zdp _ _ _ _;have hln:=HLN.out;have HCN:Hid (k*128+(headSec ep seq ps k).length=(k+1)*128):=by show _=_;rw[Zbu];omega
     go_wp2_with (first
      |(go_at_call 222;(with_reducible refine HAD.out.mono ?_;intro e w7 hpost;obtain⟨he7,hd7,hc7⟩:=hpost;subst he7;clear HAD;have HG:=hid (Ztf HF.out.1 HF.out.2.1 HF.out.2.2.1 HF.out.2.2.2.1 HF.out.2.2.2.2.1 HF.out.2.2.2.2.2 hd7 hc7 hdgl);rw[HCN.out,<-HSU.out]at HG;have hop:=SecRow.open HG.out.2.2.1;obtain⟨us,e1,e2,e3⟩:=hop;have E1:=hid e1;have E2:Hid ((w7.alloc (.cells #[Zt (some ⟨g6,0,none⟩) 128 c6,Zt (some ⟨ge,0,none⟩) 128 ce] 36)).ownsRow w.heap.size 36 1 (Zt za (2*k) zc) (2*k) us):=(by have h:=e2.alloc (.cells #[Zt (some ⟨g6,0,none⟩) 128 c6,Zt (some ⟨ge,0,none⟩) 128 ce] 36);rw[HLN.out]at h;exact hid h);have E3:=hid e3;have hls:w.heap.size≤w7.heap.size:=HG.out.1.size;clear e1 e2 e3 hd7 hc7))
      |(refine Zar rfl _ _ 220 36 1 24 rfl Zf3 w.heap.size (Zt za (2*k) zc) (2*k) us rfl E2.out _ 2 2 [Zt (some ⟨g6,0,none⟩) 128 c6,Zt (some ⟨ge,0,none⟩) 128 ce] rfl rfl (Ztn _ _ _ _) (by intro u hu;simp at hu;rcases hu with (h|h)<;>rw[h]<;>rfl) (by unfold maxLen;omega) (by omega) (by rw[Zaa];omega) (by decide) ?_;intro v8 w8 hown8 hloc8 hch8 hkeep8;have HO8:=hid hown8;have HC8:=hid hch8;obtain⟨a8,c8,rfl⟩:=Zab hown8;clear hown8 hloc8 hch8 hkeep8))
     obtain⟨q1,q2,q3,q4⟩:=Zk6 HG.out.1 HG.out.2.1 HG.out.2.2.2.1 HG.out.2.2.2.2.1 HG.out.2.2.2.2.2 E1.out HLN.out E2.out E3.out HO8.out HC8.out;exact⟨⟨k+1,K1.out,by go_num,by rw[HST.out];exact q1,q2,q3,q4⟩,by simp[intOf];omega⟩
    ·obtain rfl:k=ps.length:=by omega
     obtain⟨za,zc,rfl⟩:=hz;have HSS:Hid (∀W,Below wr.heap.size wr W->W.cell? ⟨w.heap.size,0,none⟩=some (.int .u64 seq)):=fun W hb=>(hb.cell (p:=⟨w.heap.size,0,none⟩) hx.lt).trans (hx.cell 0)
     have HSA:Hid (wr.cell? ⟨w.heap.size,0,none⟩=some (.int .u64 seq)):=hx.cell 0;have HDS:Hid (∀W,Below wr.heap.size wr W->Calls Tryz.prog 224 #[.pointer (some ⟨dg,0,none⟩)] W fun e w'=>e=.returned (.int .u32 (((sumTo ep seq ps ps.length).toNat:Nat):Int))/\Below wr.heap.size wr w'):=fun W hb=>(Zkk dg _ _ W (hd.below hb hd.lt)).mono (by rintro e w' ⟨rfl,rfl⟩;exact⟨rfl,hb⟩)
     have HCM:Hid (∀W,Calls Tryz.prog 223 #[.agg #[.int .u64 ep,.int .u64 seq,O Z ps.length,.int .u32 (((sumTo ep seq ps ps.length).toNat:Nat):Int)]] W (NewRow W (sealSec ep seq ps))):=fun W=>Zqv ep seq ps.length _ W he hq1 hq hn1 hn2 (sumTo ep seq ps ps.length).isLt
     have HSQ:=hid hs;have HBQ:=hid hbw;have hwl:=hbw.size;have HLN:Hid ((secsTo ep seq ps ps.length).length=2*ps.length):=Zdp _ _ _ _;have hln:=HLN.out;clear hs hd hbw hx c0 c1;go_wp2;go_region_held3 (fun w'=>w'.cell? ⟨w.heap.size,0,none⟩=some (.int .u64 seq))
      (first|exact HSA.out|exact HSB|exact HSC)
      (first
       |(go_at_call 224;(with_reducible refine(HDS.out _ ?_).mono ?_);(first|exact Zb _ _|exact(Zb _ _).drew|exact below_drewN (Zb _ _) _);rintro e w5 ⟨rfl,hb5⟩;have HB5:=hid hb5;have HSB:=HSS.out w5 hb5;clear hb5)
       |(go_at_call 223;(with_reducible refine(HCM.out _).mono ?_);rintro e w6 ⟨v6,rfl,hv6,hb6⟩;have HB6:Hid (Below wr.heap.size wr w6):=HB5.out.trans (hb6.mono HB5.out.size);have HSC:=HSS.out w6 HB6.out;rw[Zen]at hv6;obtain⟨g6,c6,rfl⟩:=Zcd hv6 (by decide);have hlo6:w.heap.size≤w5.heap.size:=Zc hwl HB5.out.size;have HV6:=hid (Zc9 hv6 hlo6);clear hv6 hb6))
     have hop:=SecRow.open (HSQ.out.below HB6.out);obtain⟨us,e1,e2,e3⟩:=hop;have E1:=hid e1;have E3:=hid e3;have E2:Hid ((w6.alloc (.cells #[Zt (some ⟨g6,0,none⟩) 128 c6] 36)).ownsRow w.heap.size 36 1 (Zt za (2*ps.length) zc) (2*ps.length) us):=(by have h:=e2.alloc (.cells #[Zt (some ⟨g6,0,none⟩) 128 c6] 36);rw[HLN.out]at h;exact hid h);have hw6:w.heap.size≤w6.heap.size:=Zc hwl HB6.out.size;clear e1 e2 e3
     go_wp2_with (first
      |(refine Zar rfl _ _ 220 36 1 24 rfl Zf3 w.heap.size (Zt za (2*ps.length) zc) (2*ps.length) us rfl E2.out _ 1 1 [Zt (some ⟨g6,0,none⟩) 128 c6] rfl rfl (Zwz _ _ _) (by intro u hu;simp at hu;rw[hu];rfl) (by unfold maxLen;omega) (by omega) (by rw[Zaa];omega) (by decide) ?_;intro v8 w8 hown8 hloc8 hch8 hkeep8;have HO8:=hid hown8;have HC8:=hid hch8;obtain⟨a8,c8,rfl⟩:=Zab hown8;clear hown8 hloc8 hch8 hkeep8))
     go_ret2;obtain⟨q1,q2⟩:=Zpq (HBQ.out.trans (HB6.out.mono hwl)) HV6.out E1.out HLN.out E2.out E3.out HO8.out HC8.out;exact⟨_,rfl,q1,q2⟩
end Go.Proofs.YtmemlkmnhcealaaGreat
namespace Go
open Value renaming int→O,slice→Zt
open IntKind renaming i64→Z
open Go.RowKit
open Lib(hid)
def Turns(own:Nat->Prop)(B:Nat)(A A':World):Prop:=Chg (fun k=>own k\/(B≤k/\∃o:Obj,A.heap[k]?=some o/\o.isCells=false)) A A'
theorem Turns.ofChg{own:Nat->Prop}{B:Nat}{A A':World}(h:Chg own A A'):Turns own B A A':=h.mono fun _ hk=>.inl hk
theorem Turns.putObj{own:Nat->Prop}{B:Nat}{A:World}{l:Nat}{o:Obj}(hB:B≤l)(hl:A.heap[l]?=some o)(ho:o.isCells=false)(o':Obj):Turns own B A (A.putObj l o'):=
 ⟨rfl,rfl,rfl,by simp,fun k _ hk=>World.putObj_heap_other (fun e=>hk (.inr ⟨by omega,o,by rw[e];exact hl,ho⟩))⟩
theorem At.turns{own:Nat->Prop}{B:Nat}{A A':World}{g:Nat}{cs:Array Value}{t:TypeId}(h:At A g cs t)(hT:Turns own B A A')(hg:¬own g):At A' g cs t:=
 h.mod hT (fun hs=>by
  rcases hs with hs|⟨_,o,ho,hc⟩
  ·exact hg hs
  ·rw[show A.heap[g]?=_ from h]at ho
   cases ho
   cases hc)
theorem Ze8{own:Nat->Prop}{B:Nat}{A A':World}{base:Nat}{e:TypeId}{size:Nat}{v:Value}{n:Nat}{xs:List Value}(h:A.ownsRow base e size v n xs)(hT:Turns own B A A')(hg:∀k,base≤k->¬own k):A'.ownsRow base e size v n xs:=by
 refine⟨h.1,?_⟩;rcases h.2 with hn|⟨g,cap,cur,hv,hb,hh,r⟩
 ·exact .inl hn
 ·exact .inr ⟨g,cap,cur,hv,hb,At.turns (cs:=cur) hh hT (hg g hb),r⟩
def SeqW{α:Type}(m:Nat)(P:Program)(g:Nat)(lb:Array Value)(encs:α->Array Value)(own:Nat->Prop)(B:Nat)(xs:List α)(w0:World):Prop:=
 ∀(l:Nat) (J Jx:List α->World->Prop) (W:World),Below B w0 W->
  (∀pre A A',J pre A->Chg own A A'->J pre A')->(∀pre A A',Jx pre A->Chg own A A'->Jx pre A')->
  (∀pre x A,(pre++ [x])<+:xs->J pre A->YieldAt Fence.wide (m-1) P l (encs x) A fun e A'=>
   (e=.returned (.bool true)/\J (pre++ [x]) A'/\Below B A A')\/(e=.returned (.bool false)/\Jx (pre++ [x]) A'))->
  J [] W->CallsIn Fence.wide m P g (#[.func (.yield l) #[] #[]]++lb) W fun e W'=>(∃v,e=.returned v)/\(J xs W'\/∃pre,Jx pre W')
def roundEnd{α:Type}(C B:Nat)(I:List α->World->Prop)(Ix:Code->List α->World->Prop)(xs:List α)(W:World):Exit->Act->World->Prop
 | .normal,_,W'=>KeepsFrom C W W'/\Below B W W'/\I xs W'
 | .ret,_,W'=>KeepsFrom C W W'/\Ix .ret xs W'
 | .exit id,_,W'=>KeepsFrom C W W'/\Ix (.exit id) xs W'
 | .goto t,_,W'=>KeepsFrom C W W'/\Ix (.goto t) xs W'
 | .panic _,_,_=>False
 | .outgrown,_,_=>False
theorem Zgp{α:Type}{n:Nat}{P:Program}{g:Operand}{ps:Array Tmp}{assign body:Code}{Q:Exit->Act->World->Prop}{a:Act}{w:World}
  {gf:Nat} {lb:Array Value} (hg:a.eval g=.func (.func gf) #[] lb) (eg:∀args w,(callFunc gf args).run P w=.ok (.enter gf args) w)
  {encs:α->Array Value} {own:Nat->Prop} {B:Nat} {xs:List α} {w0:World} (hseq:SeqW (n-1) P gf lb encs own B xs w0) (hb0:Below B w0 w) (hBw:B≤w.heap.size) (hown:∀k,own k->k<B)
  (hps:∀x,(encs x).size=ps.size)
  (I:List α->World->Prop) (Ix:Code->List α->World->Prop)
  (hI:∀pre A A',I pre A->Turns own w.heap.size A A'->I pre A') (hIx:∀c pre A A',Ix c pre A->Turns own w.heap.size A A'->Ix c pre A')
  (h0:∀W1,Below w.heap.size w W1->I [] W1)
  (Ax:Nat->List α->α->Act->World->Prop) (hAx:∀l pre x a' A A',Ax l pre x a' A->Turns own w.heap.size A A'->Ax l pre x a' A')
  (hassign:∀(l:Nat) (pre:List α) (x:α) (W:World) (K:Act->World->Prop),w.heap.size≤l->l<W.heap.size->(pre++ [x])<+:xs->I pre W->(∀a' W',KeepsFrom w.heap.size W W'->Below B W W'->Ax l pre x a' W'->K a' W')->
   assign.wpIn (Fence.wide.inRound l) (n-1-1) P (Exit.then K (fun _ _ _=>False)) {tmps:=(ps.zip (encs x)).foldl (fun t (p,v)=>t.setIfInBounds p v) a.tmps,defers:= []} W)
  (hbody:∀(l:Nat) (pre:List α) (x:α) (a':Act) (W:World),w.heap.size≤l->(∃r,W.heap[l]?=some (.loop r))->(pre++ [x])<+:xs->Ax l pre x a' W->
   body.wpIn (Fence.wide.inRound l) (n-1-1) P (roundEnd w.heap.size B I Ix (pre++ [x]) W) a' W)
  (hdone:∀(D:Nat) (W:World),w.heap.size≤D->I xs W->W.heap[D]?=some (.deferred (some []))->Q .normal {a with defers:={target:=.collected D,args:= #[]}::a.defers} W)
  (hstop:∀(D:Nat) (c:Code) (pre:List α) (W:World),w.heap.size≤D->Ix c pre W->W.heap[D]?=some (.deferred (some []))->c.wpIn Fence.wide n P Q {a with defers:={target:=.collected D,args:= #[]}::a.defers} W):
  (Code.rangeFunc g ps assign body).wpIn Fence.wide n P Q a w:=by
 refine wpIn_rangeFunc fun fn hfn=> ?_
 obtain⟨rec,hrec⟩:∃rec:LoopState->Option Code->Loop,rec=fun st pe=>{state:=st,pending:=pe,fn,tmps:=a.tmps,params:=ps,assign,body,defers:=w.heap.size}:=⟨_,rfl⟩
 obtain⟨W1,hW1⟩:∃W1,(w.alloc (.deferred (some []))).alloc (.loop (rec .ready none))=W1:=⟨_,rfl⟩;have hD1:W1.heap[w.heap.size]?=some (.deferred (some [])):=by rw[<-hW1];exact heap_alloc2_old w _ _
 have hL1:W1.heap[w.heap.size+1]?=some (.loop (rec .ready none)):=by rw[<-hW1];exact heap_alloc2_new w _ _
 have hbw:Below w.heap.size w W1:=by rw[<-hW1];exact((Zb _ w).alloc (Za _) _).alloc (by rw[Zaa];omega) _
 have hno:∀k,w.heap.size≤k->¬own k:=fun k hk ho=>by have:=hown k ho;omega
 refine⟨w.heap.size+1,[{target:=.collected w.heap.size,args:= #[]}],W1,{target:=.fn (.func gf) lb,args:= #[.func (.yield (w.heap.size+1)) #[] #[]]},W1,gf,
  #[.func (.yield (w.heap.size+1)) #[] #[]]++lb,W1,?_,?_,fun _ _=>trivial,?_,fun h=>by simp[Fence.wide]at h,?_⟩
 ·rw[<-hW1,hrec];exact run_enterLoop_outer _ _ _ _ _
 ·simp only [resolve,hg];simp[go_sem]
 ·simp[invoke,go_sem,eg]
 have chgKeep:∀{A A':World} {k:Nat} {o:Obj},A.heap[k]?=some o->w.heap.size≤k->Chg own A A'->A'.heap[k]?=some o:=fun hk hle hc=>
  (hc.block _ (Array.getElem?_eq_some_iff.1 hk).1 (hno _ hle)).trans hk
 refine(hseq (w.heap.size+1)
  (fun pre W=>I pre W/\W.heap[w.heap.size+1]?=some (.loop (rec .ready none))/\W.heap[w.heap.size]?=some (.deferred (some [])))
  (fun pre W=>∃c,Ix c pre W/\W.heap[w.heap.size+1]?=some (.loop (rec .done (some c)))/\W.heap[w.heap.size]?=some (.deferred (some [])))
  W1 (hb0.trans (hbw.mono hBw))
  (fun pre A A' ⟨h1,h2,h3⟩ hc=>⟨hI pre A A' h1 (Turns.ofChg hc),chgKeep h2 (by omega) hc,chgKeep h3 (Za _) hc⟩)
  (fun pre A A' ⟨c,h1,h2,h3⟩ hc=>⟨c,hIx c pre A A' h1 (Turns.ofChg hc),chgKeep h2 (by omega) hc,chgKeep h3 (Za _) hc⟩)
  ?_ ⟨h0 W1 hbw,hL1,hD1⟩).mono ?_
 ·
  rintro pre x W hpre ⟨hi,hl,hd⟩
  have hy:=run_yield (P:=P) (args:=encs x) hl (by rw[hrec];exact hps x)
  rw[hrec]at hy
  refine⟨fn,_,assign,body,hy,roundIn_of_wpIn hfn (hassign _ pre x W _ (by omega) (Array.getElem?_eq_some_iff.1 hl).1 hpre hi fun a' Wa hka hba hax=> ?_)⟩
  have hla:=hka.same _ _ (by omega) hl rfl
  have hda:=hka.same _ _ (Za _) hd rfl
  have hlt:w.heap.size+1<Wa.heap.size:=(Array.getElem?_eq_some_iff.1 hla).1
  refine⟨_,run_beginRound hla (by rw[hrec]),?_⟩
  obtain⟨Wb,hWb⟩:∃Wb,Wa.putObj (w.heap.size+1) (.loop {rec .ready none with state:=.busy})=Wb:=⟨_,rfl⟩
  rw[hWb]
  have hlb:Wb.heap[w.heap.size+1]?=some (.loop {rec .ready none with state:=.busy}):=by rw[<-hWb];exact World.putObj_heap_same hlt
  have hdb:Wb.heap[w.heap.size]?=some (.deferred (some [])):=by rw[<-hWb];exact(World.putObj_heap_other (by omega)).trans hda
  have hTb:Turns own w.heap.size Wa Wb:=by rw[<-hWb];exact Turns.putObj (by omega) hla rfl _
  have hbB:∀{X:World} (o:Obj),Below B X (X.putObj (w.heap.size+1) o):=fun {X} o=>⟨rfl,rfl,rfl,by simp,fun k hk=>World.putObj_heap_other (by omega)⟩
  have hbb:Below B W Wb:=by rw[<-hWb];exact hba.trans (hbB _)
  refine wpIn_mono (hbody _ pre x a' Wb (by omega) ⟨_,hlb⟩ hpre (hAx _ _ _ _ _ _ hax hTb)) ?_
  have fin:∀(jump:Option Code) (W3:World),KeepsFrom w.heap.size Wb W3->
    (Instr.endRound (w.heap.size+1) jump).run P W3=.ok (.bool jump.isNone) (W3.putObj (w.heap.size+1) (.loop (rec (if jump.isNone then .ready else .done) jump)))/\
    W3.heap[w.heap.size+1]?=some (.loop {rec .ready none with state:=.busy})/\
    (W3.putObj (w.heap.size+1) (.loop (rec (if jump.isNone then .ready else .done) jump))).heap[w.heap.size+1]?=some (.loop (rec (if jump.isNone then .ready else .done) jump))/\
    (W3.putObj (w.heap.size+1) (.loop (rec (if jump.isNone then .ready else .done) jump))).heap[w.heap.size]?=some (.deferred (some [])):=fun jump W3 hk3=>by
   have hl3:=hk3.same _ _ (by omega) hlb rfl;have hr:=run_endRound (P:=P) jump hl3;rw[hrec]at hr ⊢;exact⟨hr,by rw[hrec]at hl3;exact hl3,World.putObj_heap_same (Array.getElem?_eq_some_iff.1 hl3).1,(World.putObj_heap_other (by omega)).trans (hk3.same _ _ (Za _) hdb rfl)⟩
  rintro e a3 W3 hp
  cases e with
  |normal=>
   obtain⟨hk3,hb3,hi3⟩:=hp;obtain⟨hr,hl3,hl4,hd4⟩:=fin none W3 hk3;exact⟨_,_,hr,.inl ⟨rfl,⟨hI _ _ _ hi3 (Turns.putObj (by omega) hl3 rfl _),hl4,hd4⟩,(hbb.trans hb3).trans (hbB _)⟩⟩
  |ret=>
   obtain⟨hk3,hi3⟩:=hp;obtain⟨hr,hl3,hl4,hd4⟩:=fin (some .ret) W3 hk3;exact⟨_,_,hr,.inr ⟨rfl,.ret,hIx _ _ _ _ hi3 (Turns.putObj (by omega) hl3 rfl _),hl4,hd4⟩⟩
  |exit id=>
   obtain⟨hk3,hi3⟩:=hp;obtain⟨hr,hl3,hl4,hd4⟩:=fin (some (.exit id)) W3 hk3;exact⟨_,_,hr,.inr ⟨rfl,.exit id,hIx _ _ _ _ hi3 (Turns.putObj (by omega) hl3 rfl _),hl4,hd4⟩⟩
  |goto t=>
   obtain⟨hk3,hi3⟩:=hp;obtain⟨hr,hl3,hl4,hd4⟩:=fin (some (.goto t)) W3 hk3;exact⟨_,_,hr,.inr ⟨rfl,.goto t,hIx _ _ _ _ hi3 (Turns.putObj (by omega) hl3 rfl _),hl4,hd4⟩⟩
  |panic ch=>exact hp.elim
  |outgrown=>exact hp.elim
 ·
  rintro e W2 ⟨⟨v,rfl⟩,(⟨hi,hl,hd⟩|⟨pre,c,hi,hl,hd⟩)⟩
  ·exact⟨none,_,by have h:=run_endLoop (P:=P) hl (by rw[hrec];simp);rw[hrec]at h;exact h,hdone _ _ (Za _) (hI _ _ _ hi (Turns.putObj (by omega) hl rfl _)) ((World.putObj_heap_other (by omega)).trans hd)⟩
  ·exact⟨some c,_,by have h:=run_endLoop (P:=P) hl (by rw[hrec];simp);rw[hrec]at h;exact h,hstop _ c pre _ (Za _) (hIx _ _ _ _ hi (Turns.putObj (by omega) hl rfl _)) ((World.putObj_heap_other (by omega)).trans hd)⟩
end Go
