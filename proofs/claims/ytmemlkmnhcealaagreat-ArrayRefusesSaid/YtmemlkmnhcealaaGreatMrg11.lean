
/- Several texts in one: WalC, WalD, WalE, WalF, WalG, WalH, WalI. -/
import Derived.Test.YtmemlkmnhcealaaGreatMrg10
set_option linter.unusedVariables false
set_option maxRecDepth 100000
set_option maxHeartbeats 4000000
namespace Go.Proofs.YtmemlkmnhcealaaGreat
open Value renaming int→O,pointer→Zs
open IntKind renaming i64→Z
open Ending renaming returned→Zu
open Obj renaming cells→Zv
open Go.Proofs.Tryz renaming prog→Zw
open Go.RowKit
open Lib(hid)
variable {cells:Array Value} {s s':BaySt} {b wp:Nat} {T:Nat->Nat} {w w1 w2:World}
def tried(br:Nat)(s:BaySt)(r:Nat×BaySt):Nat×BaySt:=if br=0 then r else (br,s)
theorem WalPost.after(hb:Below w.heap.size w w1)(h:WalPost w1 T b s' wp cells w2):WalPost w T b s' wp cells w2:=by
 obtain⟨T',k1,k2,k3,k4⟩:=h;exact⟨T',k1,fun q hq=>k2 q (Zd hq hb.size),Zaj (Zm hb _) k3 (fun q hq hs=>hs),k4⟩
theorem WalPost.same(h:BayAt w T b s)(hw:At w wp cells 148)(hb:Below w.heap.size w w1):WalPost w T b s wp cells w1:=
 ⟨T,h.below hb,fun _ _=>rfl,Zm hb _,hw.below hb hw.lt⟩
theorem Zae(h:BayAt w T b s)(g:Nat)(hg:w.heap.size≤g):T g=0:=by
 obtain⟨gs,ptr,tg,dp,h⟩:=h;exact h.virgin g hg
theorem Zhm(h:BayAt w T b s)(slot ep rp next br wp:Nat)(sure:Bool)(lg:Option Nat)(hw:At w wp (walCells b slot ep rp next sure lg br) 148)(tw:T wp=0)(z:Nat)(v:Value)(l:List UInt8)(hv:Seg w v l)(hvT:NotBay T v)(hcnt:s.cnt 1≤1000000000000)(hm:s.small 1000000):
  Calls Zw 81 #[Zs (some ⟨wp,0,none⟩),O Z z,v] w fun e w'=>e=Zu (.int .u16 ((tried br s (s.write slot z l)).1:Nat))/\WalPost w T b (tried br s (s.write slot z l)).2 wp (walCells b slot ep rp next sure lg (tried br s (s.write slot z l)).1) w':=by
 obtain⟨va,vc,rfl⟩:=hv.shape;have hb:Below w.heap.size w (((w.alloc (Zv #[Zs (some ⟨wp,0,none⟩)] 66)).alloc (Zv #[O Z z] 3)).alloc (Zv #[.slice va l.length vc] 36)):=(((Zb _ _).alloc (Za _) _).alloc (by rw[Zaa];omega) _).alloc (by rw[Zaa,Zaa];omega) _;have h0:At (((w.alloc (Zv #[Zs (some ⟨wp,0,none⟩)] 66)).alloc (Zv #[O Z z] 3)).alloc (Zv #[.slice va l.length vc] 36)) w.heap.size #[Zs (some ⟨wp,0,none⟩)] 66:=((At.new _ _ _).alloc _).alloc _;have h1:At (((w.alloc (Zv #[Zs (some ⟨wp,0,none⟩)] 66)).alloc (Zv #[O Z z] 3)).alloc (Zv #[.slice va l.length vc] 36)) (w.heap.size+1) #[O Z z] 3:=(At.new2 _ _ _ _).alloc _;have h2:At (((w.alloc (Zv #[Zs (some ⟨wp,0,none⟩)] 66)).alloc (Zv #[O Z z] 3)).alloc (Zv #[.slice va l.length vc] 36)) (w.heap.size+2) #[.slice va l.length vc] 36:=At.new3 _ _ _ _ _;have c0:(((w.alloc (Zv #[Zs (some ⟨wp,0,none⟩)] 66)).alloc (Zv #[O Z z] 3)).alloc (Zv #[.slice va l.length vc] 36)).cell? ⟨w.heap.size,0,none⟩=some (Zs (some ⟨wp,0,none⟩)):=h0.cell 0
 have HT:Hid (Calls Zw 120 #[Zs (some ⟨wp,0,none⟩),.func (.func 121) #[] #[Zs (some ⟨w.heap.size,0,none⟩),Zs (some ⟨w.heap.size+1,0,none⟩),Zs (some ⟨w.heap.size+2,0,none⟩)]] (((w.alloc (Zv #[Zs (some ⟨wp,0,none⟩)] 66)).alloc (Zv #[O Z z] 3)).alloc (Zv #[.slice va l.length vc] 36))
   fun e w'=>e=Zu (.int .u16 ((tried br s (s.write slot z l)).1:Nat))/\WalPost w T b (tried br s (s.write slot z l)).2 wp (walCells b slot ep rp next sure lg (tried br s (s.write slot z l)).1) w'):=by
  by_cases hbr:br=0
  ·subst hbr
   have ht:tried 0 s (s.write slot z l)=s.write slot z l:=Zf rfl;rw[ht]
   exact(Zkb (h.below hb) slot ep rp next wp sure lg (hw.below hb hw.lt) _ _ _ z _ l h0 h1 h2 (hv.below hb) hvT (Zae h _ (by omega)) (Zae h _ (by omega)) (Zae h _ (by omega)) tw hcnt hm).mono (by
    rintro e w' ⟨rfl,hp⟩
    exact⟨rfl,hp.after hb⟩)
  ·have ht:tried br s (s.write slot z l)=(br,s):=Ze hbr
   rw[ht]
   exact(Zep b slot ep rp next br wp sure lg _ (hw.below hb hw.lt) hbr).mono (by
    rintro e w' ⟨rfl,rfl⟩
    exact⟨rfl,WalPost.same h hw hb⟩)
 have e1:(w.alloc (Zv #[Zs (some ⟨wp,0,none⟩)] 66)).heap.size=w.heap.size+1:=Zaa _ _;have e2:((w.alloc (Zv #[Zs (some ⟨wp,0,none⟩)] 66)).alloc (Zv #[O Z z] 3)).heap.size=w.heap.size+2:=by rw[Zaa,e1]
 clear h hw hv hb h0 h1 h2;generalize tried br s (s.write slot z l)=r at*;go_enter Tryz.func81,Tryz.ntmps81
 go_wp2_with (first
  |(go_at_call 120;(with_reducible refine HT.out.mono ?_);rintro e w1 ⟨rfl,hp⟩;have HP:=hid hp;clear hp))
 go_ret;exact⟨rfl,HP.out⟩
theorem Zha(h:BayAt w T b s)(slot ep rp next br wp:Nat)(sure:Bool)(lg:Option Nat)(hw:At w wp (walCells b slot ep rp next sure lg br) 148)(tw:T wp=0)(hcnt:s.cnt 2≤1000000000000)(hm:s.small 1000000):
  Calls Zw 123 #[Zs (some ⟨wp,0,none⟩)] w fun e w'=>e=Zu (.int .u16 ((tried br s (s.flush slot)).1:Nat))/\WalPost w T b (tried br s (s.flush slot)).2 wp (walCells b slot ep rp next sure lg (tried br s (s.flush slot)).1) w':=by
 have hb:Below w.heap.size w (w.alloc (Zv #[Zs (some ⟨wp,0,none⟩)] 66)):=(Zb _ _).alloc (Za _) _;have h0:At (w.alloc (Zv #[Zs (some ⟨wp,0,none⟩)] 66)) w.heap.size #[Zs (some ⟨wp,0,none⟩)] 66:=At.new _ _ _;have c0:(w.alloc (Zv #[Zs (some ⟨wp,0,none⟩)] 66)).cell? ⟨w.heap.size,0,none⟩=some (Zs (some ⟨wp,0,none⟩)):=h0.cell 0
 have HT:Hid (Calls Zw 120 #[Zs (some ⟨wp,0,none⟩),.func (.func 164) #[] #[Zs (some ⟨w.heap.size,0,none⟩)]] (w.alloc (Zv #[Zs (some ⟨wp,0,none⟩)] 66))
   fun e w'=>e=Zu (.int .u16 ((tried br s (s.flush slot)).1:Nat))/\WalPost w T b (tried br s (s.flush slot)).2 wp (walCells b slot ep rp next sure lg (tried br s (s.flush slot)).1) w'):=by
  by_cases hbr:br=0
  ·subst hbr
   have ht:tried 0 s (s.flush slot)=s.flush slot:=Zf rfl;rw[ht]
   exact(Zjw (h.below hb) slot ep rp next wp sure lg (hw.below hb hw.lt) _ h0 (Zae h _ (by omega)) tw hcnt hm).mono (by
    rintro e w' ⟨rfl,hp⟩
    exact⟨rfl,hp.after hb⟩)
  ·have ht:tried br s (s.flush slot)=(br,s):=Ze hbr
   rw[ht]
   exact(Zep b slot ep rp next br wp sure lg _ (hw.below hb hw.lt) hbr).mono (by
    rintro e w' ⟨rfl,rfl⟩
    exact⟨rfl,WalPost.same h hw hb⟩)
 clear h hw hb h0;generalize tried br s (s.flush slot)=r at*;go_enter Tryz.func123,Tryz.ntmps123
 go_wp2_with (first
  |(go_at_call 120;(with_reducible refine HT.out.mono ?_);rintro e w1 ⟨rfl,hp⟩;have HP:=hid hp;clear hp))
 go_ret;exact⟨rfl,HP.out⟩
open Go.RowKit
def pointed(br slot:Nat)(s:BaySt)(sec:List UInt8):Nat×BaySt:=
 if (tried br s (s.write slot 1 sec)).1=0 then (tried br s (s.write slot 1 sec)).2.flush slot else tried br s (s.write slot 1 sec)
theorem WalPost.trans{T1:Nat->Nat}{s2:BaySt}{c2:Array Value}(h1:∀q,q<w.heap.size->T1 q=T q)(hc:Chg (fun q=>T q≠0\/q=wp) w w1)(h:WalPost w1 T1 b s2 wp c2 w2):WalPost w T b s2 wp c2 w2:=by
 obtain⟨T',k1,k2,k3,k4⟩:=h;exact⟨T',k1,fun q hq=>(k2 q (Zd hq hc.size)).trans (h1 q hq),Zaj hc k3 (fun q hq hs=>by rw[<-h1 q hq];exact hs),k4⟩
theorem Zl4(h:BayAt w T b s)(slot ep rp next br wp:Nat)(sure:Bool)(lg:Option Nat)(hw:At w wp (walCells b slot ep rp next sure lg br) 148)(tw:T wp=0)(size tail used i:Nat)(hr:RingAt w rp size tail used)(h0:0<size)(h2:size≤2048)(h3:tail<size)(h4:used≤size)(hi:i≤4096)
  (v:Value) (l:List UInt8) (hv:Seg w v l) (hvT:NotBay T v) (hcnt:s.cnt 1≤1000000000000) (hm:s.small 1000000):
  Calls Zw 149 #[Zs (some ⟨wp,0,none⟩),O Z i,v] w fun e w'=>e=Zu (.int .u16 ((tried br s (s.write slot (2+((tail+used)%size+i)%size:Nat) l)).1:Nat))/\WalPost w T b (tried br s (s.write slot (2+((tail+used)%size+i)%size:Nat) l)).2 wp (walCells b slot ep rp next sure lg (tried br s (s.write slot (2+((tail+used)%size+i)%size:Nat) l)).1) w':=by
 obtain⟨va,vc,rfl⟩:=hv.shape;have hlt:=hw.lt;have HSS:Hid (∀W,Below w.heap.size w W->W.cell? ⟨wp,3,none⟩=some (Zs (some ⟨rp,0,none⟩))):=fun W hb=>(hb.cell (p:=⟨wp,3,none⟩) hlt).trans (hw.cell 3)
 have HSA:=hid (HSS.out w (Zb _ _))
 have HH:Hid (∀W,Below w.heap.size w W->Calls Zw 203 #[Zs (some ⟨rp,0,none⟩)] W fun e w'=>e=Zu (O Z ((tail+used)%size:Nat))/\Below w.heap.size w w'):=fun W hb=>(Zkx rp size tail used W (hr.below hb hr.lt) h2 h0 h3 h4).mono (by
  rintro e w' ⟨rfl,hb'⟩
  exact⟨rfl,hb.trans (hb'.mono hb.size)⟩)
 have HZ:Hid (∀W,Below w.heap.size w W->Calls Zw 143 #[Zs (some ⟨rp,0,none⟩)] W fun e w'=>e=Zu (O Z (size:Nat))/\Below w.heap.size w w'):=fun W hb=>(Zjy rp size tail used W (hr.below hb hr.lt)).mono (by
  rintro e w' ⟨rfl,rfl⟩
  exact⟨rfl,hb⟩)
 have hp1:(tail+used)%size<size:=Nat.mod_lt _ h0;have HWR:Hid (∀W,Below w.heap.size w W->Calls Zw 81 #[Zs (some ⟨wp,0,none⟩),O Z (2+(((tail+used)%size:Nat)+(i:Int))%(size:Int)),.slice va l.length vc] W fun e w'=>e=Zu (.int .u16 ((tried br s (s.write slot (2+((tail+used)%size+i)%size:Nat) l)).1:Nat))/\WalPost w T b (tried br s (s.write slot (2+((tail+used)%size+i)%size:Nat) l)).2 wp (walCells b slot ep rp next sure lg (tried br s (s.write slot (2+((tail+used)%size+i)%size:Nat) l)).1) w'):=fun W hb=>by
  have e:(2+(((tail+used)%size:Nat)+(i:Int))%(size:Int))=((2+((tail+used)%size+i)%size:Nat):Int):=by push_cast;rfl
  rw[e]
  exact(Zhm (h.below hb) slot ep rp next br wp sure lg (hw.below hb hlt) tw (2+((tail+used)%size+i)%size) _ l (hv.below hb) hvT hcnt hm).mono (by
   rintro e w' ⟨rfl,hp⟩
   exact⟨rfl,hp.after hb⟩)
 clear h hw hr hv;generalize (tail+used)%size=p at*;have hmod:(0:Int)≤((p:Int)+(i:Int))%(size:Int)/\((p:Int)+(i:Int))%(size:Int)<size:=⟨Int.emod_nonneg _ (by omega),Int.emod_lt_of_pos _ (by omega)⟩;have hwrap:IntKind.i64.wrap (2+((p:Int)+(i:Int))%(size:Int))=2+((p:Int)+(i:Int))%(size:Int):=by
  obtain⟨m1,m2⟩:=hmod;generalize ((p:Int)+(i:Int))%(size:Int)=m at*;rw[IntKind.wrap_i64];omega
 have hs0:¬((size:Int)=0):=by omega
 have hs3:(0:Int)≤(p:Int)+(i:Int):=by omega
 have hs4:Int.tmod ((p:Int)+(i:Int)) (size:Int)=((p:Int)+(i:Int))%(size:Int):=Int.tmod_eq_emod_of_nonneg hs3;have hs6:¬size=0:=by omega
 have hs7:IntKind.i64.wrap ((p:Int)+(i:Int))=(p:Int)+(i:Int):=by rw[IntKind.wrap_i64];omega
 generalize tried br s (s.write slot (2+(p+i)%size:Nat) l)=r at*;go_enter Tryz.func149,Tryz.ntmps149;go_wp2;go_region_held3 (fun W=>W.cell? ⟨wp,3,none⟩=some (Zs (some ⟨rp,0,none⟩)))
  (first|exact HSA.out|exact HSB|exact HSC|exact HSD)
  (first
   |(go_at_call 203;(with_reducible refine(HH.out _ ?_).mono ?_);(first|exact Zb _ _|exact(Zb _ _).drew|exact below_drewN (Zb _ _) _);rintro e w1 ⟨rfl,hb1⟩;have HSB:=HSS.out w1 hb1)
   |(go_at_call 143;(with_reducible refine(HZ.out _ ?_).mono ?_);(exact hb1);rintro e w2 ⟨rfl,hb2⟩;have HSC:=HSS.out w2 hb2)
   |(go_at_call 81;(with_reducible refine(HWR.out _ ?_).mono ?_);(exact hb2);rintro e w3 ⟨rfl,hp⟩;have HP:=hid hp;have HSD:w3.cell? ⟨wp,3,none⟩=some (Zs (some ⟨rp,0,none⟩)):=hp.choose_spec.2.2.2.cell 3;clear hp))
 go_wp2;go_ret;exact⟨rfl,HP.out⟩
open Go.RowKit
theorem Zer(h:BayAt w T b s)(slot ep rp next br wp:Nat)(sure:Bool)(lg:Option Nat)(hw:At w wp (walCells b slot ep rp next sure lg br) 148)(tw:T wp=0)(cep cseq t:Nat)(he:cep≤4611686018427387904)(hq1:1≤cseq)(hq:cseq≤4611686018427387904)(ht:t≤2047)
  (hcnt:s.cnt 1≤1000000000000) (hm:s.small 1000000) (hcnt2:(tried br s (s.write slot 1 (recSec 3 cep cseq (leN t 4)))).2.cnt 2≤1000000000000) (hm2:(tried br s (s.write slot 1 (recSec 3 cep cseq (leN t 4)))).2.small 1000000):
  Calls Zw 82 #[Zs (some ⟨wp,0,none⟩),.agg #[.int .u64 cep,.int .u64 cseq,O Z t]] w fun e w'=>e=Zu (.int .u16 ((pointed br slot s (recSec 3 cep cseq (leN t 4))).1:Nat))/\WalPost w T b (pointed br slot s (recSec 3 cep cseq (leN t 4))).2 wp (walCells b slot ep rp next sure lg (pointed br slot s (recSec 3 cep cseq (leN t 4))).1) w':=by
 have hlt:=hw.lt;have hbox:=At.new w #[.int .u64 cep,.int .u64 cseq,O Z t] 151;have c0:=hbox.cell 0;have c1:=hbox.cell 1;have c2:=hbox.cell 2;have HL:Hid ((recSec 3 cep cseq (leN t 4)).length=128):=Za5 _ _ _ _ (by simp[Zal]);have HE:Hid (Calls Zw 122 #[.agg #[.int .u64 cep,.int .u64 cseq,O Z t]] (w.alloc (Zv #[.int .u64 cep,.int .u64 cseq,O Z t] 151)) (NewRow (w.alloc (Zv #[.int .u64 cep,.int .u64 cseq,O Z t] 151)) (recSec 3 cep cseq (leN t 4)))):=Zr9 cep cseq t _ he hq1 hq ht;have hP:pointed br slot s (recSec 3 cep cseq (leN t 4))=if (tried br s (s.write slot 1 (recSec 3 cep cseq (leN t 4)))).1=0 then (tried br s (s.write slot 1 (recSec 3 cep cseq (leN t 4)))).2.flush slot else tried br s (s.write slot 1 (recSec 3 cep cseq (leN t 4))):=rfl;have HWR:Hid (∀W g c,Below w.heap.size w W->w.heap.size≤g->Seg W (.slice (some ⟨g,0,none⟩) 128 c) (recSec 3 cep cseq (leN t 4))->Calls Zw 81 #[Zs (some ⟨wp,0,none⟩),O Z 1,.slice (some ⟨g,0,none⟩) 128 c] W fun e w'=>e=Zu (.int .u16 ((tried br s (s.write slot 1 (recSec 3 cep cseq (leN t 4)))).1:Nat))/\WalPost w T b (tried br s (s.write slot 1 (recSec 3 cep cseq (leN t 4)))).2 wp (walCells b slot ep rp next sure lg (tried br s (s.write slot 1 (recSec 3 cep cseq (leN t 4)))).1) w'):=fun W g c hb hg hv=>
  (Zhm (h.below hb) slot ep rp next br wp sure lg (hw.below hb hlt) tw 1 _ _ hv (fun a n c' e=>by
   simp only [Zn,Zg]at e
   obtain⟨rfl,-,-⟩:=e
   exact Zae h g hg) hcnt hm).mono (by
   rintro e w' ⟨rfl,hp⟩
   exact⟨rfl,hp.after hb⟩)
 rw[hP];clear h hw hbox hP;generalize tried br s (s.write slot 1 (recSec 3 cep cseq (leN t 4)))=a at*;obtain⟨a1,a2⟩:=a;generalize recSec 3 cep cseq (leN t 4)=sec at*;simp only at*;by_cases ha:a1=0
 ·subst ha
  rw[Zf rfl];generalize hr:a2.flush slot=r;have HF:Hid (∀W,WalPost w T b a2 wp (walCells b slot ep rp next sure lg 0) W->Calls Zw 123 #[Zs (some ⟨wp,0,none⟩)] W fun e w'=>e=Zu (.int .u16 (r.1:Nat))/\WalPost w T b r.2 wp (walCells b slot ep rp next sure lg r.1) w'):=fun W hp=>by
   obtain⟨T1,k1,k2,k3,k4⟩:=hp;have:=Zha k1 slot ep rp next 0 wp sure lg k4 (by rw[k2 wp hlt];exact tw) hcnt2 hm2;rw[show tried 0 a2 (a2.flush slot)=r from hr]at this
   exact this.mono (by
    rintro e w' ⟨rfl,hp⟩
    exact⟨rfl,hp.trans k2 k3⟩)
  clear hr;go_enter Tryz.func82,Tryz.ntmps82
  go_wp2_with (first
   |(go_at_call 122;(with_reducible refine HE.out.mono ?_);rintro e w2 ⟨v,rfl,hv,hb2⟩;rw[HL.out]at hv;obtain⟨g,c,rfl⟩:=Zcd hv (by decide);have HB2:Hid (Below w.heap.size w w2):=((Zb w.heap.size w).alloc (Za _) _).trans (hb2.mono (by rw[Zaa];omega));have hg:w.heap.size≤g:=(by have:=(hv.lt g rfl).1;rw[Zaa]at this;omega);have HV:=hid (Zao (l:=sec) (by rw[HL.out];exact hv));clear hv hb2)
   |(go_at_call 81;(with_reducible refine(HWR.out _ _ _ HB2.out hg HV.out).mono ?_);rintro e w3 ⟨rfl,hp⟩;have HP:=hid hp;clear hp)
   |(go_at_call 123;(with_reducible refine(HF.out _ HP.out).mono ?_);rintro e w4 ⟨rfl,hp⟩;have HQ:=hid hp;clear hp))
  go_ret;exact⟨rfl,HQ.out⟩
 ·rw[Ze ha]
  have hne:((a1:Int)==0)=false:=beq_eq_false_iff_ne.2 (by omega);go_enter Tryz.func82,Tryz.ntmps82
  go_wp2_with (first
   |(go_at_call 122;(with_reducible refine HE.out.mono ?_);rintro e w2 ⟨v,rfl,hv,hb2⟩;rw[HL.out]at hv;obtain⟨g,c,rfl⟩:=Zcd hv (by decide);have HB2:Hid (Below w.heap.size w w2):=((Zb w.heap.size w).alloc (Za _) _).trans (hb2.mono (by rw[Zaa];omega));have hg:w.heap.size≤g:=(by have:=(hv.lt g rfl).1;rw[Zaa]at this;omega);have HV:=hid (Zao (l:=sec) (by rw[HL.out];exact hv));clear hv hb2)
   |(go_at_call 81;(with_reducible refine(HWR.out _ _ _ HB2.out hg HV.out).mono ?_);rintro e w3 ⟨rfl,hp⟩;have HP:=hid hp;clear hp))
  go_ret;exact⟨rfl,HP.out⟩
open Go.RowKit
theorem WalPost.set(hp:WalPost w T b s' wp cells w1)(hl:wp<w.heap.size)(tw:T wp=0)(i:Nat)(u:Value):
  WalPost w T b s' wp (cells.setIfInBounds i u) (w1.setCell ⟨wp,i,none⟩ u):=by
 obtain⟨T',h1,h2,h3,h4⟩:=hp;refine⟨T',h1.keep (S:=fun q=>q=wp) (Zk (S:=fun q=>q=wp) (Zl _ _) ⟨wp,i,none⟩ (.inl rfl) u) (fun k hk e=>hk (by rw[e,h2 wp hl];exact tw)),h2,?_,h4.set i u⟩;exact Zk (S:=fun q=>T q≠0\/q=wp) h3 ⟨wp,i,none⟩ (.inl (.inr rfl)) u
theorem Zo2(b slot ep rp next br wp size tail used:Nat)(sure:Bool)(lg:Option Nat)(hw:At w wp (walCells b slot ep rp next sure lg br) 148)(hr:RingAt w rp size tail used):
  Calls Zw 102 #[Zs (some ⟨wp,0,none⟩)] w fun e w'=>e=Zu (O Z (size:Nat))/\w'=w:=by
 have c3:w.cell? ⟨wp,3,none⟩=some (Zs (some ⟨rp,0,none⟩)):=hw.cell 3;have HZ:=hid (Zjy rp size tail used w hr);clear hw hr;go_enter Tryz.func102,Tryz.ntmps102
 go_wp2_with (first
  |(go_at_call 143;(with_reducible refine HZ.out.mono ?_);rintro e w1 ⟨rfl,rfl⟩))
 go_ret;exact⟨rfl,rfl⟩
theorem Zt0(b slot ep rp next br wp size tail used:Nat)(sure:Bool)(lg:Option Nat)(hw:At w wp (walCells b slot ep rp next sure lg br) 148)(hr:RingAt w rp size tail used):
  Calls Zw 103 #[Zs (some ⟨wp,0,none⟩)] w fun e w'=>e=Zu (O Z (used:Nat))/\w'=w:=by
 have c3:w.cell? ⟨wp,3,none⟩=some (Zs (some ⟨rp,0,none⟩)):=hw.cell 3;have HZ:=hid (Zov rp size tail used w hr);clear hw hr;go_enter Tryz.func103,Tryz.ntmps103
 go_wp2_with (first
  |(go_at_call 144;(with_reducible refine HZ.out.mono ?_);rintro e w1 ⟨rfl,rfl⟩))
 go_ret;exact⟨rfl,rfl⟩
theorem Zuq(b slot ep rp next br wp:Nat)(sure:Bool)(lg:Option Nat)(hw:At w wp (walCells b slot ep rp next sure lg br) 148):
  Calls Zw 62 #[Zs (some ⟨wp,0,none⟩)] w fun e w'=>e=Zu (.bool sure)/\w'=w:=by
 have c5:w.cell? ⟨wp,5,none⟩=some (.bool sure):=hw.cell 5;clear hw;go_enter Tryz.func62,Tryz.ntmps62;go_wp2;go_ret;exact⟨rfl,rfl⟩
theorem Zko(b slot ep rp next br wp:Nat)(lg:Option Nat)(hw:At w wp (walCells b slot ep rp next true lg br) 148):
  Calls Zw 137 #[Zs (some ⟨wp,0,none⟩)] w fun e w'=>e=Zu (.int .u16 0)/\w'=w:=by
 have c5:w.cell? ⟨wp,5,none⟩=some (.bool true):=hw.cell 5;clear hw;go_enter Tryz.func137,Tryz.ntmps137;go_wp2;go_ret;exact⟨rfl,rfl⟩
theorem Zuy(h:BayAt w T b s)(slot ep rp next br wp:Nat)(lg:Option Nat)(hw:At w wp (walCells b slot ep rp next false lg br) 148)(tw:T wp=0)(hcnt:s.cnt 2≤1000000000000)(hm:s.small 1000000):
  Calls Zw 137 #[Zs (some ⟨wp,0,none⟩)] w fun e w'=>e=Zu (.int .u16 ((tried br s (s.flush slot)).1:Nat))/\WalPost w T b (tried br s (s.flush slot)).2 wp (walCells b slot ep rp next ((((tried br s (s.flush slot)).1:Nat):Int)==0) lg (tried br s (s.flush slot)).1) w':=by
 have c5:w.cell? ⟨wp,5,none⟩=some (.bool false):=hw.cell 5;have HF:=hid (Zha h slot ep rp next br wp false lg hw tw hcnt hm);have hl:=hw.lt;clear h hw;generalize tried br s (s.flush slot)=r at*;go_enter Tryz.func137,Tryz.ntmps137
 go_wp2_with (first
  |(go_at_call 123;(with_reducible refine HF.out.mono ?_);rintro e w1 ⟨rfl,hp⟩;have HP:=hid hp;have f5:=hp.choose_spec.2.2.2.free 5;have d5:w1.cell? ⟨wp,5,none⟩=some (.bool false):=hp.choose_spec.2.2.2.cell 5;clear hp c5))
 go_ret;exact⟨rfl,HP.out.set hl tw 5 _⟩
open Go.RowKit
theorem Zmh(h:BayAt w T b s)(slot ep rp next wp:Nat)(lg:Option Nat)(hw:At w wp (walCells b slot ep rp next true lg 0) 148)(tw:T wp=0)(size tail used:Nat)(hr:RingAt w rp size tail used)(tr:T rp=0)(h0:0<size)(h2:size≤2048)(h3:tail<size)(h4:used≤size)
  (ep':Nat) (he:ep'≤4611686018427387904) (hn1:1≤next) (hn2:next≤4611686018427387904) (s2:BaySt) (hcnt:s.cnt 1≤1000000000000) (hm:s.small 1000000) (hcnt2:(tried 0 s (s.write slot 1 (recSec 3 ep' next (leN ((tail+used)%size) 4)))).2.cnt 2≤1000000000000) (hm2:(tried 0 s (s.write slot 1 (recSec 3 ep' next (leN ((tail+used)%size) 4)))).2.small 1000000)
  (hpt:pointed 0 slot s (recSec 3 ep' next (leN ((tail+used)%size) 4))=(0,s2)):
  Calls Zw 138 #[Zs (some ⟨wp,0,none⟩),.int .u64 ep'] w fun e w'=>e=Zu (.int .u16 0)/\∃T',BayAt w' T' b s2/\(∀q,q<w.heap.size->T' q=T q)/\Chg (fun q=>T q≠0\/q=wp\/q=rp) w w'/\At w' wp (walCells b slot ep' rp next true none 0) 148/\RingAt w' rp size ((tail+used)%size) 0:=by
 have hlt:=hw.lt;have hrl:=hr.lt;have hne:rp≠wp:=Zaw hr hw (by decide);have c7:w.cell? ⟨wp,7,none⟩=some (.int .u16 0):=hw.cell 7;have c5:w.cell? ⟨wp,5,none⟩=some (.bool true):=hw.cell 5;have HSS:Hid (∀W,Below w.heap.size w W->W.cell? ⟨wp,3,none⟩=some (Zs (some ⟨rp,0,none⟩))/\W.cell? ⟨wp,4,none⟩=some (.int .u64 next)):=fun W hb=>⟨(hb.cell (p:=⟨wp,3,none⟩) hlt).trans (hw.cell 3),(hb.cell (p:=⟨wp,4,none⟩) hlt).trans (hw.cell 4)⟩
 have HSA:=hid (HSS.out w (Zb _ _));have hp1:(tail+used)%size<size:=Nat.mod_lt _ h0
 have HH:Hid (∀W,Below w.heap.size w W->Calls Zw 203 #[Zs (some ⟨rp,0,none⟩)] W fun e w'=>e=Zu (O Z ((tail+used)%size:Nat))/\Below w.heap.size w w'):=fun W hb=>(Zkx rp size tail used W (hr.below hb hr.lt) h2 h0 h3 h4).mono (by
  rintro e w' ⟨rfl,hb'⟩
  exact⟨rfl,hb.trans (hb'.mono hb.size)⟩)
 have HK:Hid (∀W,Below w.heap.size w W->Calls Zw 82 #[Zs (some ⟨wp,0,none⟩),.agg #[.int .u64 ep',.int .u64 next,O Z ((tail+used)%size:Nat)]] W fun e w'=>e=Zu (.int .u16 0)/\WalPost w T b s2 wp (walCells b slot ep rp next true lg 0) w'/\RingAt w' rp size tail used):=fun W hb=>by
  have k:=Zer (h.below hb) slot ep rp next 0 wp true lg (hw.below hb hlt) tw ep' next ((tail+used)%size) he hn1 hn2 (by omega) hcnt hm hcnt2 hm2;rw[hpt]at k;refine k.mono ?_;rintro e w' ⟨rfl,hp⟩;refine⟨rfl,hp.after hb,(hr.below hb hrl).mod hp.choose_spec.2.2.1 ?_⟩;rintro (e|e)
  ·exact e tr
  ·exact hne e
 clear h hw hr hpt hcnt2 hm2;generalize hpp:(tail+used)%size=p at*;have HPP:=hid hpp;clear hpp;go_enter Tryz.func138,Tryz.ntmps138;go_wp2;go_region_held3 (fun W=>W.cell? ⟨wp,3,none⟩=some (Zs (some ⟨rp,0,none⟩))/\W.cell? ⟨wp,4,none⟩=some (.int .u64 next))
  (first|exact HSA.out|exact HSB|exact HSC)
  (first
   |(go_at_call 203;(with_reducible refine(HH.out _ ?_).mono ?_);(first|exact Zb _ _|exact(Zb _ _).drew|exact below_drewN (Zb _ _) _);rintro e w1 ⟨rfl,hb1⟩;have HSB:=HSS.out w1 hb1)
   |(go_at_call 82;(with_reducible refine(HK.out _ ?_).mono ?_);(exact hb1);rintro e w3 ⟨rfl,hp,hr3⟩;have HP:=hid hp;have HR3:=hid hr3;have HSC:w3.cell? ⟨wp,3,none⟩=some (Zs (some ⟨rp,0,none⟩))/\w3.cell? ⟨wp,4,none⟩=some (.int .u64 next):=⟨hp.choose_spec.2.2.2.cell 3,hp.choose_spec.2.2.2.cell 4⟩;clear hp hr3))
 obtain⟨T',k1,k2,k3,k4⟩:=HP.out;have HSD:=hid HSC.1;have HRA:Hid (∀W,Below w3.heap.size w3 W->W.cell? ⟨wp,3,none⟩=some (Zs (some ⟨rp,0,none⟩))):=fun W hb=>(hb.cell (p:=⟨wp,3,none⟩) k4.lt).trans (k4.cell 3)
 have HU:Hid (∀W,Below w3.heap.size w3 W->Calls Zw 144 #[Zs (some ⟨rp,0,none⟩)] W fun e w'=>e=Zu (O Z (used:Nat))/\Below w3.heap.size w3 w'):=fun W hb=>(Zov rp size tail used W (HR3.out.below hb HR3.out.lt)).mono (by
  rintro e w' ⟨rfl,rfl⟩
  exact⟨rfl,hb⟩)
 have HGV:Hid (∀W,Below w3.heap.size w3 W->Calls Zw 204 #[Zs (some ⟨rp,0,none⟩),O Z used] W fun e w'=>∃v,e=Zu (.tuple #[v,.int .u16 0])/\RingAt w' rp size p 0/\Chg (fun k=>k=rp) w3 w'/\At w' wp (walCells b slot ep rp next true lg 0) 148):=fun W hb=>(Zwi rp size tail used used W (HR3.out.below hb HR3.out.lt) h2 h0 h3 h4 (Za _)).mono (by
  rintro e w' ⟨v,rfl,q1,q2,q3⟩
  rw[Nat.sub_self,HPP.out]at q1
  exact⟨v,rfl,q1,Zaj (Zm hb _) q3 (fun q hq hs=>hs),(k4.below hb k4.lt).mod q3 (Ne.symm hne)⟩)
 clear c5 c7;go_wp2;go_region_held3 (fun W=>W.cell? ⟨wp,3,none⟩=some (Zs (some ⟨rp,0,none⟩)))
  (first|exact HSD.out|exact HSE|exact HSF)
  (first
   |(go_at_call 144;(with_reducible refine(HU.out _ ?_).mono ?_);(first|exact Zb _ _|exact(Zb _ _).drew|exact below_drewN (Zb _ _) _);rintro e w4 ⟨rfl,hb4⟩;have HSE:=HRA.out w4 hb4)
   |(go_at_call 204;(with_reducible refine(HGV.out _ ?_).mono ?_);(exact hb4);rintro e w5 ⟨v5,rfl,hr5,hc5,hw5⟩;have HSF:w5.cell? ⟨wp,3,none⟩=some (Zs (some ⟨rp,0,none⟩)):=hw5.cell 3;have HR5:=hid hr5;have HC5:=hid hc5;have HW5:=hid hw5;clear hr5 hc5 hw5))
 have f2:=HW5.out.free 2;have d2:w5.cell? ⟨wp,2,none⟩=some (.int .u64 ep):=HW5.out.cell 2;have e6:(w5.setCell ⟨wp,2,none⟩ (.int .u64 ep')).cell? ⟨wp,6,none⟩=some (.pointer (lg.map fun g=>⟨g,0,none⟩)):=(HW5.out.set 2 _).cell 6;have f6:=(HW5.out.set 2 (.int .u64 ep')).free 6;go_wp2;go_ret;refine⟨rfl,T',?_,k2,?_,(HW5.out.set 2 _).set 6 _,(HR5.out.setOther hne _).setOther hne _⟩
 ·refine(k1.keep HC5.out (fun k hk e=>hk (by rw[e,k2 rp hrl];exact tr))).keep (S:=fun q=>q=wp) (Zk (S:=fun q=>q=wp) (Zk (S:=fun q=>q=wp) (Zl _ _) ⟨wp,2,none⟩ (.inl rfl) _) ⟨wp,6,none⟩ (.inl rfl) _) (fun k hk e=>hk (by rw[e,k2 wp hlt];exact tw))
 ·exact Zk (S:=fun q=>T q≠0\/q=wp\/q=rp) (Zk (S:=fun q=>T q≠0\/q=wp\/q=rp) (Zaj (k3.mono fun q hq=>hq.imp id .inl) HC5.out (fun q hq hs=>.inr (.inr hs))) ⟨wp,2,none⟩ (.inl (.inr (.inl rfl))) _) ⟨wp,6,none⟩ (.inl (.inr (.inl rfl))) _
theorem Zis(h:BayAt w T b s)(slot ep rp next wp:Nat)(lg:Option Nat)(hw:At w wp (walCells b slot ep rp next true lg 0) 148)(tw:T wp=0)(size tail used:Nat)(hr:RingAt w rp size tail used)(tr:T rp=0)(h0:0<size)(h2:size≤2048)(h3:tail<size)(h4:used≤size)
  (he:ep≤4611686018427387904) (hn1:1≤next) (hn2:next≤4611686018427387904) (s2:BaySt) (hcnt:s.cnt 1≤1000000000000) (hm:s.small 1000000) (hcnt2:(tried 0 s (s.write slot 1 (recSec 3 ep next (leN ((tail+used)%size) 4)))).2.cnt 2≤1000000000000) (hm2:(tried 0 s (s.write slot 1 (recSec 3 ep next (leN ((tail+used)%size) 4)))).2.small 1000000)
  (hpt:pointed 0 slot s (recSec 3 ep next (leN ((tail+used)%size) 4))=(0,s2)):
  Calls Zw 97 #[Zs (some ⟨wp,0,none⟩)] w fun e w'=>e=Zu (.int .u16 0)/\∃T',BayAt w' T' b s2/\(∀q,q<w.heap.size->T' q=T q)/\Chg (fun q=>T q≠0\/q=wp\/q=rp) w w'/\At w' wp (walCells b slot ep rp next true none 0) 148/\RingAt w' rp size ((tail+used)%size) 0:=by
 have hlt:=hw.lt;have HSA:Hid (w.cell? ⟨wp,2,none⟩=some (.int .u64 ep)):=hw.cell 2;have c2:=HSA.out;have HE:Hid (∀W,Below w.heap.size w W->Calls Zw 138 #[Zs (some ⟨wp,0,none⟩),.int .u64 ep] W fun e w'=>e=Zu (.int .u16 0)/\w'.cell? ⟨wp,2,none⟩=some (.int .u64 ep)/\∃T',BayAt w' T' b s2/\(∀q,q<w.heap.size->T' q=T q)/\Chg (fun q=>T q≠0\/q=wp\/q=rp) w w'/\At w' wp (walCells b slot ep rp next true none 0) 148/\RingAt w' rp size ((tail+used)%size) 0):=fun W hb=>
  (Zmh (h.below hb) slot ep rp next wp lg (hw.below hb hlt) tw size tail used (hr.below hb hr.lt) tr h0 h2 h3 h4 ep he hn1 hn2 s2 hcnt hm hcnt2 hm2 hpt).mono (by
   rintro e w' ⟨rfl,T',k1,k2,k3,k4,k5⟩
   exact⟨rfl,k4.cell 2,T',k1,fun q hq=>k2 q (Zd hq hb.size),Zaj (Zm hb _) k3 (fun q hq hs=>hs),k4,k5⟩)
 clear h hw hr hpt hcnt2 hm2;go_enter Tryz.func97,Tryz.ntmps97
 go_wp2_with (first
  |(go_at_call 138;(with_reducible refine(HE.out _ (Zb _ _)).mono ?_);rintro e w1 ⟨rfl,hc,hp⟩;have HP:=hid hp;clear hp hc))
 go_ret;exact⟨rfl,HP.out⟩
open Go.RowKit
theorem Zm2(h:BayAt w T b s)(slot ep rp next wp lp:Nat)(sure:Bool)(hw:At w wp (walCells b slot ep rp next sure (some lp) 0) 148)(tw:T wp=0)(size tail used cost:Nat)(hr:RingAt w rp size tail used)(tr:T rp=0)(h0:0<size)(h2:size≤2048)(h3:tail<size)(h4:used≤size)
  (v:Value) (l:List UInt8) (hlg:At w lp #[O Z cost,v] 228) (tl:T lp=0) (hv:Seg w v l) (hvT:NotBay T v) (hc1:1≤cost) (hc2:cost≤size-used) (hn2:next≤4611686018427387904) (s2:BaySt) (hcnt:s.cnt 1≤1000000000000) (hm:s.small 1000000)
  (hpt:s.write slot (2+((tail+used)%size+(cost-1))%size:Nat) l=(0,s2)):
  Calls Zw 106 #[Zs (some ⟨wp,0,none⟩)] w fun e w'=>e=Zu (.int .u16 0)/\∃T',BayAt w' T' b s2/\(∀q,q<w.heap.size->T' q=T q)/\Chg (fun q=>T q≠0\/q=wp\/q=rp) w w'/\At w' wp (walCells b slot ep rp (next+1) false none 0) 148/\RingAt w' rp size tail (used+cost):=by
 obtain⟨va,vc,rfl⟩:=hv.shape;have hlt:=hw.lt;have hrl:=hr.lt;have hll:=hlg.lt;have hne:rp≠wp:=Zaw hr hw (by decide);have hnl:lp≠wp:=Zaw hlg hw (by decide);have hnr:lp≠rp:=Zaw hlg hr (by decide);have c7:w.cell? ⟨wp,7,none⟩=some (.int .u16 0):=hw.cell 7;have c6:w.cell? ⟨wp,6,none⟩=some (Zs (some ⟨lp,0,none⟩)):=hw.cell 6;have HSA:Hid (w.cell? ⟨wp,6,none⟩=some (Zs (some ⟨lp,0,none⟩))/\w.cell? ⟨lp,0,none⟩=some (O Z cost)/\w.cell? ⟨lp,1,none⟩=some (.slice va l.length vc)):=⟨c6,hlg.cell 0,hlg.cell 1⟩;have HPL:Hid (∀W,Below w.heap.size w W->Calls Zw 149 #[Zs (some ⟨wp,0,none⟩),O Z ((cost:Int)-1),.slice va l.length vc] W fun e w'=>e=Zu (.int .u16 0)/\WalPost w T b s2 wp (walCells b slot ep rp next sure (some lp) 0) w'/\RingAt w' rp size tail used/\At w' lp #[O Z cost,.slice va l.length vc] 228):=fun W hb=>by
  have e:((cost:Int)-1)=((cost-1:Nat):Int):=by omega
  rw[e];have k:=Zl4 (h.below hb) slot ep rp next 0 wp sure (some lp) (hw.below hb hlt) tw size tail used (cost-1) (hr.below hb hrl) h0 h2 h3 h4 (by omega) _ l (hv.below hb) hvT hcnt hm;have ht:tried 0 s (s.write slot (2+((tail+used)%size+(cost-1))%size:Nat) l)=(0,s2):=by rw[hpt];rfl
  rw[ht]at k;refine k.mono ?_;rintro e w' ⟨rfl,hp⟩;refine⟨rfl,hp.after hb,(hr.below hb hrl).mod hp.choose_spec.2.2.1 ?_,(hlg.below hb hll).mod hp.choose_spec.2.2.1 ?_⟩
  ·rintro (e|e)
   ·exact e tr
   ·exact hne e
  ·rintro (e|e)
   ·exact e tl
   ·exact hnl e
 have hwrap:IntKind.i64.wrap ((cost:Int)-1)=(cost:Int)-1:=by rw[IntKind.wrap_i64];omega
 clear h hw hr hpt hlg hv;go_enter Tryz.func106,Tryz.ntmps106;go_wp2;go_region_held3 (fun W=>W.cell? ⟨wp,6,none⟩=some (Zs (some ⟨lp,0,none⟩))/\W.cell? ⟨lp,0,none⟩=some (O Z cost)/\W.cell? ⟨lp,1,none⟩=some (.slice va l.length vc))
  (first|exact HSA.out|exact HSB)
  (first
   |(go_at_call 149;(with_reducible refine(HPL.out _ ?_).mono ?_);(first|exact Zb _ _|exact(Zb _ _).drew|exact below_drewN (Zb _ _) _);rintro e w3 ⟨rfl,hp,hr3,hl3⟩;have HP:=hid hp;have HR3:=hid hr3;have HL3:=hid hl3;have HSB:w3.cell? ⟨wp,6,none⟩=some (Zs (some ⟨lp,0,none⟩))/\w3.cell? ⟨lp,0,none⟩=some (O Z cost)/\w3.cell? ⟨lp,1,none⟩=some (.slice va l.length vc):=⟨hp.choose_spec.2.2.2.cell 6,hl3.cell 0,hl3.cell 1⟩;clear hp hr3 hl3))
 obtain⟨T',k1,k2,k3,k4⟩:=HP.out;have HSC:Hid (w3.cell? ⟨wp,3,none⟩=some (Zs (some ⟨rp,0,none⟩))/\w3.cell? ⟨wp,6,none⟩=some (Zs (some ⟨lp,0,none⟩))/\w3.cell? ⟨lp,0,none⟩=some (O Z cost)):=⟨k4.cell 3,k4.cell 6,HL3.out.cell 0⟩
 have HTK:Hid (∀W,Below w3.heap.size w3 W->Calls Zw 150 #[Zs (some ⟨rp,0,none⟩),O Z cost] W fun e w'=>∃v,e=Zu (.tuple #[v,.int .u16 0])/\RingAt w' rp size tail (used+cost)/\Chg (fun k=>k=rp) w3 w'/\At w' wp (walCells b slot ep rp next sure (some lp) 0) 148/\w'.cell? ⟨lp,0,none⟩=some (O Z cost)):=fun W hb=>(Zv5 rp size tail used cost W (HR3.out.below hb HR3.out.lt) h2 h0 h3 h4 hc2).mono (by
  rintro e w' ⟨v,rfl,q1,q2,q3⟩
  exact⟨v,rfl,q1,Zaj (Zm hb _) q3 (fun q hq hs=>hs),(k4.below hb k4.lt).mod q3 (Ne.symm hne),((HL3.out.below hb HL3.out.lt).mod q3 hnr).cell 0⟩)
 clear c7 c6;go_wp2;go_region_held3 (fun W=>W.cell? ⟨wp,3,none⟩=some (Zs (some ⟨rp,0,none⟩))/\W.cell? ⟨wp,6,none⟩=some (Zs (some ⟨lp,0,none⟩))/\W.cell? ⟨lp,0,none⟩=some (O Z cost))
  (first|exact HSC.out|exact HSF)
  (first
   |(go_at_call 150;(with_reducible refine(HTK.out _ ?_).mono ?_);(first|exact Zb _ _|exact(Zb _ _).drew|exact below_drewN (Zb _ _) _);rintro e w5 ⟨v5,rfl,hr5,hc5,hw5,hl5⟩;have HSF:w5.cell? ⟨wp,3,none⟩=some (Zs (some ⟨rp,0,none⟩))/\w5.cell? ⟨wp,6,none⟩=some (Zs (some ⟨lp,0,none⟩))/\w5.cell? ⟨lp,0,none⟩=some (O Z cost):=⟨hw5.cell 3,hw5.cell 6,hl5⟩;have HR5:=hid hr5;have HC5:=hid hc5;have HW5:=hid hw5;clear hr5 hc5 hw5 hl5))
 have f4:=HW5.out.free 4;have d4:w5.cell? ⟨wp,4,none⟩=some (.int .u64 next):=HW5.out.cell 4;have hn64:((next:Int)+1)%18446744073709551616=(next:Int)+1:=by omega
 have HX:=hid (HW5.out.set 4 (.int .u64 ((next:Int)+1)));have f5:=HX.out.free 5;have d5:=HX.out.cell 5;have f6:=(HX.out.set 5 (.bool false)).free 6;have d6:=(HX.out.set 5 (.bool false)).cell 6;go_wp2;go_ret;refine⟨rfl,T',?_,k2,?_,(HX.out.set 5 _).set 6 _,((HR5.out.setOther hne _).setOther hne _).setOther hne _⟩
 ·refine(k1.keep HC5.out (fun k hk e=>hk (by rw[e,k2 rp hrl];exact tr))).keep (S:=fun q=>q=wp) (Zk (S:=fun q=>q=wp) (Zk (S:=fun q=>q=wp) (Zk (S:=fun q=>q=wp) (Zl _ _) ⟨wp,4,none⟩ (.inl rfl) _) ⟨wp,5,none⟩ (.inl rfl) _) ⟨wp,6,none⟩ (.inl rfl) _) (fun k hk e=>hk (by rw[e,k2 wp hlt];exact tw))
 ·exact Zk (S:=fun q=>T q≠0\/q=wp\/q=rp) (Zk (S:=fun q=>T q≠0\/q=wp\/q=rp) (Zk (S:=fun q=>T q≠0\/q=wp\/q=rp) (Zaj (k3.mono fun q hq=>hq.imp id .inl) HC5.out (fun q hq hs=>.inr (.inr hs))) ⟨wp,4,none⟩ (.inl (.inr (.inl rfl))) _) ⟨wp,5,none⟩ (.inl (.inr (.inl rfl))) _) ⟨wp,6,none⟩ (.inl (.inr (.inl rfl))) _
open Go.RowKit
theorem Zs5(n:Nat)(w:World)(h1:5≤n)(h2:n≤2048):Calls Zw 79 #[O Z n] w fun e w'=>e=Zu (.bool true)/\w'=w:=by
 go_enter Tryz.func79,Tryz.ntmps79;go_wp2;go_ret;refine⟨?_,rfl⟩;simp;omega
end Go.Proofs.YtmemlkmnhcealaaGreat
