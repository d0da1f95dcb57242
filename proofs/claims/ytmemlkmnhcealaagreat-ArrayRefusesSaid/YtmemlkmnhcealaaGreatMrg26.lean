
/- Several texts in one: RepA, BayL, RwO, RwP, PlwE, PlwF. -/
import Derived.Laws.ResultCell
import Derived.Test.YtmemlkmnhcealaaGreatMrg25
set_option linter.unusedVariables false
set_option maxRecDepth 100000
set_option maxHeartbeats 8000000
namespace Go.Proofs.YtmemlkmnhcealaaGreat
open Value renaming int→O
open IntKind renaming i64→Z
open Ending renaming returned→Zu
open Obj renaming cells→Zv
open Go.Proofs.Tryz renaming prog→Zw
open Go.RowKit
open Lib(hid)
variable {A:Adr} {s:BaySt} {us:List (Int×List UInt8)} {X:List OP} {C M S b n:Nat} {T:Nat->Nat} {lg:Option Nat} {R:RS} {vw:Value} {w:World}
theorem Zrm(n:Nat)(hn:n≤16)(w:World):Calls Zw 125 #[.int .u64 1,.int .u64 n] w fun e w'=>e=Zu (.tuple #[.int .u64 0,.int .u64 n])/\w'=w:=by
 have h:n=0\/n=1\/n=2\/n=3\/n=4\/n=5\/n=6\/n=7\/n=8\/n=9\/n=10\/n=11\/n=12\/n=13\/n=14\/n=15\/n=16:=by omega
 clear hn;rcases h with rfl|rfl|rfl|rfl|rfl|rfl|rfl|rfl|rfl|rfl|rfl|rfl|rfl|rfl|rfl|rfl|rfl
 all_goals (go_enter Tryz.func125,Tryz.ntmps125;go_wp2;go_ret2;exact⟨rfl,rfl⟩)
theorem mul_one(n:Nat)(hn:n≤16)(w:World):Calls Zw 83 #[.int .u64 1,.int .u64 n] w fun e w'=>e=Zu (.tuple #[.int .u64 0,.int .u64 n])/\w'=w:=by
 go_enter Tryz.func83,Tryz.ntmps83;go_wp2_with (go_at_call 125;(with_reducible refine(Zrm n hn _).mono ?_);rintro e w1 ⟨rfl,hw1⟩;subst hw1);go_ret2;exact⟨rfl,rfl⟩
def upRow(n M:Nat):List Value:=List.replicate n (Value.int .i64 (-1))++List.replicate (M-n) (Value.int .i64 0)
theorem Zmg(h:n≤M):(upRow n M).length=M:=by simp[upRow];omega
theorem Zs8{j:Nat}(h:j<n):(upRow n M)[j]?=some (O Z (-1)):=by
 unfold upRow;rw[List.getElem?_append_left (by simpa using h)];simp[h]
theorem Zgh(n k M:Nat)(h:n+k≤M):splice (upRow n M) n (List.replicate k (Value.int .i64 (-1)))=upRow (n+k) M:=by
 unfold splice upRow;rw[List.take_append_of_le_length (by simp),List.take_of_length_le (by simp),List.drop_append,<-List.append_assoc];simp only [List.length_replicate,List.drop_replicate,List.replicate_append_replicate,show n-(n+k)=0 by omega,List.replicate_zero,List.nil_append,show M-n-(n+k-n)=M-(n+k) by omega]
theorem Zn3:SliceOf Zw 41 3 1 8:=SliceOf.mk' (z:=.int .i64 0) Tryz.underlying41 (by decide) (by kernel_rfl) rfl
theorem Zs6(M g:Nat)(h3:3≤M)(hM:M≤16)(w:World)(hx:At w g #[O Z (-1)] 3):Calls Zw 88 #[.slice (some ⟨g,0,none⟩) 1 1,O Z M] w fun e w'=>e=Zu (.slice (some ⟨w.heap.size,0,none⟩) M M)/\At w' w.heap.size (frCells (fun _=> -1) M) 3/\Below w.heap.size w w':=by
 have HX:=hid hx;have d1:decide ((M:Int)<0)=false:=by simp
 have d2:decide (9223372036854775807<(M:Int))=false:=by simp;omega
 clear hx;go_enter Tryz.func88,Tryz.ntmps88
 go_wp2_with (first
  |(go_at_call 83;(with_reducible refine(mul_one M hM _).mono ?_);rintro e w1 ⟨rfl,hw1⟩;subst hw1)
  |(refine Zaq rfl _ _ 41 3 1 8 rfl Zn3 (O Z 0) (by kernel_rfl) _ _ _ _ M rfl rfl rfl rfl (by omega) (by unfold maxLen;omega) ?_;intro w2 a2 b2;have A2:Hid (At w2 w1.heap.size (List.replicate M (Value.int .i64 0)).toArray 3):=(by rw[Nat.mul_one]at a2;exact a2);have B2:=hid b2;clear a2 b2)
  |(refine wpList_copy_splice rfl _ _ 41 41 rfl 3 Tryz.underlying41 (by kernel_rfl) _ _ _ _ _ _ rfl rfl w1.heap.size 0 (List.replicate M (Value.int .i64 0)) 3 A2.out [.int .i64 (-1)] (by show 1=Nat.min 1 M;exact(Nat.min_eq_left (by omega)).symm) (fun hp=>⟨rfl,_,rfl,fun j v hj=>by
     have hj0:j=0:=by
      rcases j with _|j
      ·rfl
      ·simp at hj
     subst hj0
     simp at hj
     subst hj
     exact(HX.out.below B2.out HX.out.lt).cell 0⟩) (by rw[List.length_replicate];show 0+1≤M;omega) (by intro v hv;simp at hv;subst hv;rfl) w1.heap.size w1 B2.out (Za _) ?_;intro w3 hg3 hb3;have HG3:=hid hg3.out;have HB3:=hid hb3;clear hg3 hb3))
 have HR0:Hid (At w3 w1.heap.size (upRow 1 M).toArray 3):=by
  have e:=Zgh 0 1 M (by omega);have h:=HG3.out;rw[show List.replicate M (Value.int .i64 0)=upRow 0 M by simp[upRow]]at h;have e2:splice (upRow 0 M) 0 [Value.int .i64 (-1)]=upRow 1 M:=e;rw[e2]at h;exact h
 clear HG3;go_loopw [8] (fun q wr=>∃n:Nat,1≤n/\n≤M/\q=O Z n/\At wr w1.heap.size (upRow n M).toArray 3/\Below w1.heap.size w1 wr) (fun q _=>M-(intOf q).toNat);case atStart=>exact⟨1,by omega,by omega,rfl,HR0.out,HB3.out⟩
 case round=>
  obtain⟨n,hn1,hn,rfl,hat,hbw⟩:=hrel;have HA:=hid hat;have HB:=hid hbw;clear hat hbw;by_cases hnM:n<M
  ·obtain⟨k,hk⟩:∃k,k=Nat.min n (M-n):=⟨_,rfl⟩
   have hk1:1≤k/\k≤n/\k≤M-n:=by
    rw[hk];exact⟨Nat.le_min.2 ⟨hn1,by omega⟩,Nat.min_le_left _ _,Nat.min_le_right _ _⟩
   have HK:=hid hk;have hMn:¬M=n:=by omega
   clear hk;go_wp2;go_region_held3 (fun W=>Below w1.heap.size w1 W)
    (first|exact HB.out|exact HB.out.drew|exact HB4.out)
    (first
     |(refine step_copy_splice rfl _ _ 41 41 rfl 3 Tryz.underlying41 (by kernel_rfl) _ _ _ _ _ _ rfl rfl w1.heap.size n (upRow n M) 3 HA.out (List.replicate k (Value.int .i64 (-1))) (by rw[List.length_replicate];exact HK.out) (fun hp=>⟨by (first|rfl|exact Ze hMn),_,rfl,fun j v hj=>by
       rw[List.getElem?_replicate]at hj
       split at hj
       ·simp at hj
        subst hj
        rw[Addr.add_mid,Nat.zero_add]
        refine(HA.out.cell j).trans ?_
        rw[List.getElem?_toArray]
        exact Zs8 (by omega)
       ·cases hj⟩) (by rw[List.length_replicate,Zmg hn];omega) (by intro v hv;rw[(List.mem_replicate.1 hv).2];rfl) w1.heap.size w1 (by first|exact HB.out|exact HB.out.drew) (Za _) ?_;intro w4 hg4 hb4;have HG4:=hid hg4.out;have HB4:=hid hb4;clear hg4 hb4))
   have HR4:Hid (At w4 w1.heap.size (upRow (n+k) M).toArray 3):=by
    have h:=HG4.out;rw[Zgh n k M (by omega)]at h;exact h
   have hnk:n+k≤M:=by omega
   have hwr:IntKind.i64.wrap ((n:Int)+k)=((n+k:Nat):Int):=by rw[IntKind.wrap_i64];omega
   clear HG4;rw[hwr];go_wp2;exact⟨⟨n+k,by omega,hnk,rfl,HR4.out,HB4.out⟩,by simp[intOf];omega⟩
  ·obtain rfl:n=M:=by omega
   go_wp2;go_ret;refine⟨rfl,?_,HB.out⟩;have h:=HA.out;have e:(upRow n n).toArray=frCells (fun _=> -1) n:=by
    have e1:(List.range n).map (fun _=>Value.int .i64 (-1))=List.replicate n (Value.int .i64 (-1)):=by rw[List.map_const',List.length_range]
    unfold frCells;rw[e1];simp[upRow]
   rw[e]at h;exact h
open Go.RowKit
theorem Zl1(h:BayAt w T b s):
  Calls Zw 39 #[.pointer (some ⟨b,0,none⟩)] w fun e w'=>e=Zu (O Z (s.n:Int))/\w'=w:=by
 obtain⟨gs,ptr,tg,dp,h⟩:=h;have c0:w.cell? ⟨b,0,none⟩=some (.slice (some ⟨gs,0,none⟩) s.n s.n):=h.bay.cell 0;have hf:=h.few;clear h;generalize s.n=n at*;go_enter Tryz.func39,Tryz.ntmps39;go_wp2;go_ret;exact⟨rfl,rfl⟩
def cntVal(s:BaySt):Value:=.agg #[O Z (s.cnt 0),O Z (s.cnt 1),O Z (s.cnt 2)]
theorem Zp2(h:BayAt w T b s):
  Calls Zw 17 #[.pointer (some ⟨b,0,none⟩)] w fun e w'=>e=Zu (cntVal s)/\Below w.heap.size w w':=by
 obtain⟨gs,ptr,tg,dp,h⟩:=h;have hal:=h.bay.alloc (Zv #[O Z 0,O Z 0,O Z 0] 50);have c3:(w.alloc (Zv #[O Z 0,O Z 0,O Z 0] 50)).cell? ⟨b,3,none⟩=some (O Z (s.cnt 0)):=hal.cell 3;have c4:(w.alloc (Zv #[O Z 0,O Z 0,O Z 0] 50)).cell? ⟨b,4,none⟩=some (O Z (s.cnt 1)):=hal.cell 4;have c5:(w.alloc (Zv #[O Z 0,O Z 0,O Z 0] 50)).cell? ⟨b,5,none⟩=some (O Z (s.cnt 2)):=hal.cell 5;have hb:=(Zb w.heap.size w).alloc (Za _) (Zv #[O Z 0,O Z 0,O Z 0] 50);clear h hal;unfold cntVal;generalize s.cnt 0=x at*;generalize s.cnt 1=y at*;generalize s.cnt 2=z at*;go_enter Tryz.func17,Tryz.ntmps17;go_wp2;have hb2:=(Zb w.heap.size w).alloc (Za _) (Zv #[O Z x,O Z y,O Z z] 50);refine bodyPost_ret (v:=.agg #[O Z x,O Z y,O Z z]) ?_ rfl ⟨rfl,hb2⟩;rw[Zai rfl];go_simp
open Go.RowKit
theorem Zuj(hb:BayAt w T b s)(M C S:Nat)(hg:geoIs M C S=true)(hn:s.n=M+1)(wp rp ep next size tail used:Nat)(sure lazy:Bool)(lg:Option Nat)(hw:At w wp (walCells b M ep rp next sure lg 0) 148)(hr:RingAt w rp size tail used)(tw:T wp=0)(tr:T rp=0):
  Calls Zw 48 #[.pointer (some ⟨b,0,none⟩),.agg #[O Z M,O Z C,O Z S],.pointer (some ⟨wp,0,none⟩),.bool lazy] w fun e w'=>∃q fg,e=Zu (.tuple #[.pointer (some ⟨q,0,none⟩),.int .u16 0])/\w.heap.size≤q/\w.heap.size≤fg/\RwIn w' T ⟨b,q,wp,rp,fg⟩ ⟨M,C,S,s,ep,next,size,tail,used,sure,lazy,false,fun _=> -1,[]⟩ lg (.slice none 0 0) []/\Below w.heap.size w w':=by
 have h3:3≤M:=(Zbe hg).1;have hM:M≤16:=(Zbe hg).2.1
 have HCK:Hid (∀W,Calls Zw 38 #[.agg #[O Z M,O Z C,O Z S]] W fun e w'=>e=Zu (.int .u16 0)/\Below W.heap.size W w'):=fun W=>(Zb1 M C S W).mono (by
  rintro e w' ⟨rfl,hb'⟩
  refine⟨?_,hb'⟩
  unfold geoCode
  rw[Zf hg])
 have HB0:Hid (Below w.heap.size w (w.alloc (Zv #[O Z M,O Z C,O Z S] 26))):=(Zb _ _).alloc (Za _) _;have HSL:Hid (∀W,Below w.heap.size w W->Calls Zw 39 #[.pointer (some ⟨b,0,none⟩)] W fun e w'=>e=Zu (O Z (M+1:Nat))/\Below W.heap.size W w'):=fun W hW=>by
  have k:=Zl1 (hb.below hW);rw[hn]at k
  exact k.mono (by
   rintro e w' ⟨rfl,rfl⟩
   exact⟨rfl,Zb _ _⟩)
 have HX:Hid (At (w.alloc (Zv #[O Z M,O Z C,O Z S] 26)) w.heap.size #[O Z M,O Z C,O Z S] 26):=At.new _ _ _;have HXX:Hid (∀W,Below (w.alloc (Zv #[O Z M,O Z C,O Z S] 26)).heap.size (w.alloc (Zv #[O Z M,O Z C,O Z S] 26)) W->W.cell? ⟨w.heap.size,0,none⟩=some (O Z M)/\W.cell? ⟨w.heap.size,1,none⟩=some (O Z C)/\W.cell? ⟨w.heap.size,2,none⟩=some (O Z S)):=fun W hb'=>⟨(HX.out.below hb' HX.out.lt).cell 0,(HX.out.below hb' HX.out.lt).cell 1,(HX.out.below hb' HX.out.lt).cell 2⟩
 have HB:=hid hb;have HW:=hid hw;have HR:=hid hr;clear hb hw hr hg;have hwr:IntKind.i64.wrap ((M:Int)+1)=((M+1:Nat):Int):=by rw[IntKind.wrap_i64];omega
 go_enter Tryz.func48,Tryz.ntmps48
 go_wp2_with (first
  |(go_at_call 38;(with_reducible refine(HCK.out _).mono ?_);rintro e w1 ⟨rfl,hb1⟩;have HB1:=hid hb1;have HBW1:Hid (Below w.heap.size w w1):=HB0.out.trans (hb1.mono HB0.out.size);clear hb1))
 go_region_held3 (fun W=>W.cell? ⟨w.heap.size,0,none⟩=some (O Z M)/\W.cell? ⟨w.heap.size,1,none⟩=some (O Z C)/\W.cell? ⟨w.heap.size,2,none⟩=some (O Z S))
  (first|exact HXX.out _ HB1.out|exact HXX.out _ HB1.out.drew|exact HXX.out _ HB2.out)
  (first
   |(go_at_call 39;(with_reducible refine(HSL.out _ ?_).mono ?_);(exact HBW1.out.drew);rintro e w2 ⟨rfl,hb2⟩;have HB2:Hid (Below (w.alloc (Zv #[O Z M,O Z C,O Z S] 26)).heap.size (w.alloc (Zv #[O Z M,O Z C,O Z S] 26)) w2):=(HB1.out.drew.trans (hb2.mono HB1.out.drew.size));clear hb2))
 have HN2:Hid (At (w2.alloc (Zv #[O Z (-1)] 3)).drew w2.heap.size #[O Z (-1)] 3):=At.new w2 _ _;have HB2a:Hid (Below (w.alloc (Zv #[O Z M,O Z C,O Z S] 26)).heap.size (w.alloc (Zv #[O Z M,O Z C,O Z S] 26)) (w2.alloc (Zv #[O Z (-1)] 3)).drew):=(HB2.out.alloc HB2.out.size _).drew;go_wp2;go_region_held3 (fun W=>W.cell? ⟨w.heap.size,0,none⟩=some (O Z M)/\W.cell? ⟨w.heap.size,1,none⟩=some (O Z C)/\W.cell? ⟨w.heap.size,2,none⟩=some (O Z S))
  (first|exact HXX.out _ HB2.out|exact HXX.out _ HB2.out.drew|exact HXX.out _ HB2a.out|exact HXX.out _ (HB2.out.alloc HB2.out.size _)|exact HXX.out _ HB3.out|exact HXX.out _ (HB3.out.alloc HB3.out.size _))
  (first
   |(go_at_call 88;(with_reducible refine(Zs6 M _ h3 hM _ HN2.out).mono ?_);rintro e w3 ⟨rfl,ha3,hb3⟩;have HA3:=hid ha3;have HB3:Hid (Below (w.alloc (Zv #[O Z M,O Z C,O Z S] 26)).heap.size (w.alloc (Zv #[O Z M,O Z C,O Z S] 26)) w3):=(HB2a.out.trans (hb3.mono HB2a.out.size));clear hb3 ha3))
 go_wp2;go_ret2;have hB3:Below w.heap.size w w3:=HB0.out.trans (HB3.out.mono HB0.out.size);have hB4:Below w.heap.size w (w3.alloc (Zv #[.pointer (some ⟨b,0,none⟩),O Z M,O Z C,O Z S,.pointer (some ⟨wp,0,none⟩),.bool lazy,.slice (some ⟨w2.heap.size+1,0,none⟩) M M,.slice none 0 0,.bool false] 116)):=hB3.alloc hB3.size _;have e2:(w2.alloc (Zv #[O Z (-1)] 3)).drew.heap.size=w2.heap.size+1:=Zaa _ _;have hs2:w.heap.size≤w2.heap.size:=(HB0.out.trans (HB2.out.mono HB0.out.size)).size;have hs3:w.heap.size≤w3.heap.size:=hB3.size;have ha3:=HA3.out;rw[e2]at ha3;have hv:∀q,w.heap.size≤q->T q=0:=fun q hq=>Zae HB.out q hq
 refine⟨w3.heap.size,w2.heap.size+1,rfl,hs3,by omega,?_,hB4⟩;exact⟨HB.out.below hB4,At.new _ _ _,ha3.alloc _,ORow.nil _ _,fun g hg=>(by cases hg),fun x hx=>(by cases hx),rfl,HW.out.below hB4 HW.out.lt,HR.out.below hB4 HR.out.lt,hv _ hs3,hv _ (by show w.heap.size≤w2.heap.size+1;omega),tw,tr⟩
open Go.RowKit
def RS.marked(R:RS)(m:Nat)(dn:Bool):RS:={R with fr:=fun j=>if j=m then (if dn=true then 0 else -1)else R.fr j}
theorem Zn8(fr:Nat->Int)(M m:Nat)(v:Int)(h:m<M):(frCells fr M).setIfInBounds m (O Z v)=frCells (fun j=>if j=m then v else fr j) M:=by
 apply Array.ext
 ·simp[frCells]
 ·intro i h1 h2
  have hi:i<M:=by simpa [frCells]using h2
  rw[Array.getElem_setIfInBounds (by simpa [frCells]using h2)]
  ·by_cases e:m=i
   ·subst e;simp[frCells]
   ·rw[Ze e];simp[frCells,show ¬i=m from fun e'=>e e'.symm]
theorem RwIn.setF{W:World}(h:RwIn W T A R lg vw X)(m:Nat)(v:Int)(hm:m<R.M):RwIn (W.setCell ⟨A.fg,m,none⟩ (O Z v)) T A {R with fr:=fun j=>if j=m then v else R.fr j} lg vw X:=by
 have hst:Chg (fun q=>q=A.fg) W (W.setCell ⟨A.fg,m,none⟩ (O Z v)):=Zk (S:=fun q=>q=A.fg) (Zl _ _) ⟨A.fg,m,none⟩ (.inl rfl) _;refine⟨h.bay.keep hst (fun k hk e=>hk (by rw[e];exact h.tf)),h.rw.mod hst (Zaw h.rw h.fr (by decide)),?_,h.wt.mod hst (fun g hg e=>h.wOff h.fr (by decide) (by rw[hg,e])) (fun x hx g hg e=>h.xOff h.fr (by decide) x hx (by rw[hg,e])),h.wtT,h.wtX,h.wtM,h.wal.mod hst (Zaw h.wal h.fr (by decide)),h.ring.mod hst (Zaw h.ring h.fr (by decide)),h.tq,h.tf,h.tw,h.tr⟩;show At _ A.fg (frCells (fun j=>if j=m then v else R.fr j) R.M) _
 rw[<-Zn8 R.fr R.M m v hm];exact h.fr.set m _
theorem Zs9(h:RwIn w T A R lg vw X)(m:Nat)(dn:Bool)(hm:m<R.M):
  Calls Zw 92 #[.pointer (some ⟨A.q,0,none⟩),.int .i64 m,.bool dn,.int .i64 0] w fun e w'=>e=.returned (.tuple #[])/\RwIn w' T A (R.marked m dn) lg vw X/\Chg (fun q=>A.has q) w w':=by
 have hi:(decide ((0:Int)≤m)&&decide ((m:Int)<(R.M:Int)))=true:=by simp;omega
 have HI:=Zf1 (A:=A) (R:=R) (vw:=vw) m w h.rw;rw[hi]at HI;have HI:=hid HI;have c6:w.cell? ⟨A.q,6,none⟩=some (.slice (some ⟨A.fg,0,none⟩) R.M R.M):=h.rw.cell 6;have cm:w.cell? ⟨A.fg,m,none⟩=some (.int .i64 (R.fr m)):=(h.fr.cell m).trans (Zjc _ _ _ hm);have fm:=h.fr.free m;have hqf:A.q≠A.fg:=Zaw h.rw h.fr (by decide);have hql:=h.rw.lt;have hfl:=h.fr.lt;have H1:=hid (h.setF m (-1) hm);have HC1:Hid (Chg (fun q=>A.has q) w (w.setCell ⟨A.fg,m,none⟩ (.int .i64 (-1)))):=Zk (S:=fun q=>A.has q) (Zl _ _) ⟨A.fg,m,none⟩ (.inl (.inr (.inr (.inr rfl)))) _;clear h hi;cases dn
 ·go_enter Tryz.func92,Tryz.ntmps92
  go_wp2_with (go_at_call 112;(with_reducible refine HI.out.mono ?_);rintro e w1 ⟨rfl,hw1⟩;subst hw1);(try simp only [Exit.inBlock,Exit.then]);refine bodyPost_end (results_none rfl _ _ _) rfl ⟨rfl,H1.out,HC1.out⟩
 ·have c6':(w.setCell ⟨A.fg,m,none⟩ (O Z (-1))).cell? ⟨A.q,6,none⟩=some (.slice (some ⟨A.fg,0,none⟩) R.M R.M):=H1.out.rw.cell 6
  have fm':=H1.out.fr.free m;go_enter Tryz.func92,Tryz.ntmps92;go_wp2_with (go_at_call 112;(with_reducible refine HI.out.mono ?_);rintro e w1 ⟨rfl,hw1⟩;subst hw1);have H2:=H1.out.setF m 0 hm;(try simp only [Exit.inBlock,Exit.then]);refine bodyPost_end (results_none rfl _ _ _) rfl ⟨rfl,?_,HC1.out.trans (Zk (S:=fun q=>A.has q) (Zl _ _) ⟨A.fg,m,none⟩ (.inl (.inr (.inr (.inr rfl)))) _)⟩;have e:(fun j=>if j=m then (0:Int)else if j=m then -1 else R.fr j)=fun j=>if j=m then (if true=true then 0 else -1)else R.fr j:=by
   funext j;by_cases e:j=m
   ·rw[Zf e,Zf e,Zf rfl]
   ·rw[Ze e,Ze e,Ze e]
  unfold RS.marked;rw[<-e];exact H2
open Go.RowKit
abbrev tabAll(M C:Nat)(us:List (Int×List UInt8)):Tab:=tabOf M C us us.length
def SplitIs(M C S:Nat)(us:List (Int×List UInt8))(L:List (Value×List OP)):Prop:=
 L.map (fun x=>x.2.map (·.1))=(rowsIn M (S*C) (tabAll M C us)).map (patsIn M (tabAll M C us))
structure BatchOk (M C S:Nat) (us:List (Int×List UInt8)):Prop where
 hg:geoIs M C S=true
 few:us.length≤256
 there:∀u∈us,thereIs M C S u.1
 len:∀u∈us,u.2.length=128
theorem Zdw(M C S:Nat)(v:Value)(us:List (Int×List UInt8))(w:World)(ok:BatchOk M C S us)(hv:PutSeg w v us):
  Calls Zw 54 #[geo M C S,v] w fun e w'=>(∃v' L,e=Zu (.tuple #[v',.int .u16 0])/\RowsAt w' w.heap.size v' L/\SplitIs M C S us L)/\Below w.heap.size w w':=by
 refine(Zjf M C S v us w ok.hg hv ok.few).mono fun e w' ⟨h,hb⟩=>⟨?_,hb⟩
 rcases h with ⟨⟨u,h1,h2⟩,-⟩|⟨-,⟨u,h1,h2⟩,-⟩|⟨-,-,v',rs,L,dv,he,hL,hrs,hlen,hmem,hrow,-,-⟩
 ·exact absurd (ok.there u h1) h2
 ·exact absurd (ok.len u h1) h2
 ·refine⟨v',L,he,hL,?_⟩
  have hG:=Zxa ok.hg ok.there (Za us.length);have hb2:=(Za0 ok.hg).2;have hR:S*C≤4096:=by exact_mod_cast hb2
  have hM:M≤16:=by have:=(Zam M C S).1 ok.hg;omega
  have hrs':=Zur (W:=fun r=>(Lit.int .i64 r).wf=true) hG (fun n hn=>WalkArith.wf_i64 ⟨by omega,by omega⟩) hrs hmem;unfold SplitIs tabAll;apply List.ext_getElem
  ·rw[Zp,Zp,hlen,hrs',Zp]
  ·intro i h1 h2
   rw[List.getElem_map,List.getElem_map];have hi:i<L.length:=by rw[Zp]at h1;exact h1
   obtain⟨ms,m1,m2,m3⟩:=hrow i hi;have hi2:i<(rowsIn M (S*C) (tabOf M C us us.length)).length:=by rw[Zp]at h2;exact h2
   have er:rs.getD i 0=(((rowsIn M (S*C) (tabOf M C us us.length))[i]'hi2:Nat):Int):=by
    rw[hrs',Zi,List.getElem?_map,Zh hi2];rfl
   rw[er]at m2 m3;have hms:=Zss (W:=fun r=>(Lit.int .i64 r).wf=true) hG (fun n hn=>WalkArith.wf_i64 ⟨by omega,by omega⟩) m1 m2;rw[m3];unfold rowX patsIn;rw[hms,List.map_map,List.map_map];rfl
open Go.RowKit
def firstSum(L:List (Value×List OP))(k:Nat):Nat:=((L.take k).map fun x=>x.2.length).sum
theorem Zj4(L:List (Value×List OP))(k:Nat)(h:k<L.length):firstSum L (k+1)=firstSum L k+(L[k]'h).2.length:=by
 unfold firstSum;rw[List.take_succ_eq_append_getElem h,List.map_append,List.sum_append];simp
theorem Zps{L:List (Value×List OP)}(h:SplitIs M C S us L):L.length+firstSum L L.length=mostIn M (S*C) (tabAll M C us):=by
 unfold SplitIs at h;have h1:=congrArg List.length h;rw[Zp,Zp]at h1;have h2:=congrArg (fun l=>(l.map List.length).sum) h;simp only [List.map_map]at h2;unfold mostIn firstSum;rw[List.take_length,h1,Nat.add_comm];congr 1;have e1:L.map (List.length ∘ fun x=>x.2.map (·.1))=L.map fun x=>x.2.length:=List.map_congr_left fun x _=>by simp
 have e2:(rowsIn M (S*C) (tabAll M C us)).map (List.length ∘ patsIn M (tabAll M C us))=(rowsIn M (S*C) (tabAll M C us)).map fun r=>(membsIn M (tabAll M C us) r).length:=List.map_congr_left fun x _=>by simp[patsIn]
 rw[e1,e2]at h2;exact h2
theorem Zc2(h:us.length≤256):mostIn M (S*C) (tabAll M C us)≤512:=by
 have:=Zf8 M C (S*C) us us.length;unfold tabAll;omega
theorem Zll(M C S:Nat)(v:Value)(us:List (Int×List UInt8))(w:World)(ok:BatchOk M C S us)(hv:PutSeg w v us):
  Calls Zw 24 #[geo M C S,v] w fun e w'=>e=Zu (.tuple #[O Z (mostIn M (S*C) (tabAll M C us):Nat),.int .u16 0])/\Below w.heap.size w w':=by
 have hb0:Below w.heap.size w (w.alloc (Zv #[O Z M,O Z C,O Z S] 26)):=(Zb _ _).alloc (Za _) _;have hsp:Hid (∀W,Below w.heap.size w W->Calls Zw 54 #[geo M C S,v] W fun e w'=>(∃v' L,e=Zu (.tuple #[v',.int .u16 0])/\RowsAt w' W.heap.size v' L/\SplitIs M C S us L)/\Below W.heap.size W w'):=fun W hW=>Zdw M C S v us W ok (hv.below hW)
 have hfew:=Zc2 (M:=M) (C:=C) (S:=S) ok.few;have hmost:Hid (∀L,SplitIs M C S us L->L.length+firstSum L L.length=mostIn M (S*C) (tabAll M C us)):=fun L h=>Zps h
 generalize mostIn M (S*C) (tabAll M C us)=T at*;obtain⟨va,vc,rfl⟩:=hv.shape;clear hv ok;unfold geo at*;go_enter Tryz.func24,Tryz.ntmps24
 go_wp2_with (first
  |(go_at_call 54;(with_reducible refine(hsp.out _ hb0).mono ?_);rintro e w2 ⟨⟨v',L,rfl,hL,hSI⟩,hb2⟩;obtain⟨ra,rc,rfl⟩:=Zab hL.row;have hmm:=hmost.out L hSI;have HL:=hid hL;have HB2:=hid (Zac hb0 hb2);clear hL hSI hb2))
 have hsum:∀k,k≤L.length->firstSum L k≤firstSum L L.length:=fun k hk=>by
  unfold firstSum;rw[List.take_length];have e:L.map (fun x=>x.2.length)=(L.take k).map (fun x=>x.2.length)++(L.drop k).map (fun x=>x.2.length):=by rw[<-List.map_append,List.take_append_drop]
  rw[e,List.sum_append];omega
 have HSUM:=hid hsum;clear hsum;go_loopw [21,8] (fun q s wr=>∃k:Nat,k≤L.length/\q=O Z k/\s=O Z ((L.length+firstSum L k:Nat):Int)/\wr=w2) (fun q _ _=>L.length-(intOf q).toNat);case atStart=>exact⟨0,by omega,rfl,by simp[firstSum],rfl⟩
 case round=>
  obtain⟨k,hk,rfl,rfl,rfl⟩:=hrel;by_cases hkn:k<L.length
  ·obtain⟨g,cap,hve,-,hlt,hcl,-⟩:=Zb2 HL.out.row (by omega)
   simp only [Zn]at hve;obtain⟨rfl,-,rfl⟩:=hve;have hx:=HL.out.each _ (Zj hkn);have d0:=hcl k hkn;rw[List.getElem?_map,Zh hkn]at d0;simp only [Option.map_some]at d0;obtain⟨la,lc,hls⟩:=Zab hx.row;rw[hls]at d0;have hs1:=Zj4 L k hkn;have hs2:=HSUM.out (k+1) hkn;have HS1:=hid hs1;have K1:Hid (k+1≤L.length):=hkn;rw[hs1]at hs2;clear hx hcl hls hs1;generalize (L[k]'hkn).2.length=n at*;generalize firstSum L k=s at*;generalize firstSum L L.length=tot at*;go_wp2;exact⟨⟨k+1,K1.out,by go_num,by rw[HS1.out];go_num,trivial⟩,by simp[intOf];omega⟩
  ·obtain rfl:k=L.length:=by omega
   go_wp2;go_ret2;exact⟨congrArg (fun q:Nat=>Ending.returned (.tuple #[O Z (q:Int),.int .u16 0])) hmm,HB2.out⟩
end Go.Proofs.YtmemlkmnhcealaaGreat
