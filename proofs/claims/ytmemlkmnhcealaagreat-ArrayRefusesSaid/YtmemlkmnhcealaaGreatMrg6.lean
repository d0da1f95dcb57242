
/- Several texts in one: LeB, RecA, CsmM. -/
import Derived.Test.YtmemlkmnhcealaaGreatMrg5
import Derived.Laws.CopyOwn
set_option linter.unusedVariables false
set_option maxRecDepth 100000
set_option maxHeartbeats 4000000
namespace Go.Proofs.YtmemlkmnhcealaaGreat
open Value renaming int→O,pointer→Zs
open IntKind renaming i64→Z
open Ending renaming returned→Zu
open Go.Proofs.Tryz renaming prog→Zw
open Go.RowKit
open Lib(hid)
variable {l:List UInt8} {B b p size:Nat} {bv:Value} {w:World}
theorem Zi4(h:PackAt w B p size bv l)(v:Nat)(hv:v<18446744073709551616)(hn:l.length+8≤size):
  Calls Zw 174 #[Zs (some ⟨p,0,none⟩),.int .u64 v] w fun e w'=>e=Zu (.tuple #[])/\PackPost w B p size (l++leN v 8) w':=by
 have HN:Hid (Calls Zw 201 #[Zs (some ⟨p,0,none⟩),.int .u64 v,O Z 8] w fun e w'=>e=Zu (.tuple #[])/\PackPost w B p size (l++leN v 8) w'):=Zlk h v 8 hv hn;clear h;go_enter Tryz.func174,Tryz.ntmps174
 go_wp2_with (first
  |(go_at_call 201;(with_reducible refine HN.out.mono ?_);rintro e w1 ⟨rfl,hp⟩;have HP:=hid hp;clear hp))
 go_end0;exact⟨rfl,HP.out⟩
theorem Zc4(h:PackAt w B p size bv l)(v:Nat)(hv:v<4294967296)(hn:l.length+4≤size):
  Calls Zw 132 #[Zs (some ⟨p,0,none⟩),.int .u32 v] w fun e w'=>e=Zu (.tuple #[])/\PackPost w B p size (l++leN v 4) w':=by
 have HN:Hid (Calls Zw 201 #[Zs (some ⟨p,0,none⟩),.int .u64 v,O Z 4] w fun e w'=>e=Zu (.tuple #[])/\PackPost w B p size (l++leN v 4) w'):=Zlk h v 4 (by omega) hn;have h64:(v:Int)%18446744073709551616=(v:Int):=by omega
 clear h;go_enter Tryz.func132,Tryz.ntmps132
 go_wp2_with (first
  |(go_at_call 201;(with_reducible refine HN.out.mono ?_);rintro e w1 ⟨rfl,hp⟩;have HP:=hid hp;clear hp))
 go_end0;exact⟨rfl,HP.out⟩
theorem Zjd(h:PackAt w B p size bv l)(v:Value)(m:List UInt8)(hv:Seg w v m)(hn:l.length+m.length≤size):
  Calls Zw 169 #[Zs (some ⟨p,0,none⟩),v] w fun e w'=>e=Zu (.tuple #[])/\PackPost w B p size (l++m) w':=by
 have HR:=hid (Zsh h m.length hn);have HP:=hid h;have h2:=h.few;have hlo:=h.lo;clear h;obtain⟨va,vc,rfl⟩:=hv.shape;have HV:=hid hv;clear hv;go_enter Tryz.func169,Tryz.ntmps169
 go_wp2_with (first
  |(go_at_call 199;(with_reducible refine HR.out.mono ?_);rintro e w1 ⟨rfl,hb0⟩;have HP1:=hid (HP.out.below hb0);have HV1:=hid (HV.out.below hb0).cells;have c1:w1.cell? ⟨p,1,none⟩=some bv:=HP1.out.box.cell 1;have HB1:Hid (Below B w w1):=hb0.mono (Nat.le_of_lt (Nat.lt_of_le_of_lt hlo HP.out.box.lt));have HK1:=hid (Keeps.of hb0);have hlt1:=HP1.out.box.lt;clear hb0)
  |(refine Zbb rfl _ _ 36 5 1 1 rfl Zat B bv l.length _ rfl HP1.out.row va m.length vc (ucells m) rfl (by rw[Zag];omega) (fun e=>HV1.out.2.1 e) HV1.out.2.2 (Za8 _) (by unfold maxLen;omega) (by omega) (by omega) ?_;intro v' w5 hown hb5 hg5;have hbx:=HP1.out.box.mod (Chg.ofGrown (S:=fun q=>bv.ownBlock=some q) hg5 (fun q hq=>.inl hq)) (Za4 HP1.out.row HP1.out.box (by decide));have d1:w5.cell? ⟨p,1,none⟩=some bv:=hbx.cell 1;have d1f:=hbx.free 1;have HK5:=hid (HK1.out.row HP1.out.row (Chg.ofGrown (S:=fun q=>bv.ownBlock=some q) hg5 (fun q hq=>.inl hq)));have HBX:=hid hbx;have HO5:=hid hown;have HB5:=hid hb5;obtain⟨xa,xc,rfl⟩:=Zab hown;clear hbx hown hb5 hg5))
 go_end0;have hset:Chg (fun q=>q=p) w5 (w5.setCell ⟨p,1,none⟩ (.slice xa (l.length+m.length) xc)):=Zk (S:=fun q=>q=p) (Zl _ _) ⟨p,1,none⟩ (.inl rfl) _;refine⟨rfl,⟨.slice xa (l.length+m.length) xc,HBX.out.set 1 _,?_,hlo,by rw[Zo];exact hn,h2⟩,(HB1.out.trans HB5.out).setCell (p:=⟨p,1,none⟩) hlo _,HK5.out.set HBX.out 1 _⟩;have e:ucells (l++m)=ucells l++ucells m:=by simp[ucells]
 rw[Zo,e];exact Zad HO5.out hset (fun g hg e=>Za4 HO5.out HBX.out (by decide) (e ▸ hg))
def padTo(l:List UInt8)(n:Nat):List UInt8:=l++List.replicate (n-l.length) 0
theorem Zgi{n:Nat}(h:l.length≤n):(padTo l n).length=n:=by simp[padTo];omega
theorem Zek(h:PackAt w B p size bv l):
  Calls Zw 131 #[Zs (some ⟨p,0,none⟩)] w fun e w'=>∃v,e=Zu (.tuple #[v,.int .u16 0])/\w'.ownsRow w.heap.size 5 1 v size (ucells (padTo l size))/\Below w.heap.size w w':=by
 have c0:w.cell? ⟨p,0,none⟩=some (O Z size):=h.box.cell 0;have c1:w.cell? ⟨p,1,none⟩=some bv:=h.box.cell 1;have c2:w.cell? ⟨p,2,none⟩=some (.int .u16 0):=h.box.cell 2;have HP:=hid h;have hplt:=h.box.lt;obtain⟨xa,xc,rfl⟩:=Zab h.row;have h1:=h.room;have h2:=h.few;clear h;go_enter Tryz.func131,Tryz.ntmps131
 go_wp2_with (first
  |(refine Zaq rfl _ _ 36 5 1 1 rfl Zat (.int .u8 0) (by kernel_rfl) _ _ _ _ size rfl rfl rfl rfl (by omega) (by unfold maxLen;omega) ?_;intro w1 a1 b1;have d1:w1.cell? ⟨p,1,none⟩=some (.slice xa l.length xc):=(b1.cell (p:=⟨p,1,none⟩) hplt).trans c1;have HA1:=hid a1;have HB1:=hid b1;have HS1:=hid (Zao (HP.out.below b1).row).cells;clear a1 b1)
  |(refine wpList_copy_splice rfl _ _ 36 36 rfl 5 Tryz.underlying36 (by kernel_rfl) _ _ _ _ _ _ rfl rfl w.heap.size 0 (List.replicate (size*1) (Value.int .u8 0)) 5 HA1.out (ucells l) (by rw[Zag];exact(Nat.min_eq_left h1).symm) (fun hp=>⟨rfl,by obtain⟨q1,q2,q3⟩:=HS1.out;rcases xa with _|ad;exact absurd (q2 rfl).1 (by rw[Zag]at hp;omega);exact⟨ad,rfl,q3 ad rfl⟩⟩) (by rw[Zag,List.length_replicate];omega) (Za8 _) w.heap.size w HB1.out (Za _) ?_;intro w2 hg2 hb2;have e2:w2.cell? ⟨p,2,none⟩=some (.int .u16 0):=(hb2.cell (p:=⟨p,2,none⟩) hplt).trans c2;have HG2:=hid hg2.out;have HB2:=hid hb2;clear hg2 hb2))
 go_ret2;have hlen:(splice (List.replicate (size*1) (Value.int .u8 0)) 0 (ucells l)).length=size*1:=by rw[length_splice _ _ _ (by rw[Zag,List.length_replicate];omega),List.length_replicate]
 refine⟨_,rfl,⟨by rw[Zag,Zgi h1,Nat.mul_one],.inr ⟨w.heap.size,size,_,rfl,Za _,HG2.out,Za _,by unfold maxLen;omega,by simpa using hlen,?_⟩⟩,HB2.out⟩;have e:ucells (padTo l size)=splice (List.replicate (size*1) (Value.int .u8 0)) 0 (ucells l):=by
  simp[padTo,splice,ucells,List.map_append,List.map_replicate,List.drop_replicate]
 rw[e];show List.take (size*1) _=_
 exact List.take_of_length_le (Nat.le_of_eq hlen)
open Go.RowKit
theorem Zf6(ep seq:Nat)(w:World)(he:ep≤4611686018427387904)(h1:1≤seq)(h2:seq≤4611686018427387904):
  Calls Zw 160 #[.int .u64 ep,.int .u64 seq] w fun e w'=>e=Zu (.bool true)/\w'=w:=by
 go_enter Tryz.func160,Tryz.ntmps160;go_wp2;go_ret;refine⟨?_,rfl⟩;simp;omega
theorem Zrz(x lo hi:Int)(w:World)(h1:lo≤x)(h2:x≤hi):
  Calls Zw 161 #[O Z x,O Z lo,O Z hi] w fun e w'=>e=Zu (.bool true)/\w'=w:=by
 go_enter Tryz.func161,Tryz.ntmps161;go_wp2;go_ret;refine⟨?_,rfl⟩;simp
theorem Ziz(h:PackAt w B p size bv l)(ep seq t:Nat)(hb:At w b #[.int .u64 ep,.int .u64 seq,O Z t] 151)(ht:t<4294967296)(hn:l.length+4≤size):
  Calls Zw 163 #[Zs (some ⟨p,0,none⟩),Zs (some ⟨b,0,none⟩)] w fun e w'=>e=Zu (.tuple #[])/\PackPost w B p size (l++leN t 4) w':=by
 have HN:=hid (Zc4 h t ht hn);have c2:w.cell? ⟨b,2,none⟩=some (O Z t):=hb.cell 2;have h64:(t:Int)%4294967296=(t:Int):=by omega
 clear h hb;go_enter Tryz.func163,Tryz.ntmps163
 go_wp2_with (first
  |(go_at_call 132;(with_reducible refine HN.out.mono ?_);rintro e w1 ⟨rfl,hp⟩;have HP:=hid hp;clear hp))
 go_end0;exact⟨rfl,HP.out⟩
theorem Zh9(h:PackAt w B p size bv l)(ep seq n s:Nat)(hb:At w b #[.int .u64 ep,.int .u64 seq,O Z n,.int .u32 s] 305)(hnn:n<4294967296)(hs:s<4294967296)(hn:l.length+8≤size):
  Calls Zw 272 #[Zs (some ⟨p,0,none⟩),Zs (some ⟨b,0,none⟩)] w fun e w'=>e=Zu (.tuple #[])/\PackPost w B p size (l++(leN n 4++leN s 4)) w':=by
 have HN:=hid (Zc4 h n hnn (by omega));have c2:w.cell? ⟨b,2,none⟩=some (O Z n):=hb.cell 2;have h64:(n:Int)%4294967296=(n:Int):=by omega
 have HB:=hid hb;clear h hb;go_enter Tryz.func272,Tryz.ntmps272
 go_wp2_with (first
  |(go_at_call 132;(with_reducible refine HN.out.mono ?_);rintro e w1 ⟨rfl,hp⟩;clear HN;obtain⟨⟨bv1,hp1⟩,hb1,hk1⟩:=hp;have hbx:=hk1 _ _ _ (by decide) (by decide) HB.out;have c3:w1.cell? ⟨b,3,none⟩=some (.int .u32 s):=hbx.cell 3;have HM:=hid (Zc4 hp1 s hs (by rw[Zo,Zal];omega));have HB1:=hid hb1;have HK1:=hid hk1;clear hp1 hb1 hk1 hbx c2 HB)
  |(go_at_call 132;(with_reducible refine HM.out.mono ?_);rintro e w2 ⟨rfl,hp⟩;have HP:=hid hp;clear hp HM))
 go_end0;exact⟨rfl,by rw[<-List.append_assoc];exact HP.out.1,HB1.out.trans HP.out.2.1,HK1.out.trans HP.out.2.2⟩
def le4(ns:List Nat):List UInt8:=ns.flatMap fun n=>leN n 4
theorem Zbs(ns:List Nat):(le4 ns).length=4*ns.length:=by
 induction ns with
 |nil=>rfl
 |cons n ns ih=>show(leN n 4++le4 ns).length=_;rw[Zo,Zal,ih,List.length_cons];omega
theorem Zsn{α:Type}(l:List α)(k:Nat)(x:α)(h:l[k]?=some x):l.take (k+1)=l.take k++ [x]:=by
 rw[List.take_add_one,h];rfl
theorem Zhi(h:PackAt w B p size bv l)(ep seq ix cnt mem row s:Nat)(esc:Bool)
  (hb:At w b #[.int .u64 ep,.int .u64 seq,O Z ix,O Z cnt,O Z mem,O Z row,.bool esc,.int .u32 s] 300) (h1:ix<4294967296) (h2:cnt<4294967296) (h3:mem<4294967296) (h4:row<4294967296) (hs:s<4294967296) (hn:l.length+24≤size):
  Calls Zw 271 #[Zs (some ⟨p,0,none⟩),Zs (some ⟨b,0,none⟩)] w fun e w'=>e=Zu (.tuple #[])/\PackPost w B p size (l++le4 [ix,cnt,mem,row,esc.toNat,s]) w':=by
 have c2:w.cell? ⟨b,2,none⟩=some (O Z ix):=hb.cell 2;have c3:w.cell? ⟨b,3,none⟩=some (O Z cnt):=hb.cell 3;have c4:w.cell? ⟨b,4,none⟩=some (O Z mem):=hb.cell 4;have c5:w.cell? ⟨b,5,none⟩=some (O Z row):=hb.cell 5;have HB:=hid hb;have HP:=hid h;have hlo:=h.lo;have hlt:=h.box.lt;clear h hb;have HNS:Hid (∀k (hk:k<4),∃x,[ix,cnt,mem,row][k]?=some x/\x<4294967296):=by
  intro k hk;match k,hk with
  |0,_=>exact⟨ix,rfl,h1⟩
  |1,_=>exact⟨cnt,rfl,h2⟩
  |2,_=>exact⟨mem,rfl,h3⟩
  |3,_=>exact⟨row,rfl,h4⟩
 go_enter Tryz.func271,Tryz.ntmps271;go_wp2;have HG:=hid (At.new w #[O Z ix,O Z cnt,O Z mem,O Z row] 3);go_loopw [16] (fun q wx=>∃k:Nat,k≤4/\q=O Z k/\(∃bv',PackAt wx B p size bv' (l++le4 ([ix,cnt,mem,row].take k)))/\Below B w wx/\Keeps w wx/\At wx w.heap.size #[O Z ix,O Z cnt,O Z mem,O Z row] 3) (fun q _=>4-(intOf q).toNat);case atStart=>exact⟨0,by omega,rfl,⟨bv,by rw[List.take_zero];simpa [le4]using HP.out.below ((Zb _ _).alloc (Za _) _)⟩,(Zb _ _).alloc (by omega) _,(Keeps.refl w).alloc _,HG.out⟩
 case round=>
  obtain⟨k,hk,rfl,⟨bv',hp⟩,hbl,hkp,hg⟩:=hrel;have HBL:=hid hbl;have HKP:=hid hkp;have HG2:=hid hg;by_cases hk2:k<4
  ·obtain⟨x,hx,hx2⟩:=HNS.out k hk2
   have HX:=hid hx;have cx:wr.cell? ⟨w.heap.size,k,none⟩=some (O Z x):=by
    rw[hg.cell k];match k,hk2,hx with
    |0,_,hx=>simp at hx;subst hx;rfl
    |1,_,hx=>simp at hx;subst hx;rfl
    |2,_,hx=>simp at hx;subst hx;rfl
    |3,_,hx=>simp at hx;subst hx;rfl
   have h64:(x:Int)%4294967296=(x:Int):=by omega
   have HT:Hid ((([ix,cnt,mem,row]:List Nat).take k).length=k):=by show _=_;rw[List.length_take];show min k 4=k;omega
   have HN:=hid (Zc4 hp x hx2 (by rw[Zo,Zbs,HT.out];omega));clear hp hbl hkp hg hx
   go_wp2_with (first
    |(go_at_call 132;(with_reducible refine HN.out.mono ?_);rintro e w1 ⟨rfl,hp⟩;have HPP:=hid hp;clear hp))
   refine⟨⟨k+1,hk2,by go_num,?_,HBL.out.trans HPP.out.2.1,HKP.out.trans HPP.out.2.2,HPP.out.2.2 _ _ _ (by decide) (by decide) HG2.out⟩,by simp[intOf];omega⟩;obtain⟨bv2,hp2⟩:=HPP.out.1;refine⟨bv2,?_⟩;rw[Zsn _ _ _ HX.out];unfold le4 at*;rw[List.flatMap_append,<-List.append_assoc];simpa using hp2
  ·obtain rfl:k=4:=by omega
   have HPP:=hid hp;have hb2:=hkp _ _ _ (by decide) (by decide) HB.out;have c6:wr.cell? ⟨b,6,none⟩=some (.bool esc):=hb2.cell 6;have HB2:=hid hb2;have hll:(l++le4 (List.take 4 [ix,cnt,mem,row])).length=l.length+16:=by rw[Zo,Zbs];simp
   clear hbl hkp hg hb2;have fin:∀(ev:Nat),le4 [ix,cnt,mem,row,ev,s]=le4 (List.take 4 [ix,cnt,mem,row])++leN ev 4++leN s 4:=by
    intro ev;simp[le4]
   cases esc
   ·have HN:Hid (Calls Zw 132 #[Zs (some ⟨p,0,none⟩),.int .u32 0] wr fun e w'=>e=Zu (.tuple #[])/\PackPost wr B p size (l++le4 (List.take 4 [ix,cnt,mem,row])++leN 0 4) w'):=Zc4 hp 0 (by decide) (by omega)
    clear hp
    go_wp2_with (first
     |(go_at_call 132;(with_reducible refine HN.out.mono ?_);rintro e w1 ⟨rfl,hp⟩;clear HN;obtain⟨⟨bv1,hp1⟩,hb1,hk1⟩:=hp;have hbx:=hk1 _ _ _ (by decide) (by decide) HB2.out;have c7:w1.cell? ⟨b,7,none⟩=some (.int .u32 s):=hbx.cell 7;have HM:=hid (Zc4 hp1 s hs (by rw[Zo,Zal];omega));have HB1:=hid hb1;have HK1:=hid hk1;clear hp1 hb1 hk1 hbx c6)
     |(go_at_call 132;(with_reducible refine HM.out.mono ?_);rintro e w2 ⟨rfl,hp⟩;have HQ:=hid hp;clear hp HM))
    go_end0;refine⟨rfl,?_,HBL.out.trans (HB1.out.trans HQ.out.2.1),HKP.out.trans (HK1.out.trans HQ.out.2.2)⟩;show ∃bv,PackAt w2 B p size bv (l++le4 [ix,cnt,mem,row,0,s])
    rw[fin];simpa [List.append_assoc]using HQ.out.1
   ·have HN:Hid (Calls Zw 132 #[Zs (some ⟨p,0,none⟩),.int .u32 1] wr fun e w'=>e=Zu (.tuple #[])/\PackPost wr B p size (l++le4 (List.take 4 [ix,cnt,mem,row])++leN 1 4) w'):=Zc4 hp 1 (by decide) (by omega)
    clear hp
    go_wp2_with (first
     |(go_at_call 132;(with_reducible refine HN.out.mono ?_);rintro e w1 ⟨rfl,hp⟩;clear HN;obtain⟨⟨bv1,hp1⟩,hb1,hk1⟩:=hp;have hbx:=hk1 _ _ _ (by decide) (by decide) HB2.out;have c7:w1.cell? ⟨b,7,none⟩=some (.int .u32 s):=hbx.cell 7;have HM:=hid (Zc4 hp1 s hs (by rw[Zo,Zal];omega));have HB1:=hid hb1;have HK1:=hid hk1;clear hp1 hb1 hk1 hbx c6)
     |(go_at_call 132;(with_reducible refine HM.out.mono ?_);rintro e w2 ⟨rfl,hp⟩;have HQ:=hid hp;clear hp HM))
    go_end0;refine⟨rfl,?_,HBL.out.trans (HB1.out.trans HQ.out.2.1),HKP.out.trans (HK1.out.trans HQ.out.2.2)⟩;show ∃bv,PackAt w2 B p size bv (l++le4 [ix,cnt,mem,row,1,s])
    rw[fin];simpa [List.append_assoc]using HQ.out.1
end Go.Proofs.YtmemlkmnhcealaaGreat
namespace CrcM

/-- a function,so many times -/
def it{α:Type}(f:α→α):Nat→α→α
 |0,x=>x
 |k+1,x=>it f k (f x)

theorem it_add{α:Type}(f:α→α)(j k:Nat)(x:α):it f (j+k) x=it f k (it f j x):=by
 induction j generalizing x with
 |zero=>simp[it]
 |succ j ih=>rw[Nat.succ_add,it,it,ih]

theorem it_succ'{α:Type}(f:α→α)(k:Nat)(x:α):it f (k+1) x=f (it f k x):=by
 rw[it_add];rfl

abbrev W32:=BitVec 32

def poly:W32:=0x82f63b78#32

/-- one bit shifted out -/
def L(n:W32):W32:=if n&&&1#32=1#32 then (n>>>1)^^^poly else n>>>1

theorem and1(n:W32):n&&&1#32=if n.getLsbD 0 then 1#32 else 0#32:=by
 apply BitVec.eq_of_getLsbD_eq
 intro i hi
 by_cases h0:i=0
 ·subst h0;cases h:n.getLsbD 0<;>simpa using h
 ·have:(1#32).getLsbD i=false:=by
   rw[BitVec.getLsbD_one];simp[h0]
  cases h:n.getLsbD 0<;>simp[this]

theorem L_bit(n:W32):L n=(n>>>1)^^^(if n.getLsbD 0 then poly else 0#32):=by
 unfold L
 rw[and1]
 cases h:n.getLsbD 0<;>simp

theorem sel_xor(a b:Bool)(p:W32):(if (a^^b)then p else 0#32)=(if a then p else 0#32)^^^(if b then p else 0#32):=by
 cases a<;>cases b<;>simp

theorem xor4(a b c d:W32):(a^^^b)^^^(c^^^d)=(a^^^c)^^^(b^^^d):=by
 rw[BitVec.xor_assoc,BitVec.xor_assoc,← BitVec.xor_assoc b c d,BitVec.xor_comm b c,BitVec.xor_assoc c b d]

theorem L_xor(a b:W32):L (a^^^b)=L a^^^L b:=by
 rw[L_bit,L_bit,L_bit,BitVec.getLsbD_xor,sel_xor,BitVec.ushiftRight_xor_distrib,xor4]

/-- a map that takes sums to sums -/
def Lin(f:W32→W32):Prop:=∀a b,f (a^^^b)=f a^^^f b

theorem Lin.it{f:W32→W32}(h:Lin f):∀k,Lin (it f k)
 |0=>fun _ _=>rfl
 |k+1=>fun a b=>by
  show CrcM.it f k (f (a^^^b))=CrcM.it f k (f a)^^^CrcM.it f k (f b)
  rw[h,Lin.it h k]

theorem lin_L:Lin L:=L_xor

theorem L_even(n:W32)(h:n.getLsbD 0=false):L n=n>>>1:=by
 rw[L_bit,h];simp

/-- four bits at once,by a table of what each half of a byte comes to -/
theorem four(n:W32):it L 4 n=(n>>>4)^^^it L 4 (n&&&15#32):=by
 have e:n=(n&&& ~~~15#32)^^^(n&&&15#32):=by
  apply BitVec.eq_of_getLsbD_eq
  intro i hi
  simp only [BitVec.getLsbD_xor,BitVec.getLsbD_and,BitVec.getLsbD_not,hi,decide_true,Bool.true_and]
  cases n.getLsbD i<;>cases (15#32).getLsbD i<;>rfl
 have h:it L 4 (n&&& ~~~15#32)=n>>>4:=by
  have hb:∀j,j<4→(n&&& ~~~15#32).getLsbD j=false:=by
   intro j hj
   simp only [BitVec.getLsbD_and,BitVec.getLsbD_not]
   have:(15#32).getLsbD j=true:=by
    match j,hj with
    |0,_=>rfl
    |1,_=>rfl
    |2,_=>rfl
    |3,_=>rfl
   simp[this]
  generalize hm:n&&& ~~~15#32=m at hb
  show L (L (L (L m)))=_
  rw[L_even m (hb 0 (by omega)),L_even (m>>>1) (by simpa using hb 1 (by omega)),L_even (m>>>1>>>1) (by simpa using hb 2 (by omega)),
   L_even (m>>>1>>>1>>>1) (by simpa using hb 3 (by omega))]
  rw[← BitVec.shiftRight_add,← BitVec.shiftRight_add,← BitVec.shiftRight_add]
  subst hm
  apply BitVec.eq_of_getLsbD_eq
  intro i hi
  simp only [BitVec.getLsbD_ushiftRight,BitVec.getLsbD_and,BitVec.getLsbD_not]
  by_cases hi':4+i<32
  ·have:(15#32).getLsbD (4+i)=false:=by
    rw[show(15#32)=BitVec.ofNat 32 15 from rfl,BitVec.getLsbD_ofNat]
    have:Nat.testBit 15 (4+i)=false:=Nat.testBit_lt_two_pow (by
     calc 15<2^4:=by decide
      _≤2^(4+i):=Nat.pow_le_pow_right (by decide) (by omega))
    simp[this]
   show(n.getLsbD (4+i)&&(decide (4+i<32)&& !(15#32).getLsbD (4+i)))=n.getLsbD (4+i)
   rw[this];simp[hi']
  ·have:n.getLsbD (4+i)=false:=BitVec.getLsbD_of_ge n _ (by omega)
   show(n.getLsbD (4+i)&&_)=n.getLsbD (4+i)
   rw[this];rfl
 conv=>lhs;rw[e]
 rw[lin_L.it 4,h]

/-- a byte more -/
def byte(n:W32)(b:Nat):W32:=it L 8 (n^^^BitVec.ofNat 32 b)

/-- bytes more,of a register as it stands between -/
def reg(n:W32)(l:List Nat):W32:=l.foldl byte n

def more(sum:W32)(l:List Nat):W32:= ~~~ reg (~~~ sum) l

theorem eight(n:W32):it L 8 n=it L 4 (it L 4 n):=it_add L 4 4 n

theorem reg_snoc(n:W32)(l:List Nat)(b:Nat):reg n (l++ [b])=byte (reg n l) b:=by
 simp[reg,List.foldl_append]

end CrcM
