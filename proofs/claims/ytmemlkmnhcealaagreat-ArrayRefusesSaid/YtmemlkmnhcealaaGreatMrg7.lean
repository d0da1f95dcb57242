
/- Several texts in one: RecB, RecC, RecD, XorA, XorB. -/
import Derived.Test.YtmemlkmnhcealaaGreatCsm
import Derived.Lib.SlBytesConst
import Derived.Lib.SliceRun
import Derived.Lib.LazyBuf
import Derived.Laws.BytesArg
import Derived.Laws.OwnMore
set_option linter.unusedVariables false
set_option maxRecDepth 100000
set_option maxHeartbeats 8000000
namespace Go.Proofs.YtmemlkmnhcealaaGreat
open Value renaming int→O,pointer→Zs,slice→Zt
open IntKind renaming i64→Z
open Ending renaming returned→Zu
open Go.Proofs.Tryz renaming prog→Zw
open Go.RowKit CrcM
open Lib(hid)
variable {many:Int} {xs:List Value} {B c g gb n:Nat} {f:Nat->UInt8} {t:TypeId} {v:Value} {W w:World}
def recBody(kind ep seq:Nat)(m:List UInt8):List UInt8:=padTo ([]++ [83,80,74,76]++leN kind 4++leN ep 8++leN seq 8++m) 124
abbrev crcN(l:List UInt8):Nat:=(more 0#32 (nats l)).toNat
def recSec(kind ep seq:Nat)(m:List UInt8):List UInt8:=recBody kind ep seq m++leN (crcN (recBody kind ep seq m)) 4
theorem Zca(kind ep seq:Nat)(m:List UInt8)(h:m.length≤100):(recBody kind ep seq m).length=124:=by
 unfold recBody;rw[Zgi];simp[Zal];omega
theorem Za5(kind ep seq:Nat)(m:List UInt8)(h:m.length≤100):(recSec kind ep seq m).length=128:=by
 unfold recSec;rw[Zo,Zca _ _ _ _ h,Zal]
theorem Zc9{B':Nat}{sz:Nat}(h:w.ownsRow B t sz v n xs)(hB:B'≤B):w.ownsRow B' t sz v n xs:=by
 obtain⟨h1,h2⟩:=h;exact⟨h1,h2.imp id fun ⟨g,cap,cur,a,b,c⟩=>⟨g,cap,cur,a,Zc hB b,c⟩⟩
theorem Zfx(l:List UInt8)(n:Nat)(h:l.length=n):padTo l n=l:=by
 subst h;simp[padTo]
theorem Zf0(w:World):(convert 36 36 (Zt (some ⟨w.heap.size,0,none⟩) 4 4)).run Zw (w.alloc (.cells #[.int .u8 83,.int .u8 80,.int .u8 74,.int .u8 76] 5))=.ok (Zt (some ⟨w.heap.size,0,none⟩) 4 4) (w.alloc (.cells #[.int .u8 83,.int .u8 80,.int .u8 74,.int .u8 76] 5 (4,5))):=
 Lib.run_convert_bytes_const (P:=Zw) w 36 5 _ 4 4 Tryz.underlying36 Tryz.underlying5
theorem Zhb(w:World):Seg (w.alloc (.cells #[.int .u8 83,.int .u8 80,.int .u8 74,.int .u8 76] 5 (4,5))) (Zt (some ⟨w.heap.size,0,none⟩) 4 4) [83,80,74,76]:=by
 refine⟨_,_,rfl,⟨fun h=>by simp at h,Za _⟩,.inr ⟨w.heap.size,0,rfl,by rw[Zaa];omega,fun j hj=> ?_⟩⟩;rw[Nat.zero_add,cell_of_row _ _ j _ _ _ (heap_alloc_new w _)];match j,hj with
 |0,_=>rfl
 |1,_=>rfl
 |2,_=>rfl
 |3,_=>rfl
theorem Zfo(ep seq b:Nat)(ix cnt mem row s:Nat)(esc:Bool)(w:World)(hb:At w b #[.int .u64 ep,.int .u64 seq,O Z ix,O Z cnt,O Z mem,O Z row,.bool esc,.int .u32 s] 300)(h1:ix<4294967296)(h2:cnt<4294967296)(h3:mem<4294967296)(h4:row<4294967296)(hs:s<4294967296)(he:ep<18446744073709551616)(hq:seq<18446744073709551616):
  Calls Zw 162 #[.int .u8 1,.int .u64 ep,.int .u64 seq,.func (.func 271) #[] #[Zs (some ⟨b,0,none⟩)]] w fun e w'=>∃v,e=Zu (.tuple #[v,.int .u16 0])/\w'.ownsRow w.heap.size 5 1 v 128 (ucells (recSec 1 ep seq (le4 [ix,cnt,mem,row,esc.toNat,s])))/\Below w.heap.size w w':=by
 have hm:((le4 [ix,cnt,mem,row,esc.toNat,s])).length≤24:=by simp[Zbs]
 have HM:=hid hm;have HB:=hid hb;have HN0:Hid (Calls Zw 127 #[O Z 124] w fun e w'=>∃p,e=Zu (.tuple #[Zs (some ⟨p,0,none⟩),.int .u16 0])/\(∀B,B≤w.heap.size->PackAt w' B p 124 (Zt none 0 0) [])/\Below w.heap.size w w'):=Zje 124 w (by decide);have HN1:Hid (∀W,Calls Zw 127 #[O Z 128] W fun e w'=>∃p,e=Zu (.tuple #[Zs (some ⟨p,0,none⟩),.int .u16 0])/\(∀B,B≤W.heap.size->PackAt w' B p 128 (Zt none 0 0) [])/\Below W.heap.size W w'):=fun W=>Zje 128 W (by decide)
 have HLB:Hid ((recBody 1 ep seq (le4 [ix,cnt,mem,row,esc.toNat,s])).length=124):=Zca _ _ _ _ (by omega);clear hb hm;have kc:=fun w:World=>Zf0 w
 go_enter Tryz.func162,Tryz.ntmps162
 go_wp2_with (first
  |(go_at_call 127;(with_reducible refine HN0.out.mono ?_);rintro e w1 ⟨p,rfl,hp,hb1⟩;clear HN0;have HB1:=hid hb1;have HR2:Hid (Calls Zw 169 #[Zs (some ⟨p,0,none⟩),Zt (some ⟨w1.heap.size,0,none⟩) 4 4] (w1.alloc (.cells #[.int .u8 83,.int .u8 80,.int .u8 74,.int .u8 76] 5 (4,5))) fun e w'=>e=Zu (.tuple #[])/\PackPost (w1.alloc (.cells #[.int .u8 83,.int .u8 80,.int .u8 74,.int .u8 76] 5 (4,5))) w.heap.size p 124 ([]++ [83,80,74,76]) w'):=Zjd ((hp w.heap.size (Za _)).below ((Zb _ _).alloc (Za _) _)) _ [83,80,74,76] (Zhb w1) (by decide);clear hp hb1)
  |(go_at_call 169;(with_reducible refine HR2.out.mono ?_);rintro e w2 ⟨rfl,⟨bv2,hp2⟩,hb2,_⟩;clear HR2;have HB2:=hid ((HB1.out.alloc HB1.out.size _).trans hb2);have HU3:Hid (Calls Zw 132 #[Zs (some ⟨p,0,none⟩),.int .u32 1] w2 fun e w'=>e=Zu (.tuple #[])/\PackPost w2 w.heap.size p 124 ([]++ [83,80,74,76]++leN 1 4) w'):=Zc4 hp2 1 (by decide) (by decide);clear hp2 hb2 HB1)
  |(go_at_call 132;(with_reducible refine HU3.out.mono ?_);rintro e w3 ⟨rfl,⟨bv3,hp3⟩,hb3,_⟩;clear HU3;have HB3:=hid (HB2.out.trans hb3);have HU4:=hid (Zi4 hp3 ep he (by simp[Zal]));clear hp3 hb3 HB2)
  |(go_at_call 174;(with_reducible refine HU4.out.mono ?_);rintro e w4 ⟨rfl,⟨bv4,hp4⟩,hb4,_⟩;clear HU4;have HB4:=hid (HB3.out.trans hb4);have HU5:=hid (Zi4 hp4 seq hq (by simp[Zal]));clear hp4 hb4 HB3)
  |(go_at_call 174;(with_reducible refine HU5.out.mono ?_);rintro e w5 ⟨rfl,⟨bv5,hp5⟩,hb5,_⟩;clear HU5;have HB5:=hid (HB4.out.trans hb5);have hbx:=HB.out.below HB5.out HB.out.lt;have HC6:=hid (Zhi hp5 ep seq ix cnt mem row s esc hbx h1 h2 h3 h4 hs (by simp[Zal]));clear hp5 hb5 HB4 hbx)
  |(go_at_call 271;(with_reducible refine HC6.out.mono ?_);rintro e w6 ⟨rfl,⟨bv6,hp6⟩,hb6,_⟩;clear HC6;have HB6:=hid (HB5.out.trans hb6);have HY7:=hid (Zek hp6);clear hp6 hb6 HB5)
  |(go_at_call 131;(with_reducible refine HY7.out.mono ?_);rintro e w7 ⟨v7,rfl,hv7,hb7⟩;clear HY7;have HB7:Hid (Below w.heap.size w w7):=HB6.out.trans (hb7.mono HB6.out.size);have HV7:Hid (w7.ownsRow w6.heap.size 5 1 v7 124 (ucells (recBody 1 ep seq (le4 [ix,cnt,mem,row,esc.toNat,s])))):=hv7;obtain⟨va,vc,rfl⟩:=Zab hv7;clear hv7 hb7 HB6)
  |(go_at_call 127;(with_reducible refine(HN1.out _).mono ?_);rintro e w8 ⟨q,rfl,hp8,hb8⟩;clear HN1;have hp9:=hp8 w7.heap.size (Za _);have HB78:=hid hb8;have HV8:Hid (Seg w8 (Zt va 124 vc) (recBody 1 ep seq (le4 [ix,cnt,mem,row,esc.toNat,s]))):=Zao (by rw[HLB.out];exact Zaf HV7.out hb8 (Za _));have HR9:=hid (Zjd hp9 _ _ HV8.out (by rw[HLB.out];decide));clear hp8 hb8 hp9)
  |(go_at_call 169;(with_reducible refine HR9.out.mono ?_);rintro e w9 ⟨rfl,⟨bv9,hp9⟩,hb9,hk9⟩;clear HR9;have HB79:=hid (HB78.out.trans hb9);have HV9:Hid (Seg w9 (Zt va 124 vc) (recBody 1 ep seq (le4 [ix,cnt,mem,row,esc.toNat,s]))):=Zao (by rw[HLB.out];exact Zaf HV7.out HB79.out (Za _));have HS10:=hid (Zj7 _ (recBody 1 ep seq (le4 [ix,cnt,mem,row,esc.toNat,s])) w9 (by rw[HLB.out];decide) HV9.out);have HP9:=hid hp9;clear hp9 hb9 hk9)
  |(go_at_call 133;(with_reducible refine HS10.out.mono ?_);rintro e w10 ⟨rfl,hb10⟩;clear HS10;have HB710:Hid (Below w7.heap.size w7 w10):=HB79.out.trans (hb10.mono HB79.out.size);have HU11:=hid (Zc4 (HP9.out.below hb10) (crcN (recBody 1 ep seq (le4 [ix,cnt,mem,row,esc.toNat,s]))) (more 0#32 (nats (recBody 1 ep seq (le4 [ix,cnt,mem,row,esc.toNat,s])))).isLt (by rw[List.nil_append,HLB.out];decide));clear hb10)
  |(go_at_call 132;(with_reducible refine HU11.out.mono ?_);rintro e w11 ⟨rfl,⟨bv11,hp11⟩,hb11,_⟩;clear HU11;have HB711:Hid (Below w7.heap.size w7 w11):=HB710.out.trans hb11;have HY12:=hid (Zek hp11);clear hp11 hb11)
  |(go_at_call 131;(with_reducible refine HY12.out.mono ?_);rintro e w12 ⟨v12,rfl,hv12,hb12⟩;clear HY12;have HB712:Hid (Below w7.heap.size w7 w12):=HB711.out.trans (hb12.mono HB711.out.size);have HBL:Hid (Below w.heap.size w w12):=HB7.out.trans (HB712.out.mono HB7.out.size);have HV12:=hid hv12;have HSZ:Hid (w.heap.size≤w11.heap.size):=Zc HB7.out.size HB711.out.size;clear hv12 hb12))
 go_ret2;refine⟨_,rfl,?_,HBL.out⟩;have e:=HV12.out;rw[Zfx _ 128 (by have:=HLB.out;simp[this,Zal])]at e;exact Zc9 e HSZ.out
theorem Zfh(ep seq b:Nat)(n s:Nat)(w:World)(hb:At w b #[.int .u64 ep,.int .u64 seq,O Z n,.int .u32 s] 305)(hnn:n<4294967296)(hs:s<4294967296)(he:ep<18446744073709551616)(hq:seq<18446744073709551616):
  Calls Zw 162 #[.int .u8 2,.int .u64 ep,.int .u64 seq,.func (.func 272) #[] #[Zs (some ⟨b,0,none⟩)]] w fun e w'=>∃v,e=Zu (.tuple #[v,.int .u16 0])/\w'.ownsRow w.heap.size 5 1 v 128 (ucells (recSec 2 ep seq ((leN n 4++leN s 4))))/\Below w.heap.size w w':=by
 have hm:(((leN n 4++leN s 4))).length≤24:=by simp[Zal]
 have HM:=hid hm;have HB:=hid hb;have HN0:Hid (Calls Zw 127 #[O Z 124] w fun e w'=>∃p,e=Zu (.tuple #[Zs (some ⟨p,0,none⟩),.int .u16 0])/\(∀B,B≤w.heap.size->PackAt w' B p 124 (Zt none 0 0) [])/\Below w.heap.size w w'):=Zje 124 w (by decide);have HN1:Hid (∀W,Calls Zw 127 #[O Z 128] W fun e w'=>∃p,e=Zu (.tuple #[Zs (some ⟨p,0,none⟩),.int .u16 0])/\(∀B,B≤W.heap.size->PackAt w' B p 128 (Zt none 0 0) [])/\Below W.heap.size W w'):=fun W=>Zje 128 W (by decide)
 have HLB:Hid ((recBody 2 ep seq ((leN n 4++leN s 4))).length=124):=Zca _ _ _ _ (by omega);clear hb hm;have kc:=fun w:World=>Zf0 w
 go_enter Tryz.func162,Tryz.ntmps162
 go_wp2_with (first
  |(go_at_call 127;(with_reducible refine HN0.out.mono ?_);rintro e w1 ⟨p,rfl,hp,hb1⟩;clear HN0;have HB1:=hid hb1;have HR2:Hid (Calls Zw 169 #[Zs (some ⟨p,0,none⟩),Zt (some ⟨w1.heap.size,0,none⟩) 4 4] (w1.alloc (.cells #[.int .u8 83,.int .u8 80,.int .u8 74,.int .u8 76] 5 (4,5))) fun e w'=>e=Zu (.tuple #[])/\PackPost (w1.alloc (.cells #[.int .u8 83,.int .u8 80,.int .u8 74,.int .u8 76] 5 (4,5))) w.heap.size p 124 ([]++ [83,80,74,76]) w'):=Zjd ((hp w.heap.size (Za _)).below ((Zb _ _).alloc (Za _) _)) _ [83,80,74,76] (Zhb w1) (by decide);clear hp hb1)
  |(go_at_call 169;(with_reducible refine HR2.out.mono ?_);rintro e w2 ⟨rfl,⟨bv2,hp2⟩,hb2,_⟩;clear HR2;have HB2:=hid ((HB1.out.alloc HB1.out.size _).trans hb2);have HU3:Hid (Calls Zw 132 #[Zs (some ⟨p,0,none⟩),.int .u32 2] w2 fun e w'=>e=Zu (.tuple #[])/\PackPost w2 w.heap.size p 124 ([]++ [83,80,74,76]++leN 2 4) w'):=Zc4 hp2 2 (by decide) (by decide);clear hp2 hb2 HB1)
  |(go_at_call 132;(with_reducible refine HU3.out.mono ?_);rintro e w3 ⟨rfl,⟨bv3,hp3⟩,hb3,_⟩;clear HU3;have HB3:=hid (HB2.out.trans hb3);have HU4:=hid (Zi4 hp3 ep he (by simp[Zal]));clear hp3 hb3 HB2)
  |(go_at_call 174;(with_reducible refine HU4.out.mono ?_);rintro e w4 ⟨rfl,⟨bv4,hp4⟩,hb4,_⟩;clear HU4;have HB4:=hid (HB3.out.trans hb4);have HU5:=hid (Zi4 hp4 seq hq (by simp[Zal]));clear hp4 hb4 HB3)
  |(go_at_call 174;(with_reducible refine HU5.out.mono ?_);rintro e w5 ⟨rfl,⟨bv5,hp5⟩,hb5,_⟩;clear HU5;have HB5:=hid (HB4.out.trans hb5);have hbx:=HB.out.below HB5.out HB.out.lt;have HC6:=hid (Zh9 hp5 ep seq n s hbx hnn hs (by simp[Zal]));clear hp5 hb5 HB4 hbx)
  |(go_at_call 272;(with_reducible refine HC6.out.mono ?_);rintro e w6 ⟨rfl,⟨bv6,hp6⟩,hb6,_⟩;clear HC6;have HB6:=hid (HB5.out.trans hb6);have HY7:=hid (Zek hp6);clear hp6 hb6 HB5)
  |(go_at_call 131;(with_reducible refine HY7.out.mono ?_);rintro e w7 ⟨v7,rfl,hv7,hb7⟩;clear HY7;have HB7:Hid (Below w.heap.size w w7):=HB6.out.trans (hb7.mono HB6.out.size);have HV7:Hid (w7.ownsRow w6.heap.size 5 1 v7 124 (ucells (recBody 2 ep seq ((leN n 4++leN s 4))))):=hv7;obtain⟨va,vc,rfl⟩:=Zab hv7;clear hv7 hb7 HB6)
  |(go_at_call 127;(with_reducible refine(HN1.out _).mono ?_);rintro e w8 ⟨q,rfl,hp8,hb8⟩;clear HN1;have hp9:=hp8 w7.heap.size (Za _);have HB78:=hid hb8;have HV8:Hid (Seg w8 (Zt va 124 vc) (recBody 2 ep seq ((leN n 4++leN s 4)))):=Zao (by rw[HLB.out];exact Zaf HV7.out hb8 (Za _));have HR9:=hid (Zjd hp9 _ _ HV8.out (by rw[HLB.out];decide));clear hp8 hb8 hp9)
  |(go_at_call 169;(with_reducible refine HR9.out.mono ?_);rintro e w9 ⟨rfl,⟨bv9,hp9⟩,hb9,hk9⟩;clear HR9;have HB79:=hid (HB78.out.trans hb9);have HV9:Hid (Seg w9 (Zt va 124 vc) (recBody 2 ep seq ((leN n 4++leN s 4)))):=Zao (by rw[HLB.out];exact Zaf HV7.out HB79.out (Za _));have HS10:=hid (Zj7 _ (recBody 2 ep seq ((leN n 4++leN s 4))) w9 (by rw[HLB.out];decide) HV9.out);have HP9:=hid hp9;clear hp9 hb9 hk9)
  |(go_at_call 133;(with_reducible refine HS10.out.mono ?_);rintro e w10 ⟨rfl,hb10⟩;clear HS10;have HB710:Hid (Below w7.heap.size w7 w10):=HB79.out.trans (hb10.mono HB79.out.size);have HU11:=hid (Zc4 (HP9.out.below hb10) (crcN (recBody 2 ep seq ((leN n 4++leN s 4)))) (more 0#32 (nats (recBody 2 ep seq ((leN n 4++leN s 4))))).isLt (by rw[List.nil_append,HLB.out];decide));clear hb10)
  |(go_at_call 132;(with_reducible refine HU11.out.mono ?_);rintro e w11 ⟨rfl,⟨bv11,hp11⟩,hb11,_⟩;clear HU11;have HB711:Hid (Below w7.heap.size w7 w11):=HB710.out.trans hb11;have HY12:=hid (Zek hp11);clear hp11 hb11)
  |(go_at_call 131;(with_reducible refine HY12.out.mono ?_);rintro e w12 ⟨v12,rfl,hv12,hb12⟩;clear HY12;have HB712:Hid (Below w7.heap.size w7 w12):=HB711.out.trans (hb12.mono HB711.out.size);have HBL:Hid (Below w.heap.size w w12):=HB7.out.trans (HB712.out.mono HB7.out.size);have HV12:=hid hv12;have HSZ:Hid (w.heap.size≤w11.heap.size):=Zc HB7.out.size HB711.out.size;clear hv12 hb12))
 go_ret2;refine⟨_,rfl,?_,HBL.out⟩;have e:=HV12.out;rw[Zfx _ 128 (by have:=HLB.out;simp[this,Zal])]at e;exact Zc9 e HSZ.out
theorem Zfz(ep seq b:Nat)(t:Nat)(w:World)(hb:At w b #[.int .u64 ep,.int .u64 seq,O Z t] 151)(ht:t<4294967296)(he:ep<18446744073709551616)(hq:seq<18446744073709551616):
  Calls Zw 162 #[.int .u8 3,.int .u64 ep,.int .u64 seq,.func (.func 163) #[] #[Zs (some ⟨b,0,none⟩)]] w fun e w'=>∃v,e=Zu (.tuple #[v,.int .u16 0])/\w'.ownsRow w.heap.size 5 1 v 128 (ucells (recSec 3 ep seq (leN t 4)))/\Below w.heap.size w w':=by
 have hm:((leN t 4)).length≤24:=by simp[Zal]
 have HM:=hid hm;have HB:=hid hb;have HN0:Hid (Calls Zw 127 #[O Z 124] w fun e w'=>∃p,e=Zu (.tuple #[Zs (some ⟨p,0,none⟩),.int .u16 0])/\(∀B,B≤w.heap.size->PackAt w' B p 124 (Zt none 0 0) [])/\Below w.heap.size w w'):=Zje 124 w (by decide);have HN1:Hid (∀W,Calls Zw 127 #[O Z 128] W fun e w'=>∃p,e=Zu (.tuple #[Zs (some ⟨p,0,none⟩),.int .u16 0])/\(∀B,B≤W.heap.size->PackAt w' B p 128 (Zt none 0 0) [])/\Below W.heap.size W w'):=fun W=>Zje 128 W (by decide)
 have HLB:Hid ((recBody 3 ep seq (leN t 4)).length=124):=Zca _ _ _ _ (by omega);clear hb hm;have kc:=fun w:World=>Zf0 w
 go_enter Tryz.func162,Tryz.ntmps162
 go_wp2_with (first
  |(go_at_call 127;(with_reducible refine HN0.out.mono ?_);rintro e w1 ⟨p,rfl,hp,hb1⟩;clear HN0;have HB1:=hid hb1;have HR2:Hid (Calls Zw 169 #[Zs (some ⟨p,0,none⟩),Zt (some ⟨w1.heap.size,0,none⟩) 4 4] (w1.alloc (.cells #[.int .u8 83,.int .u8 80,.int .u8 74,.int .u8 76] 5 (4,5))) fun e w'=>e=Zu (.tuple #[])/\PackPost (w1.alloc (.cells #[.int .u8 83,.int .u8 80,.int .u8 74,.int .u8 76] 5 (4,5))) w.heap.size p 124 ([]++ [83,80,74,76]) w'):=Zjd ((hp w.heap.size (Za _)).below ((Zb _ _).alloc (Za _) _)) _ [83,80,74,76] (Zhb w1) (by decide);clear hp hb1)
  |(go_at_call 169;(with_reducible refine HR2.out.mono ?_);rintro e w2 ⟨rfl,⟨bv2,hp2⟩,hb2,_⟩;clear HR2;have HB2:=hid ((HB1.out.alloc HB1.out.size _).trans hb2);have HU3:Hid (Calls Zw 132 #[Zs (some ⟨p,0,none⟩),.int .u32 3] w2 fun e w'=>e=Zu (.tuple #[])/\PackPost w2 w.heap.size p 124 ([]++ [83,80,74,76]++leN 3 4) w'):=Zc4 hp2 3 (by decide) (by decide);clear hp2 hb2 HB1)
  |(go_at_call 132;(with_reducible refine HU3.out.mono ?_);rintro e w3 ⟨rfl,⟨bv3,hp3⟩,hb3,_⟩;clear HU3;have HB3:=hid (HB2.out.trans hb3);have HU4:=hid (Zi4 hp3 ep he (by simp[Zal]));clear hp3 hb3 HB2)
  |(go_at_call 174;(with_reducible refine HU4.out.mono ?_);rintro e w4 ⟨rfl,⟨bv4,hp4⟩,hb4,_⟩;clear HU4;have HB4:=hid (HB3.out.trans hb4);have HU5:=hid (Zi4 hp4 seq hq (by simp[Zal]));clear hp4 hb4 HB3)
  |(go_at_call 174;(with_reducible refine HU5.out.mono ?_);rintro e w5 ⟨rfl,⟨bv5,hp5⟩,hb5,_⟩;clear HU5;have HB5:=hid (HB4.out.trans hb5);have hbx:=HB.out.below HB5.out HB.out.lt;have HC6:=hid (Ziz hp5 ep seq t hbx ht (by simp[Zal]));clear hp5 hb5 HB4 hbx)
  |(go_at_call 163;(with_reducible refine HC6.out.mono ?_);rintro e w6 ⟨rfl,⟨bv6,hp6⟩,hb6,_⟩;clear HC6;have HB6:=hid (HB5.out.trans hb6);have HY7:=hid (Zek hp6);clear hp6 hb6 HB5)
  |(go_at_call 131;(with_reducible refine HY7.out.mono ?_);rintro e w7 ⟨v7,rfl,hv7,hb7⟩;clear HY7;have HB7:Hid (Below w.heap.size w w7):=HB6.out.trans (hb7.mono HB6.out.size);have HV7:Hid (w7.ownsRow w6.heap.size 5 1 v7 124 (ucells (recBody 3 ep seq (leN t 4)))):=hv7;obtain⟨va,vc,rfl⟩:=Zab hv7;clear hv7 hb7 HB6)
  |(go_at_call 127;(with_reducible refine(HN1.out _).mono ?_);rintro e w8 ⟨q,rfl,hp8,hb8⟩;clear HN1;have hp9:=hp8 w7.heap.size (Za _);have HB78:=hid hb8;have HV8:Hid (Seg w8 (Zt va 124 vc) (recBody 3 ep seq (leN t 4))):=Zao (by rw[HLB.out];exact Zaf HV7.out hb8 (Za _));have HR9:=hid (Zjd hp9 _ _ HV8.out (by rw[HLB.out];decide));clear hp8 hb8 hp9)
  |(go_at_call 169;(with_reducible refine HR9.out.mono ?_);rintro e w9 ⟨rfl,⟨bv9,hp9⟩,hb9,hk9⟩;clear HR9;have HB79:=hid (HB78.out.trans hb9);have HV9:Hid (Seg w9 (Zt va 124 vc) (recBody 3 ep seq (leN t 4))):=Zao (by rw[HLB.out];exact Zaf HV7.out HB79.out (Za _));have HS10:=hid (Zj7 _ (recBody 3 ep seq (leN t 4)) w9 (by rw[HLB.out];decide) HV9.out);have HP9:=hid hp9;clear hp9 hb9 hk9)
  |(go_at_call 133;(with_reducible refine HS10.out.mono ?_);rintro e w10 ⟨rfl,hb10⟩;clear HS10;have HB710:Hid (Below w7.heap.size w7 w10):=HB79.out.trans (hb10.mono HB79.out.size);have HU11:=hid (Zc4 (HP9.out.below hb10) (crcN (recBody 3 ep seq (leN t 4))) (more 0#32 (nats (recBody 3 ep seq (leN t 4)))).isLt (by rw[List.nil_append,HLB.out];decide));clear hb10)
  |(go_at_call 132;(with_reducible refine HU11.out.mono ?_);rintro e w11 ⟨rfl,⟨bv11,hp11⟩,hb11,_⟩;clear HU11;have HB711:Hid (Below w7.heap.size w7 w11):=HB710.out.trans hb11;have HY12:=hid (Zek hp11);clear hp11 hb11)
  |(go_at_call 131;(with_reducible refine HY12.out.mono ?_);rintro e w12 ⟨v12,rfl,hv12,hb12⟩;clear HY12;have HB712:Hid (Below w7.heap.size w7 w12):=HB711.out.trans (hb12.mono HB711.out.size);have HBL:Hid (Below w.heap.size w w12):=HB7.out.trans (HB712.out.mono HB7.out.size);have HV12:=hid hv12;have HSZ:Hid (w.heap.size≤w11.heap.size):=Zc HB7.out.size HB711.out.size;clear hv12 hb12))
 go_ret2;refine⟨_,rfl,?_,HBL.out⟩;have e:=HV12.out;rw[Zfx _ 128 (by have:=HLB.out;simp[this,Zal])]at e;exact Zc9 e HSZ.out
open Go.RowKit CrcM
def NewRow(w:World)(l:List UInt8)(e:Ending)(w':World):Prop:=∃v,e=Zu (.tuple #[v,.int .u16 0])/\w'.ownsRow w.heap.size 5 1 v l.length (ucells l)/\Below w.heap.size w w'
theorem Zqp(ep seq ix cnt mem row s:Nat)(esc:Bool)(w:World)(he:ep≤4611686018427387904)(hq1:1≤seq)(hq:seq≤4611686018427387904)(hc1:1≤cnt)(hc2:cnt≤1023)(hix:ix<cnt)(hmem:mem≤15)(hrow:row≤4095)(hs:s<4294967296):
  Calls Zw 221 #[.agg #[.int .u64 ep,.int .u64 seq,O Z ix,O Z cnt,O Z mem,O Z row,.bool esc,.int .u32 s]] w (NewRow w (recSec 1 ep seq (le4 [ix,cnt,mem,row,esc.toNat,s]))):=by
 have hbox:=At.new w #[.int .u64 ep,.int .u64 seq,O Z ix,O Z cnt,O Z mem,O Z row,.bool esc,.int .u32 s] 300;have KC:Hid (∀W,Calls Zw 160 #[.int .u64 ep,.int .u64 seq] W fun e w'=>e=Zu (.bool true)/\w'=W):=fun W=>Zf6 ep seq W he hq1 hq
 have c0:=hbox.cell 0;have c1:=hbox.cell 1;have c2:=hbox.cell 2;have c3:=hbox.cell 3;have c4:=hbox.cell 4;have c5:=hbox.cell 5;have c6:=hbox.cell 6;have c7:=hbox.cell 7;have KW:=hid (Zfo ep seq w.heap.size ix cnt mem row s esc _ hbox (by omega) (by omega) (by omega) (by omega) hs (by omega) (by omega));have HL:Hid ((recSec 1 ep seq (le4 [ix,cnt,mem,row,esc.toNat,s])).length=128):=Za5 _ _ _ _ (by simp[Zbs]);clear hbox;go_enter Tryz.func221,Tryz.ntmps221
 go_wp2_with (first
  |(go_at_call 160;(with_reducible refine(KC.out _).mono ?_);rintro e w1 ⟨rfl,rfl⟩)
  |(go_at_call 161;(with_reducible refine(Zrz _ _ _ _ (by omega) (by omega)).mono ?_);rintro e w1 ⟨rfl,rfl⟩)
  |(go_at_call 162;(with_reducible refine KW.out.mono ?_);rintro e w1 ⟨v,rfl,hv,hb⟩;have HV:=hid hv;have HB:=hid hb;obtain⟨va,vc,rfl⟩:=Zab hv;clear hv hb))
 go_ret2;refine⟨_,rfl,?_,((Zb w.heap.size w).alloc (Za _) _).trans (HB.out.mono (by rw[Zaa];omega))⟩;rw[HL.out];exact Zc9 HV.out (by rw[Zaa];omega)
theorem Zqv(ep seq n s:Nat)(w:World)(he:ep≤4611686018427387904)(hq1:1≤seq)(hq:seq≤4611686018427387904)(hn1:1≤n)(hn2:n≤1023)(hs:s<4294967296):
  Calls Zw 223 #[.agg #[.int .u64 ep,.int .u64 seq,O Z n,.int .u32 s]] w (NewRow w (recSec 2 ep seq (leN n 4++leN s 4))):=by
 have hbox:=At.new w #[.int .u64 ep,.int .u64 seq,O Z n,.int .u32 s] 305;have KC:Hid (∀W,Calls Zw 160 #[.int .u64 ep,.int .u64 seq] W fun e w'=>e=Zu (.bool true)/\w'=W):=fun W=>Zf6 ep seq W he hq1 hq
 have c0:=hbox.cell 0;have c1:=hbox.cell 1;have c2:=hbox.cell 2;have c3:=hbox.cell 3;have KW:=hid (Zfh ep seq w.heap.size n s _ hbox (by omega) hs (by omega) (by omega));have HL:Hid ((recSec 2 ep seq (leN n 4++leN s 4)).length=128):=Za5 _ _ _ _ (by simp[Zal]);clear hbox;go_enter Tryz.func223,Tryz.ntmps223
 go_wp2_with (first
  |(go_at_call 160;(with_reducible refine(KC.out _).mono ?_);rintro e w1 ⟨rfl,rfl⟩)
  |(go_at_call 161;(with_reducible refine(Zrz _ _ _ _ (by omega) (by omega)).mono ?_);rintro e w1 ⟨rfl,rfl⟩)
  |(go_at_call 162;(with_reducible refine KW.out.mono ?_);rintro e w1 ⟨v,rfl,hv,hb⟩;have HV:=hid hv;have HB:=hid hb;obtain⟨va,vc,rfl⟩:=Zab hv;clear hv hb))
 go_ret2;refine⟨_,rfl,?_,((Zb w.heap.size w).alloc (Za _) _).trans (HB.out.mono (by rw[Zaa];omega))⟩;rw[HL.out];exact Zc9 HV.out (by rw[Zaa];omega)
theorem Zr9(ep seq t:Nat)(w:World)(he:ep≤4611686018427387904)(hq1:1≤seq)(hq:seq≤4611686018427387904)(ht:t≤2047):
  Calls Zw 122 #[.agg #[.int .u64 ep,.int .u64 seq,O Z t]] w (NewRow w (recSec 3 ep seq (leN t 4))):=by
 have hbox:=At.new w #[.int .u64 ep,.int .u64 seq,O Z t] 151;have KC:Hid (∀W,Calls Zw 160 #[.int .u64 ep,.int .u64 seq] W fun e w'=>e=Zu (.bool true)/\w'=W):=fun W=>Zf6 ep seq W he hq1 hq
 have c0:=hbox.cell 0;have c1:=hbox.cell 1;have c2:=hbox.cell 2;have KW:=hid (Zfz ep seq w.heap.size t _ hbox (by omega) (by omega) (by omega));have HL:Hid ((recSec 3 ep seq (leN t 4)).length=128):=Za5 _ _ _ _ (by simp[Zal]);clear hbox;go_enter Tryz.func122,Tryz.ntmps122
 go_wp2_with (first
  |(go_at_call 160;(with_reducible refine(KC.out _).mono ?_);rintro e w1 ⟨rfl,rfl⟩)
  |(go_at_call 161;(with_reducible refine(Zrz _ _ _ _ (by omega) (by omega)).mono ?_);rintro e w1 ⟨rfl,rfl⟩)
  |(go_at_call 162;(with_reducible refine KW.out.mono ?_);rintro e w1 ⟨v,rfl,hv,hb⟩;have HV:=hid hv;have HB:=hid hb;obtain⟨va,vc,rfl⟩:=Zab hv;clear hv hb))
 go_ret2;refine⟨_,rfl,?_,((Zb w.heap.size w).alloc (Za _) _).trans (HB.out.mono (by rw[Zaa];omega))⟩;rw[HL.out];exact Zc9 HV.out (by rw[Zaa];omega)
open Go.RowKit CrcM
def escOf(l:List UInt8):Bool:=l.take 4== [83,80,74,76]
def escRow(l:List UInt8):List UInt8:=if escOf l then [0,0,0,0]++l.drop 4 else l
theorem Zvt{b o:Nat}{l:List UInt8}(h4:4≤l.length)(hc:∀j (h:j<l.length),w.cell? ⟨b,o+j,none⟩=some (.int .u8 ((l[j].toNat:Nat):Int))):
  (convert 36 9 (Zt (some ⟨b,o,none⟩) 4 c)).run Zw w=.ok (.string ⟨(l.take 4).toArray⟩) w:=by
 rw[<-Lib.Lz.strOfNums_map];refine run_convert_bytes_arg w _ 5 Tryz.underlying36 Tryz.underlying5 b o 4 c _ (by simp;omega) (fun i hi=> ?_) _ Tryz.underlying9;rw[hc i (by omega)];have:((l.take 4).map fun b:UInt8=>(b.toNat:Int)).getD i 0=((l[i]'(by omega)).toNat:Int):=by
  rw[Zi,List.getElem?_map,List.getElem?_take_of_lt hi,Zh (by omega)];rfl
 rw[this]
theorem set4(l:List UInt8)(h:4≤l.length):((((ucells l).set 0 (.int .u8 0)).set 1 (.int .u8 0)).set 2 (.int .u8 0)).set 3 (.int .u8 0)=ucells ([0,0,0,0]++l.drop 4):=by
 match l,h with
 |_::_::_::_::r,_=>simp[ucells]
theorem Zfq(l:List UInt8)(h:4≤l.length):(escRow l).length=l.length:=by
 unfold escRow;split
 ·simp;omega
 ·rfl
theorem Zcd(h:w.ownsRow B t 1 v n xs)(hn:0<n):∃g c,v=Zt (some ⟨g,0,none⟩) n c:=by
 rcases h.2 with ⟨_,h2⟩|⟨g,c,_,h2,_⟩
 ·omega
 ·exact⟨g,c,h2⟩
theorem Zsp(h:w.ownsRow B 5 1 (Zt (some ⟨g,0,none⟩) n c) n xs)(hn:4≤n):
  (Builtin.clear_ #[36] 0 #[Zt (some ⟨g,0,none⟩) 4 c]).run Zw w=.ok (.tuple #[]) (w.setCells g 0 [.int .u8 0,.int .u8 0,.int .u8 0,.int .u8 0]):=by
 refine Lib.run_clear_slice w _ 5 _ (.int .u8 0) Tryz.underlying36 (fun _=>by kernel_rfl) rfl rfl g 0 4 c (by decide) (fun j hj=> ?_) (fun j hj=> ?_)
 ·rw[Nat.zero_add,h.cellAt j (by omega),Zh (by have:=h.1;omega)];rfl
 ·exact h.frozenAt _
theorem Zpo(v:Value)(l:List UInt8)(w:World)(hl:l.length=128)(hv:Seg w v l):
  Calls Zw 220 #[v] w fun e w'=>∃v',e=Zu (.tuple #[v',.bool (escOf l),.int .u16 0])/\w'.ownsRow w.heap.size 5 1 v' 128 (ucells (escRow l))/\Below w.heap.size w w':=by
 obtain⟨b,o,c,rfl,hb,hc⟩:=hv.full (by omega);have hcap:=hv.le;have HC:Hid (Calls Zw 98 #[Zt (some ⟨b,o,none⟩) 128 c] w fun e w'=>∃v,e=.returned v/\w'.ownsRow w.heap.size 5 1 v l.length (ucells l)/\Below w.heap.size w w'):=by
  have:=Zcw ⟨b,o,none⟩ c l w (by omega) hv;rw[hl]at this ⊢;exact this
 have HCE:=hid hc;have HL:=hid hl;have HR:Hid (escRow l=if escOf l then [0,0,0,0]++l.drop 4 else l):=rfl;clear hv hc;rw[hl]at hcap ⊢;clear hl;go_enter Tryz.func220,Tryz.ntmps220
 go_wp2_with (first
  |(go_at_call 98;with_reducible refine HC.out.mono ?_;rintro e w1 ⟨v1,rfl,hv1,hb1⟩;clear HC;have ks:=Zvt (c:=c) (by rw[HL.out];decide) (fun j h=>(hb1.cell (p:=⟨b,o+j,none⟩) hb).trans (HCE.out j h));have HB1:=hid hb1;rw[HL.out]at hv1;obtain⟨g,c1,rfl⟩:=Zcd hv1 (by decide);have kc:=Zsp hv1 (by decide);have hc1:=(Zao (l:=l) (by rw[HL.out];exact hv1)).le;have HV1:=hid hv1;clear hv1 hb1))
 ·rename_i hE
  have hE':escOf l=true:=hE;go_ret3;have hg:w.heap.size≤g:=(HV1.out.lt g rfl).1;have s3:=((((HV1.out.stored 0 (.int .u8 0)).1.stored 1 (.int .u8 0)).1.stored 2 (.int .u8 0)).1.stored 3 (.int .u8 0)).1;refine⟨_,rfl,?_,(((HB1.out.setCell (p:=⟨g,0,none⟩) hg _).setCell (p:=⟨g,1,none⟩) hg _).setCell (p:=⟨g,2,none⟩) hg _).setCell (p:=⟨g,3,none⟩) hg _⟩;rw[HR.out,hE',Zf rfl,<-set4 l (by rw[HL.out];decide)];exact s3
 ·rename_i hE
  have hE':escOf l=false:=hE;go_ret3;refine⟨_,rfl,?_,HB1.out⟩;rw[HR.out,hE',Ze (by decide)];exact HV1.out
open Go.RowKit
def ufn(f:Nat->UInt8)(n:Nat):Array Value:=((List.range n).map fun i=>Value.int .u8 (((f i).toNat:Nat):Int)).toArray
theorem Zgy(f:Nat->UInt8)(n:Nat):(ufn f n).size=n:=by simp[ufn]
theorem Zoh(f:Nat->UInt8)(n i:Nat)(h:i<n):(ufn f n)[i]?=some (.int .u8 (((f i).toNat:Nat):Int)):=by simp[ufn,h]
theorem Zva{g:Nat->UInt8}(h:∀i,i<n->f i=g i):ufn f n=ufn g n:=by
 unfold ufn;congr 1;exact List.map_congr_left fun i hi=>by rw[h i (List.mem_range.1 hi)]
theorem Zra(f g:Nat->UInt8)(n k:Nat)(x:UInt8)(h:∀i,i<n->g i=if i=k then x else f i):(ufn f n).setIfInBounds k (.int .u8 ((x.toNat:Nat):Int))=ufn g n:=by
 apply Array.ext_getElem?;intro i;rw[Array.getElem?_setIfInBounds];by_cases hi:i<n
 ·rw[Zoh g n i hi,Zoh f n i hi,Zgy,h i hi]
  by_cases hk:k=i
  ·subst hk;simp[hi]
  ·simp[hk,Ne.symm hk]
 ·have h1:(ufn g n)[i]?=none:=by rw[Array.getElem?_eq_none];rw[Zgy];omega
  have h2:(ufn f n)[i]?=none:=by rw[Array.getElem?_eq_none];rw[Zgy];omega
  rw[h1,h2,Zgy];by_cases hk:k=i
  ·subst hk;simp[hi]
  ·simp[hk]
theorem Zsu(a b:UInt8):bits .xor .u8 ((a.toNat:Nat):Int) ((b.toNat:Nat):Int)=(((a^^^b).toNat:Nat):Int):=by
 rw[u8_xor_nat _ _ a.toNat_lt b.toNat_lt,UInt8.toNat_xor]
structure SumAt (W:World) (g gb n:Nat) (f:Nat->UInt8) (many:Int):Prop where
 sum:At W g #[Zt (some ⟨gb,0,none⟩) n n,O Z many] 354
 row:At W gb (ufn f n) 5
theorem SumAt.mod{S:Nat->Prop}{W':World}(h:SumAt W g gb n f many)(hc:Chg S W W')(h1:¬S g)(h2:¬S gb):SumAt W' g gb n f many:=⟨h.sum.mod hc h1,h.row.mod hc h2⟩
theorem SumAt.ne(h:SumAt W g gb n f many):g≠gb:=fun e=>by
 have a:=h.sum;have b:=h.row;subst e;unfold At at a b;rw[a]at b;simp only [Zg,Obj.cells.injEq]at b;exact absurd b.2.1 (by decide)
theorem Zr6(n:Nat)(w:World)(hn:n≤4096):
  Calls Zw 214 #[O Z n] w fun e w'=>∃g gb,e=Zu (.tuple #[Zs (some ⟨g,0,none⟩),.int .u16 0])/\SumAt w' g gb n (fun _=>0) 0/\w.heap.size≤g/\w.heap.size≤gb/\Below w.heap.size w w':=by
 go_enter Tryz.func214,Tryz.ntmps214;go_wp2_with (refine Zaq rfl _ _ 36 5 1 1 rfl Zat (.int .u8 0) (by kernel_rfl) _ _ _ _ n rfl rfl rfl rfl (by omega) (by unfold maxLen;omega) ?_;intro w1 a1 b1);go_ret2;have e:(List.replicate (n*1) (Value.int .u8 0)).toArray=ufn (fun _=>0) n:=by
  apply Array.ext_getElem?;intro i;simp only [ufn,List.getElem?_toArray,Nat.mul_one,List.getElem?_replicate,List.getElem?_map];by_cases hi:i<n<;>simp[hi]
 rw[e]at a1;have hb:=b1.alloc b1.size (.cells #[Zt (some ⟨w.heap.size,0,none⟩) n n,O Z 0] 354);exact⟨_,w.heap.size,rfl,⟨At.new _ _ _,a1.alloc _⟩,b1.size,Za _,hb⟩
theorem Zne(g gb n:Nat)(f:Nat->UInt8)(many:Int)(v:Value)(m:List UInt8)(w:World)(h:SumAt w g gb n f many)(hn:n≤4096)(hv:Seg w v m)(hm:m.length=n)(hvb:∀a q c,v=Zt (some a) q c->a.block≠gb)(h0:0≤many)(h1:many≤1000000000):
  Calls Zw 215 #[Zs (some ⟨g,0,none⟩),v] w fun e w'=>e=Zu (.int .u16 0)/\SumAt w' g gb n (fun i=>f i^^^m.getD i 0) (many+1)/\Chg (fun k=>k=g\/k=gb) w w':=by
 have hne:=h.ne;obtain⟨va,vc,rfl⟩:=hv.shape;have c0:w.cell? ⟨g,0,none⟩=some (Zt (some ⟨gb,0,none⟩) n n):=h.sum.cell 0;have H:=hid h;have HV:=hid hv;clear h hv;go_enter Tryz.func215,Tryz.ntmps215;go_wp2;go_loopw [17] (fun q wr=>∃k:Nat,k≤m.length/\q=O Z k/\SumAt wr g gb n (fun i=>if i<k then f i^^^m.getD i 0 else f i) many/\Chg (fun x=>x=gb) w wr) (fun q _=>m.length-(intOf q).toNat);case atStart=>exact⟨0,by omega,rfl,⟨H.out.sum,by rw[Zva (g:=f)];exact H.out.row;intro i _;simp⟩,Zl _ _⟩
 case round=>
  clear c0;obtain⟨k,hk,rfl,hs,hc⟩:=hrel;by_cases hkn:k<m.length
  ·obtain⟨vb,vo,vc',hve,hvl,hcells⟩:=Seg.full HV.out (by omega)
   simp only [Zn]at hve;obtain⟨rfl,_,rfl⟩:=hve;have hvg:vb≠gb:=hvb _ _ _ rfl;have d0:=(hc.cell (p:=⟨vb,vo+k,none⟩) hvl hvg).trans (hcells k hkn);have d1:wr.cell? ⟨gb,k,none⟩=some (.int .u8 (((f k).toNat:Nat):Int)):=by rw[hs.row.cell,Zoh _ _ _ (by omega)];simp
   have f1:=hs.row.free k;have e0:wr.cell? ⟨g,0,none⟩=some (Zt (some ⟨gb,0,none⟩) n n):=hs.sum.cell 0;have HS:=hid hs;have K1:Hid (k+1≤m.length):=hkn;clear hs hcells;generalize hy:m[k]=y at*;have HY:=hid hy;clear hy;go_wp2;rw[Zsu];have hset:Chg (fun x=>x=gb) wr (wr.setCell ⟨gb,k,none⟩ (.int .u8 (((f k^^^y).toNat:Nat):Int))):=Zk (S:=fun x=>x=gb) (Zl _ _) ⟨gb,k,none⟩ (.inl rfl) _;refine⟨⟨k+1,K1.out,by go_num,⟨HS.out.sum.mod hset hne,?_⟩,hc.trans hset⟩,by simp[intOf];omega⟩;rw[<-Zra (fun i=>if i<k then f i^^^m.getD i 0 else f i) _ n k (f k^^^y) (fun i _=> ?_)]
   ·exact HS.out.row.set k _
   ·show(if i<k+1 then f i^^^m.getD i 0 else f i)=_
    by_cases hik:i=k
    ·subst hik
     rw[Zf (by omega),Zf rfl,Zi,Zh hkn];exact congrArg (fun z=>f i^^^z) HY.out
    ·rw[Ze hik]
     show _=if i<k then f i^^^m.getD i 0 else f i
     by_cases h2:i<k
     ·rw[Zf (by omega),Zf h2]
     ·rw[Ze (by omega),Ze h2]
  ·obtain rfl:k=m.length:=by omega
   have e1:wr.cell? ⟨g,1,none⟩=some (O Z many):=hs.sum.cell 1;have f1:=hs.sum.free 1;have HS:=hid hs;clear hs;go_wp2;go_ret;have hset:Chg (fun x=>x=g) wr (wr.setCell ⟨g,1,none⟩ (O Z (many+1))):=Zk (S:=fun x=>x=g) (Zl _ _) ⟨g,1,none⟩ (.inl rfl) _;refine⟨rfl,⟨HS.out.sum.set 1 _,?_⟩,(hc.mono fun x hx=>.inr hx).trans (hset.mono fun x hx=>.inl hx)⟩;have:=HS.out.row.mod hset (Ne.symm hne);rw[Zva (g:=fun i=>f i^^^m.getD i 0)]at this
   ·exact this
   ·intro i hi
    show(if i<m.length then f i^^^m.getD i 0 else f i)=_
    rw[Zf (by omega)]
open Go.RowKit
def sumL(f:Nat->UInt8)(n:Nat):List UInt8:=(List.range n).map f
theorem Zbq(f:Nat->UInt8)(n:Nat):(sumL f n).length=n:=by simp[sumL]
theorem SumAt.seg(h:SumAt W g gb n f many):Seg W (Zt (some ⟨gb,0,none⟩) n n) (sumL f n):=by
 have hr:=h.row
 have:=Zea (l:=sumL f n) (cap:=n) hr (by rw[Zbq];omega) (fun j hj=>by
  rw[Zbq]at hj
  rw[Zoh f n j hj]
  simp[sumL])
 rw[Zbq]at this;exact this
theorem Zma(g gb n:Nat)(f:Nat->UInt8)(many:Int)(w:World)(h:SumAt w g gb n f many)(hn:n≤4096):
  Calls Zw 216 #[Zs (some ⟨g,0,none⟩)] w fun e w'=>∃v,e=.returned v/\w'.ownsRow w.heap.size 5 1 v n (ucells (sumL f n))/\Below w.heap.size w w':=by
 have hcl:Hid (Calls Zw 98 #[Zt (some ⟨gb,0,none⟩) n n] w fun e w'=>∃v,e=.returned v/\w'.ownsRow w.heap.size 5 1 v n (ucells (sumL f n))/\Below w.heap.size w w'):=by
  have hs:=h.seg;have:=Zcw ⟨gb,0,none⟩ n (sumL f n) w (by rw[Zbq];omega) (by rw[Zbq];exact hs);rw[Zbq]at this;exact this
 have c0:w.cell? ⟨g,0,none⟩=some (Zt (some ⟨gb,0,none⟩) n n):=h.sum.cell 0;clear h;go_enter Tryz.func216,Tryz.ntmps216;go_wp2_with (go_at_call 98;refine hcl.out.mono ?_;rintro e w2 ⟨v,rfl,h1,h2⟩);go_ret;exact⟨v,rfl,h1,h2⟩
end Go.Proofs.YtmemlkmnhcealaaGreat
