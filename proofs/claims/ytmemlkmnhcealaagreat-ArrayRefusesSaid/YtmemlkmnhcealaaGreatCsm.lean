
/- The walks of the checksum's small functions: numbers of 32 bits as bit vectors. -/
import Derived.Test.YtmemlkmnhcealaaGreatMrg6
import Derived.WalkKit
import Derived.WalkSpells
import Derived.WalkLawsBesides
import Derived.Lib.Hide
import Derived.Deep.QuietTactic
import Derived.BigQuiet
import Derived.Deep.RegionHeld3
import Derived.Deep.RegionWith
set_option linter.unusedVariables false
set_option maxRecDepth 100000
set_option maxHeartbeats 2000000
namespace Go.Proofs.YtmemlkmnhcealaaGreat
open Ending renaming returned→Zu
open Go.Proofs.Tryz renaming prog→Zw
open Go.RowKit CrcM
open Lib(hid)
theorem of32(a:BitVec 32):BitVec.ofInt 32 (a.toNat:Int)=a:=by
  rw[BitVec.ofInt_natCast];simp
theorem wrap32u(a:BitVec 32):IntKind.u32.wrap (a.toNat:Int)=(a.toNat:Int):=by
  rw[IntKind.wrap_u32'];have:=a.isLt;omega
theorem Zg2(a b:BitVec 32):bits .xor .u32 (a.toNat:Int) (b.toNat:Int)=((a^^^b).toNat:Int):=by
  have:=of32 a;have h2:=of32 b;simp only [bits,IntKind.bits,this,h2];exact wrap32u _
theorem Zmc(a:BitVec 32)(b:Int)(hb:0≤b)(hb':b<4294967296):bits .xor .u32 (a.toNat:Int) b=((a^^^BitVec.ofNat 32 b.toNat).toNat:Int):=by
  have h:b=((BitVec.ofNat 32 b.toNat).toNat:Int):=by
    rw[BitVec.toNat_ofNat];omega
  conv=>lhs;rw[h]
  exact Zg2 a _
theorem Ztz(a b:BitVec 32):bits .and .u32 (a.toNat:Int) (b.toNat:Int)=((a&&&b).toNat:Int):=by
  have:=of32 a;have h2:=of32 b;simp only [bits,IntKind.bits,this,h2];exact wrap32u _
theorem Zlp(a:BitVec 32)(b:Int)(hb:0≤b)(hb':b<4294967296):bits .and .u32 (a.toNat:Int) b=((a&&&BitVec.ofNat 32 b.toNat).toNat:Int):=by
  have h:b=((BitVec.ofNat 32 b.toNat).toNat:Int):=by
    rw[BitVec.toNat_ofNat];omega
  conv=>lhs;rw[h]
  exact Ztz a _
theorem half2(a:BitVec 32):(a.toNat:Int)/(2:Int)=((a>>>1).toNat:Int):=by
  rw[BitVec.toNat_ushiftRight,Nat.shiftRight_eq_div_pow];rfl
theorem half16(a:BitVec 32):(a.toNat:Int)/(16:Int)=((a>>>4).toNat:Int):=by
  rw[BitVec.toNat_ushiftRight,Nat.shiftRight_eq_div_pow];rfl
def tabTo(f:Nat->BitVec 32)(n k:Nat):Array Value:=((List.range n).map fun i=>Value.int .u32 (if i<k then ((f i).toNat:Int)else 0)).toArray
theorem Zb8(f:Nat->BitVec 32)(n k:Nat):(tabTo f n k).size=n:=by simp[tabTo]
theorem Zg3(f:Nat->BitVec 32)(n k i:Nat)(h:i<n):(tabTo f n k)[i]?=some (.int .u32 (if i<k then ((f i).toNat:Int)else 0)):=by
  simp[tabTo,h]
theorem Zr3(f:Nat->BitVec 32)(n k:Nat):(tabTo f n k).setIfInBounds k (.int .u32 ((f k).toNat:Int))=tabTo f n (k+1):=by
  apply Array.ext_getElem?;intro i;rw[Array.getElem?_setIfInBounds];by_cases h:i<n
  · rw[Zg3 f n (k+1) i h,Zg3 f n k i h,Zb8]
    by_cases hk:k=i
    · subst hk;simp[h]
    · simp only [hk,if_false]
      by_cases h':i<k
      · simp[h',show i<k+1 by omega]
      · simp[h',show ¬i<k+1 by omega]
  · have h1:(tabTo f n (k+1))[i]?=none:=by rw[Array.getElem?_eq_none];rw[Zb8];omega
    have h2:(tabTo f n k)[i]?=none:=by rw[Array.getElem?_eq_none];rw[Zb8];omega
    rw[h1,h2,Zb8];by_cases hk:k=i
    · subst hk;simp[h]
    · simp[hk]
theorem Zib(f:Nat->BitVec 32)(n k:Nat):(tabTo f n k).all (·.oneCell')=true:=by
  rw[Array.all_eq_true_iff_forall_mem];intro v hv;simp only [tabTo,List.mem_toArray,List.mem_map]at hv;obtain⟨i,_,rfl⟩:=hv;rfl
theorem Zxf(x:BitVec 32)(a:Int)(h:a=(bits BinOp.xor IntKind.u32 ((x.toNat:Int)/2) (IntKind.u32.wrap (2197175160*bits BinOp.and IntKind.u32 (x.toNat:Int) 1)))):a=((L x).toNat:Int):=by
  subst h;rw[L_bit,Zlp x 1 (by decide) (by decide)];have e:=and1 x;rw[show BitVec.ofNat 32 (1:Int).toNat=1#32 from rfl,e];cases x.getLsbD 0
  · have:IntKind.u32.wrap (2197175160*(((if false=true then 1#32 else 0#32):BitVec 32).toNat:Int))=0:=by decide
    rw[this,half2,Zmc _ _ (by decide) (by decide)];rfl
  · have:IntKind.u32.wrap (2197175160*(((if true=true then 1#32 else 0#32):BitVec 32).toNat:Int))=2197175160:=by decide
    rw[this,half2,Zmc _ _ (by decide) (by decide)];rfl
theorem Zoy(w:World)
   :Calls Zw 245 #[] w fun e w'=>e=Zu (.agg (tabTo (fun i=>it L 4 (BitVec.ofNat 32 i)) 16 16))/\w'=w.alloc (.cells (tabTo (fun i=>it L 4 (BitVec.ofNat 32 i)) 16 16) 335):=by
  go_enter Tryz.func245,Tryz.ntmps245;go_wp2_with fail;go_loopw [3] (fun i wr=>∃(k:Nat),k≤16/\i=.int .i64 k/\wr=w.alloc (.cells (tabTo (fun i=>it L 4 (BitVec.ofNat 32 i)) 16 k) 335)) (fun i _=>16-(intOf i).toNat);case atStart=>exact⟨0,Nat.zero_le _,rfl,rfl⟩
  case round=>
    obtain⟨k,hk,rfl,rfl⟩:=hrel;by_cases hlt:k<16
    · have htab:=Zg3 (fun i=>it L 4 (BitVec.ofNat 32 i)) 16 k k hlt
      rw[Ze (by omega)]at htab;have hkk:(k:Int)=((BitVec.ofNat 32 k).toNat:Int):=by rw[BitVec.toNat_ofNat];omega
      have Hkk:=hid hkk;clear hkk;go_wp2;go_loop [2,8] (fun t i=>∃(j:Nat),j≤4/\i=.int .i64 j/\t=.int .u32 (it L j (BitVec.ofNat 32 k)).toNat) (fun _ i=>4-(intOf i).toNat);case atStart=>exact⟨0,by omega,rfl,Zls Hkk.out⟩
      case round=>
        obtain⟨j,hj,rfl,rfl⟩:=hrel;by_cases hjl:j<4
        · go_wp2
          go_round;case rel=>exact⟨j+1,by omega,by go_num,Zls (by rw[it_succ'];exact Zxf _ _ rfl)⟩
          case measure=>simp[intOf];omega
        · obtain rfl:j=4:=by omega
          go_wp2;go_roundw;case rel=>exact⟨k+1,by omega,by go_num,by rw[<-Zr3]⟩
          case measure=>simp[intOf];omega
    · obtain rfl:k=16:=by omega
      have h96:(Tryz.prog.info? 335).map (·.size)=some 16:=by kernel_rfl
      go_wp2_with (first|(refine wpList_load_row rfl 335 _ rfl w.heap.size rfl 335 _ (0,0) _ (heap_alloc_new _ _) Tryz.underlying335 rfl h96 ?_)|(refine Zbv rfl 335 _ _ rfl w.heap.size rfl _ rfl 335 _ (heap_alloc_new _ _) h96 (by rw[Zb8]) (Zib _ _ _) ?_));rw[World.setRow_alloc_new];exact bodyPost_ret (results_cell_row (p:=0) (ty:=335) rfl _ _ w.heap.size 335 _ (0,0) _ rfl (heap_alloc_new _ _) Tryz.underlying335 rfl h96) rfl ⟨rfl,rfl⟩
abbrev tabH:Array Value:=tabTo (fun i=>it L 4 (BitVec.ofNat 32 i)) 16 16
theorem idx15(y:BitVec 32):bits .and .u32 (y.toNat:Int) 15=((y.toNat%16:Nat):Int):=by
  rw[Zlp y 15 (by decide) (by decide),BitVec.toNat_and];show((y.toNat&&&15:Nat):Int)=_
  rw[nat_mask4]
theorem Zwt(y:BitVec 32):tabH[y.toNat%16]?=some (.int .u32 ((it L 4 (y&&&15#32)).toNat:Int)):=by
  rw[Zg3 _ 16 16 _ (Nat.mod_lt _ (by decide)),Zf (Nat.mod_lt _ (by decide))];have:BitVec.ofNat 32 (y.toNat%16)=y&&&15#32:=by
    apply BitVec.eq_of_toNat_eq;rw[BitVec.toNat_and,BitVec.toNat_ofNat];show y.toNat%16%4294967296=y.toNat&&&15
    rw[nat_mask4];omega
  rw[this]
theorem Zkn(s:BitVec 32):bits .xor .u32 IntKind.u32.max (s.toNat:Int)=((~~~s).toNat:Int):=by
  have h:IntKind.u32.max=((BitVec.allOnes 32).toNat:Int):=by decide
  rw[h,Zg2,BitVec.allOnes_xor]
theorem Ztm(n:BitVec 32)(u:UInt8):bits .xor .u32 (n.toNat:Int) (u.toNat:Int)=((n^^^BitVec.ofNat 32 u.toNat).toNat:Int):=by
  have h:((u.toNat:Nat):Int)=((BitVec.ofNat 32 u.toNat).toNat:Int):=by
    rw[BitVec.toNat_ofNat];have:=u.toNat_lt;omega
  conv=>lhs;rw[h]
  exact Zg2 _ _
theorem Zta(y:BitVec 32):bits .xor .u32 ((y.toNat:Int)/16) ((it L 4 (y&&&15#32)).toNat:Int)=((it L 4 y).toNat:Int):=by
  rw[half16,Zg2,<-four]
theorem Zse(b off cap:Nat)(l:List UInt8)(sum:BitVec 32)(w:World)(hl:l.length≤9223372036854775807)
   (hc:∀j (h:j<l.length),w.cell? ⟨b,off+j,none⟩=some (.int .u8 ((l[j].toNat:Nat):Int))) (hb:b<w.heap.size):
   Calls Zw 202 #[.int .u32 sum.toNat,.slice (some ⟨b,off,none⟩) l.length cap] w fun e w'=>e=Zu (.int .u32 ((more sum (nats l)).toNat:Int))/\w'=(w.alloc (.cells tabH 335)).alloc (.cells tabH 335):=by
  have h96:(Tryz.prog.info? 335).map (·.size)=some 16:=by kernel_rfl
  go_enter Tryz.func202,Tryz.ntmps202;go_wp2_with (first|(go_at_call 245;refine(Zoy _).mono ?_;rintro e w' ⟨rfl,rfl⟩)|(refine Zbv rfl 335 _ _ rfl (w.heap.size+1) rfl _ rfl 335 _ (heap_alloc2_new _ _ _) h96 (by rw[Zb8];rfl) (Zib _ _ _) ?_;rw[Zfi]));obtain⟨W,hW⟩:∃W,W=(w.alloc (.cells tabH 335)).alloc (.cells tabH 335):=⟨_,rfl⟩;rw[<-hW];have hcW:∀j (h:j<l.length),W.cell? ⟨b,off+j,none⟩=some (.int .u8 ((l[j].toNat:Nat):Int)):=by
    intro j h;rw[hW,Zlu w _ _ b _ hb];exact hc j h
  have htW:∀y:BitVec 32,W.cell? ⟨w.heap.size+1,y.toNat%16,none⟩=some (.int .u32 ((it L 4 (y&&&15#32)).toNat:Int)):=by
    intro y;rw[hW,cell_of_row _ _ _ _ _ _ (heap_alloc2_new _ _ _)];exact Zwt y
  have HW:=hid hW;clear hW hc;go_loop [6,14] (fun n i=>∃k:Nat,k≤l.length/\i=.int .i64 k/\n=.int .u32 ((reg (~~~sum) (nats (l.take k))).toNat:Int)) (fun _ i=>l.length-(intOf i).toNat);case atStart=>exact⟨0,Nat.zero_le _,rfl,Zls (Zkn sum)⟩
  case round=>
    obtain⟨k,hk,rfl,rfl⟩:=hrel;by_cases hlt:k<l.length
    · have hck:=hcW k hlt
      have hsn:reg (~~~sum) (nats (l.take (k+1)))=byte (reg (~~~sum) (nats (l.take k))) l[k].toNat:=by rw[Zs7 l k hlt,reg_snoc]
      have Hsn:=hid hsn;clear hsn hcW;generalize reg (~~~sum) (nats (l.take k))=n at Hsn ⊢;have hx:=Ztm n l[k];obtain⟨y,hy⟩:∃y,y=n^^^BitVec.ofNat 32 l[k].toNat:=⟨_,rfl⟩;rw[<-hy]at hx;have Hy:=hid hy;clear hy;obtain⟨z,hz⟩:∃z,z=it L 4 y:=⟨_,rfl⟩;have hi1:=idx15 y;have ht1:=htW y;have hf1:=Zta y;have hi2:=idx15 z;have ht2:=htW z;have hf2:=Zta z;rw[<-hz]at hf1;have Hz:=hid hz;clear hz htW;have hmod:((l[k].toNat:Nat):Int)%4294967296=((l[k].toNat:Nat):Int):=by
        have:=l[k].toNat_lt;omega
      have hm1:y.toNat%16<16:=Nat.mod_lt _ (by decide);have hm2:z.toNat%16<16:=Nat.mod_lt _ (by decide);generalize y.toNat%16=iy at hi1 ht1 hm1;generalize z.toNat%16=iz at hi2 ht2 hm2;generalize it L 4 (y&&&15#32)=ty at ht1 hf1;generalize it L 4 (z&&&15#32)=tz at ht2 hf2;go_wp2;go_round;case rel=>exact⟨k+1,by omega,by go_num,Zls (by rw[Hsn.out,byte,eight,<-Hy.out,<-Hz.out])⟩
      case measure=>simp[intOf];omega
    · go_wp2
      go_ret;refine⟨Zn6 ?_,HW.out⟩;rw[show k=l.length from by omega,List.take_length];exact Zkn _
theorem tabHbelow(w:World):Below w.heap.size w ((w.alloc (.cells tabH 335)).alloc (.cells tabH 335)):=
  ((Zb _ _).alloc (Za _) _).alloc (by rw[Zaa];omega) _
theorem Zq2(a:Option Addr)(cap:Nat)(sum:BitVec 32)(w:World):
   Calls Zw 202 #[.int .u32 sum.toNat,.slice a 0 cap] w fun e w'=>e=Zu (.int .u32 ((more sum []).toNat:Int))/\Below w.heap.size w w':=by
  have h96:(Tryz.prog.info? 335).map (·.size)=some 16:=by kernel_rfl
  go_enter Tryz.func202,Tryz.ntmps202;go_wp2_with (first|(go_at_call 245;refine(Zoy _).mono ?_;rintro e w' ⟨rfl,rfl⟩)|(refine Zbv rfl 335 _ _ rfl (w.heap.size+1) rfl _ rfl 335 _ (heap_alloc2_new _ _ _) h96 (by rw[Zb8];rfl) (Zib _ _ _) ?_;rw[Zfi]));have hW:=tabHbelow w;generalize (w.alloc (.cells tabH 335)).alloc (.cells tabH 335)=W at hW ⊢;obtain⟨s,hs⟩:∃s,s= ~~~sum:=⟨_,rfl⟩;have Hs:=hid hs;clear hs;go_loop [6,14] (fun n i=>i=.int .i64 0/\n=.int .u32 (s.toNat:Int)) (fun _ _=>0);case atStart=>exact⟨rfl,Zls (by rw[Hs.out];exact Zkn sum)⟩
  case round=>
    obtain⟨rfl,rfl⟩:=hrel;go_wp2;go_ret;refine⟨Zn6 ?_,hW⟩;rw[show more sum []= ~~~s from by rw[Hs.out];rfl];exact Zkn s
theorem Zo1(v:Value)(l:List UInt8)(sum:BitVec 32)(w:World)(hl:l.length≤9223372036854775807)(hv:Seg w v l):
   Calls Zw 202 #[.int .u32 sum.toNat,v] w fun e w'=>e=Zu (.int .u32 ((more sum (nats l)).toNat:Int))/\Below w.heap.size w w':=by
  obtain⟨a,cap,rfl,_,h⟩:=hv;rcases h with rfl|⟨b,off,rfl,hb,hc⟩
  · exact Zq2 a cap sum w
  · exact(Zse b off cap l sum w hl hc hb).mono fun e w' ⟨he,hw⟩=>⟨he,by rw[hw];exact tabHbelow w⟩
theorem Zj7(v:Value)(l:List UInt8)(w:World)(hl:l.length≤9223372036854775807)(hv:Seg w v l):
   Calls Zw 133 #[v] w fun e w'=>e=Zu (.int .u32 ((more 0#32 (nats l)).toNat:Int))/\Below w.heap.size w w':=by
  have h:=Zo1 v l 0#32 w hl hv;go_enter Tryz.func133,Tryz.ntmps133;go_wp2_with fail;refine Calls.mono (R:=fun e w'=>e=Zu (.int .u32 ((more 0#32 (nats l)).toNat:Int))/\Below w.heap.size w w') h ?_;rintro e w' ⟨rfl,hb⟩;clear h;go_wp2;go_ret;exact⟨rfl,hb⟩
abbrev digest(s:BitVec 32)(n:Int):Array Value:= #[.int .u32 (s.toNat:Int),.int .i64 n]
theorem Zwm(w:World):Calls Zw 219 #[] w fun e w'=>e=Zu (.pointer (some ⟨w.heap.size,0,none⟩))/\w'=w.alloc (.cells (digest 0#32 0) 357):=by
  go_enter Tryz.func219,Tryz.ntmps219;go_wp2;go_ret;exact⟨rfl,rfl⟩
theorem Zkk(g:Nat)(s:BitVec 32)(n:Int)(w:World)(h:At w g (digest s n) 357):
    Calls Zw 224 #[.pointer (some ⟨g,0,none⟩)] w fun e w'=>e=Zu (.int .u32 (s.toNat:Int))/\w=w':=by
  have h0:w.cell? ⟨g,0,none⟩=some (.int .u32 (s.toNat:Int)):=h.cell 0;clear h;go_enter Tryz.func224,Tryz.ntmps224;go_wp2;go_ret;exact⟨rfl,rfl⟩
theorem Zwg(g:Nat)(s:BitVec 32)(n:Nat)(v:Value)(l:List UInt8)(w:World)(h:At w g (digest s n) 357)(hv:Seg w v l)
    (hn:n≤4611686018427387903) (hl:l.length≤4611686018427387903):
    Calls Zw 222 #[.pointer (some ⟨g,0,none⟩),v] w fun e w'=>e=Zu (.int .i64 (n+l.length))/\At w' g (digest (more s (nats l)) (n+l.length:Nat)) 357/\Chg (· =g) w w':=by
  have h0:w.cell? ⟨g,0,none⟩=some (.int .u32 (s.toNat:Int)):=h.cell 0;have h1:w.cell? ⟨g,1,none⟩=some (.int .i64 n):=h.cell 1;have f0:=h.free 0;have f1:=h.free 1;have hcall:=hid (fun (w':World) (hb:Below w.heap.size w w')=>Zo1 v l s w' (by omega) (hv.below hb));obtain⟨a,cap,rfl⟩:=hv.shape;clear hv;generalize more s (nats l)=s' at*;go_enter Tryz.func222,Tryz.ntmps222;go_wp2_with fail;go_region_with (go_at_call 202;refine(hcall.out _ (Zb _ _).drew).mono ?_;rintro e w1 ⟨rfl,hb1⟩;have h0':=(hb1.cell (p:=⟨g,0,none⟩) h.lt).trans h0;have h1':=(hb1.cell (p:=⟨g,1,none⟩) h.lt).trans h1;have f0':=(hb1.frozen (p:=⟨g,0,none⟩) h.lt).trans f0;have f1':=(hb1.frozen (p:=⟨g,1,none⟩) h.lt).trans f1);all_goals
    go_wp2
    go_ret
    have hb:Below w.heap.size w w1:=(Zb w.heap.size w).drew.trans hb1
    refine⟨rfl,?_,?_⟩
    · have hA:At w1 g (digest s n) 357:=h.below hb h.lt
      exact((hA.set 0 _).set 1 _)
    · exact Zk (S:=fun k=>k=g) (Zk (S:=fun k=>k=g) (Zm hb _) ⟨g,0,none⟩ (.inl rfl) _) ⟨g,1,none⟩ (.inl rfl) _
end Go.Proofs.YtmemlkmnhcealaaGreat
