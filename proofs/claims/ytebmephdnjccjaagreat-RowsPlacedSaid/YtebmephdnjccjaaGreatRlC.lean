/- The rows laws' own helpers: a sector, sizes, a geometry, which member is gone, whether there may be such rows. -/
import Derived.Test.YtebmephdnjccjaaGreatMrg8
import Derived.Test.YtebmephdnjccjaaGreatMrg12
import Derived.Test.YtebmephdnjccjaaGreatMrg28
import Derived.Test.YtebmephdnjccjaaGreatMrg26
import Derived.Test.YtebmephdnjccjaaGreatMrg19
import Derived.Test.YtebmephdnjccjaaGreatRlA
set_option linter.unusedVariables false
set_option maxRecDepth 100000
set_option maxHeartbeats 4000000
namespace Go.Proofs.YtebmephdnjccjaaGreat
open Go.RowKit
theorem ucells_turn (l:List UInt8) (i:Nat) (x:UInt8):(ucells l).toArray.setIfInBounds i (.int .u8 ((x.toNat:Nat):Int))=(ucells (l.set i x)).toArray:=by
 apply Array.ext_getElem?;intro j;rw[Array.getElem?_setIfInBounds];simp only [List.getElem?_toArray,List.size_toArray,ucells_length];unfold ucells;rw[List.getElem?_map,List.getElem?_map,List.getElem?_set];by_cases h:i=j
 ·subst h
  by_cases hi:i<l.length
  ·simp[hi]
  ·simp[hi]
 ·simp[h]
theorem r14_sector (x:UInt8) (w:World):
  Calls Tryz.prog 36 #[.int .u8 ((x.toNat:Nat):Int)] w fun e w'=>e=.returned (.slice (some ⟨w.heap.size,0,none⟩) 128 128)/\At w' w.heap.size (ucells (zsec.set 7 x)).toArray 5/\Below w.heap.size w w':=by
 have hset:=Lib.hid (ucells_turn zsec 7 x);generalize hy:((x.toNat:Nat):Int)=y at*;clear hy;go_enter Tryz.func36,Tryz.ntmps36;go_wp2_with (refine wpList_make_same rfl _ _ 35 5 1 1 rfl slice_bytes (.int .u8 0) (by kernel_rfl) _ _ _ _ 128 rfl rfl rfl rfl (by omega) (by unfold maxLen;omega) ?_;intro w1 a1 b1;rw[zsec_u]at a1;have f0:=a1.free 7;have d0:w1.cell? ⟨w.heap.size,7,none⟩=some (.int .u8 0):=(a1.cell 7).trans (by simp[ucells,zsec]);have A1:=Lib.hid a1;clear a1);go_ret;refine⟨rfl,?_,b1.setCell (p:=⟨w.heap.size,7,none⟩) (Nat.le_refl _) _⟩;rw[<-hset.out];exact A1.out.set 7 _
theorem kcells_more (l:List Nat) (k:Nat):kcells (l++ [k])=kcells l++ [.int .i64 (k:Int)]:=by simp[kcells]
def rszL (M R ring:Nat):List Nat:=List.replicate M (1+R)++ [2+ring]
theorem rszL_length (M R ring:Nat):(rszL M R ring).length=M+1:=by simp[rszL]
theorem rszL_at (M R ring m:Nat) (h:m<M):(rszL M R ring).getD m 0=1+R:=by
 unfold rszL;rw[List.getD_eq_getElem?_getD,List.getElem?_append_left (by simpa using h),List.getElem?_replicate,if_pos h];rfl
theorem rszL_last (M R ring:Nat):(rszL M R ring).getD M 0=2+ring:=by
 unfold rszL;rw[List.getD_eq_getElem?_getD,List.getElem?_append_right (by simp)];simp
theorem r14_sizes (M C S ring:Nat) (w:World) (hg:geoIs M C S=true) (hr:ring≤2048):
  Calls Tryz.prog 44 #[geo M C S,.int .i64 ring] w fun e w'=>∃v,e=.returned v/\w'.ownsRow (w.heap.size+1) 3 1 v (rszL M (S*C) ring).length (kcells (rszL M (S*C) ring))/\Below w.heap.size w w':=by
 obtain⟨g1,g2,g3,g4,g5,g6⟩:=(geoIs_iff M C S).1 hg;have hbd:=geo_bounds hg;have hR1:S*C≤4096:=by have:=hbd.2;exact_mod_cast this
 have hrows:Hid (∀W,Calls Tryz.prog 30 #[geo M C S] W fun e w'=>e=.returned (.int .i64 ((S*C:Nat):Int))/\Below W.heap.size W w'):=fun W=>(ref_rows M C S W).mono fun e w' ⟨x1,x2⟩=>⟨by rw[x1];unfold geoRows;rw[if_pos hg,Int.natCast_mul],x2⟩
 have e1:(w.alloc (.cells #[.int .i64 M,.int .i64 C,.int .i64 S] 23)).heap.size=w.heap.size+1:=size_alloc _ _;clear hbd;generalize S*C=R at*;unfold geo at*;go_enter Tryz.func44,Tryz.ntmps44;go_wp2;go_loopw [5,6] (fun v q wr=>∃k:Nat,k≤M/\q=.int .i64 k/\wr.ownsRow (w.heap.size+1) 3 1 v k (kcells (List.replicate k (1+R)))/\Below w.heap.size w wr/\At wr w.heap.size #[.int .i64 M,.int .i64 C,.int .i64 S] 23) (fun _ q _=>M-(intOf q).toNat);case atStart=>exact⟨0,by omega,rfl,World.ownsRow_nil _ _ _ _,(Below.refl _ _).alloc (Nat.le_refl _) _,At.new _ _ _⟩
 case round=>
  obtain⟨k,hk,rfl,hown,hbel,hA⟩:=hrel;have c0:=hA.cell 0;have c1:=hA.cell 1;have c2:=hA.cell 2;have HA:=Lib.hid hA;have HO:=Lib.hid hown;have hzl:=hA.lt;clear hA hown;by_cases hkM:k<M
  ·have K1:Hid (k+1≤M):=hkM
   go_wp2_with (first
    |(go_at_call 30;refine(hrows.out _).mono ?_;rintro e w2 ⟨rfl,hb2⟩;have hown2:=ownsRow_below HO.out hb2 (Nat.le_refl _))
    |(refine wpList_append_one rfl _ _ 71 3 8 rfl slice_intsR (w.heap.size+1) u5 k _ rfl hown2 _ rfl rfl (by unfold maxLen;omega) (by omega) (by have:=hb2.size;omega) ?_;intro v' w5 hown5 hb5 hgr5))
   refine⟨⟨k+1,K1.out,by go_num,?_,(below_then hbel hb2).trans (hb5.mono (Nat.le_succ _)),(HA.out.below hb2 hzl).below hb5 (Nat.lt_succ_self _)⟩,by simp[intOf];omega⟩;rw[List.replicate_succ',kcells_more,show(((1+R:Nat)):Int)=1+(R:Int) by omega];exact hown5
  ·obtain rfl:k=M:=by omega
   go_wp2_with (first
    |(refine wpList_append_one rfl _ _ 71 3 8 rfl slice_intsR (w.heap.size+1) u5 k _ rfl HO.out _ rfl rfl (by unfold maxLen;omega) (by omega) (by omega) ?_;intro v' w5 hown5 hb5 hgr5))
   go_ret;refine⟨v',rfl,?_,hbel.trans (hb5.mono (Nat.le_succ _))⟩;rw[rszL_length];unfold rszL;rw[kcells_more,show(((2+ring:Nat)):Int)=2+(ring:Int) by omega];exact hown5
theorem r14_small (w:World):Calls Tryz.prog 42 #[] w fun e w'=>e=.returned (.agg #[.int .i64 3,.int .i64 1,.int .i64 2])/\Below w.heap.size w w':=by
 have hb0:Below w.heap.size w (w.alloc (.cells #[.int .i64 3,.int .i64 1,.int .i64 2] 23)):=(Below.refl _ _).alloc (Nat.le_refl _) _;have HB0:=Lib.hid hb0;clear hb0;go_enter Tryz.func42,Tryz.ntmps42;go_wp2;(try simp only [Exit.inBlock,Exit.then]);refine bodyPost_ret (v:=.agg #[.int .i64 3,.int .i64 1,.int .i64 2]) ?_ rfl ⟨rfl,?_⟩
 ·rw[results_cell rfl]
  go_simp;try rfl
 ·exact HB0.out
def goneOf (M:Nat) (d:Int):Int:=if d<0\/(M:Int)≤d then -1 else d
theorem r14_gone (M C S:Nat) (d:Int) (w:World):
  Calls Tryz.prog 29 #[geo M C S,.int .i64 d] w fun e w'=>e=.returned (.int .i64 (goneOf M d))/\Below w.heap.size w w':=by
 have hb0:Below w.heap.size w (w.alloc (.cells #[.int .i64 M,.int .i64 C,.int .i64 S] 23)):=(Below.refl _ _).alloc (Nat.le_refl _) _;have ha0:At (w.alloc (.cells #[.int .i64 M,.int .i64 C,.int .i64 S] 23)) w.heap.size #[.int .i64 M,.int .i64 C,.int .i64 S] 23:=At.new _ _ _;unfold goneOf geo;by_cases h1:d<0
 ·rw[if_pos (.inl h1)]
  go_enter Tryz.func29,Tryz.ntmps29;go_wp2;go_ret;exact⟨rfl,hb0⟩
 ·by_cases h2:(M:Int)≤d
  ·rw[if_pos (.inr h2)]
   go_enter Tryz.func29,Tryz.ntmps29;go_wp2;go_ret;exact⟨rfl,hb0⟩
  ·rw[if_neg (by omega)]
   go_enter Tryz.func29,Tryz.ntmps29;go_wp2;go_ret;exact⟨rfl,hb0⟩
def madeVal (m c s ring:Int) (lazy:Bool) (more:Int):Value:=.agg #[.int .i64 m,.int .i64 c,.int .i64 s,.int .i64 ring,.bool lazy,.int .i64 more]
def mayIs (m c s ring:Int):Bool:=geoIs m c s&&(decide (5≤ring)&&decide (ring≤2048))
theorem r14_may (m c s ring:Int) (lazy:Bool) (more:Int) (w:World) (h:mayIs m c s ring=false):
  Calls Tryz.prog 12 #[madeVal m c s ring lazy more] w fun e w'=>e=.returned (.bool false)/\Below w.heap.size w w':=by
 unfold madeVal;unfold mayIs at h;have hb0:Below w.heap.size w (w.alloc (.cells #[.int .i64 m,.int .i64 c,.int .i64 s,.int .i64 ring,.bool lazy,.int .i64 more] 25)):=(Below.refl _ _).alloc (Nat.le_refl _) _;have e0:(w.alloc (.cells #[.int .i64 m,.int .i64 c,.int .i64 s,.int .i64 ring,.bool lazy,.int .i64 more] 25)).heap.size=w.heap.size+1:=size_alloc _ _;have hb1:Below w.heap.size w ((w.alloc (.cells #[.int .i64 m,.int .i64 c,.int .i64 s,.int .i64 ring,.bool lazy,.int .i64 more] 25)).alloc (.cells #[.int .i64 m,.int .i64 c,.int .i64 s] 23)):=hb0.alloc (by rw[e0];omega) _;have hout:m<3\/16<m\/c<1\/16<c\/s<1\/256<s\/ring<5\/2048<ring:=by
  by_cases hg:geoIs m c s=true
  ·by_cases h7:5≤ring/\ring≤2048
   ·rw[hg,decide_eq_true h7.1,decide_eq_true h7.2]at h
    cases h
   ·omega
  ·exact Classical.byContradiction fun hn=>hg ((geoIs_iff m c s).2 ⟨by omega,by omega,by omega,by omega,by omega,by omega⟩)
 have HB1:=Lib.hid hb1;clear h hb0 hb1;go_enter Tryz.func12,Tryz.ntmps12;by_cases a1:m<3
 ·go_wp2;go_ret;exact⟨rfl,HB1.out⟩
 by_cases a2:16<m
 ·go_wp2;go_ret;exact⟨rfl,HB1.out⟩
 by_cases a3:c<1
 ·go_wp2;go_ret;exact⟨rfl,HB1.out⟩
 by_cases a4:16<c
 ·go_wp2;go_ret;exact⟨rfl,HB1.out⟩
 by_cases a5:s<1
 ·go_wp2;go_ret;exact⟨rfl,HB1.out⟩
 by_cases a6:256<s
 ·go_wp2;go_ret;exact⟨rfl,HB1.out⟩
 by_cases a7:ring<5
 ·go_wp2;go_ret;exact⟨rfl,HB1.out⟩
 have a8:decide (ring≤2048)=false:=decide_eq_false (by omega);go_wp2;go_ret;exact⟨rfl,HB1.out⟩
end Go.Proofs.YtebmephdnjccjaaGreat
