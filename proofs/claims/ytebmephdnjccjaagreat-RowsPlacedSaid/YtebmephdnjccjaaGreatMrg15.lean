/- Several texts in one: PlnI, Lay. -/
import Derived.Test.YtebmephdnjccjaaGreatPlnF
import Derived.Shelf.SlIterI.Nil
import Derived.Shelf.SortM.Plain
import Derived.Shelf.SortM.SortNone
import Derived.Shelf.SlSortCmp.WholeK
import Derived.Ground.GgzProg
import Derived.Ground.SlgmProg
import Derived.Ground.SlsfProg
import Derived.Test.YtebmephdnjccjaaGreatProg
set_option linter.unusedVariables false
set_option maxRecDepth 100000
set_option maxHeartbeats 2000000
/- The library's comparisons of what is alike;plan.like. -/
namespace Go.Proofs.YtebmephdnjccjaaGreat
open Go.RowKit
theorem iseg_of_members {w:World} {B:Nat} {v:Value} {l:List Nat} (h:w.ownsRow B 3 1 v l.length (mcells l)):ISeg w v l:=by
 obtain⟨a,c,rfl⟩:=ownsRow_shape h;refine⟨a,c,rfl,?_⟩;by_cases hl:l.length=0
 ·exact .inl (List.eq_nil_of_length_eq_zero hl)
 ·obtain⟨g,cap,hv,hB,hg,hc,-⟩:=ownsRow_cell h (by omega)
  simp only [Value.slice.injEq]at hv;obtain⟨rfl,-,rfl⟩:=hv;exact .inr ⟨g,0,rfl,hg,fun j hj=>by rw[Nat.zero_add,hc j hj,mcells_at l j hj]⟩
theorem Seg.full' {w:World} {a:Option Addr} {n c:Nat} {l:List UInt8} (h:Seg w (.slice a n c) l) (hl:0<l.length):∃b o,a=some ⟨b,o,none⟩/\b<w.heap.size/\∀j (h:j<l.length),w.cell? ⟨b,o+j,none⟩=some (.int .u8 ((l[j].toNat:Nat):Int)):=by
 obtain⟨b,o,c',hv,hb,hx⟩:=Seg.full h hl;simp only [Value.slice.injEq]at hv;obtain⟨rfl,-,rfl⟩:=hv;exact⟨b,o,rfl,hb,hx⟩
theorem equal_bytes (u v:Value) (l:List UInt8) (w:World) (hl:l.length≤140737488355328) (hu:Seg w u l) (hv:Seg w v l):
  Calls Tryz.prog 204 #[u,v] w fun e w'=>e=.returned (.bool true)/\Below w.heap.size w w':=by
 obtain⟨a,c,rfl⟩:=hu.shape;obtain⟨b,d,rfl⟩:=hv.shape;have hne:((l.length:Int) !=(l.length:Int))=false:=by simp
 go_enter Tryz.func204,Tryz.ntmps204;go_wp2_with fail;go_loopw [13] (fun i wr=>∃k:Nat,k≤l.length/\i=.int .i64 k/\Below w.heap.size w wr) (fun i _=>l.length-(intOf i).toNat);case atStart=>exact⟨0,Nat.zero_le _,rfl,Below.refl _ _⟩
 case round=>
  obtain⟨k,hk,rfl,hbw⟩:=hrel;by_cases hlt:k<l.length
  ·obtain⟨b1,o1,rfl,hb1,h1⟩:=Seg.full' (hu.below hbw) (by omega)
   obtain⟨b2,o2,rfl,hb2,h2⟩:=Seg.full' (hv.below hbw) (by omega);have c1:=h1 k hlt;have c2:=h2 k hlt;have K1:Hid (k+1≤l.length):=hlt;clear h1 h2 hu hv;have hx:(((l[k].toNat:Nat):Int) !=((l[k].toNat:Nat):Int))=false:=by simp
   generalize ((l[k].toNat:Nat):Int)=x at*;go_wp2;go_quiet (fail);go_wp2;exact⟨⟨k+1,K1.out,by go_num,below_drewN hbw _⟩,by simp[intOf];omega⟩
  ·clear hu hv
   obtain rfl:k=l.length:=by omega
   go_wp2;go_ret;exact⟨rfl,hbw⟩
theorem equal_ints (u v:Value) (l:List Nat) (w:World) (hl:l.length≤140737488355328) (hu:ISeg w u l) (hv:ISeg w v l):
  Calls Tryz.prog 206 #[u,v] w fun e w'=>e=.returned (.bool true)/\Below w.heap.size w w':=by
 obtain⟨a,c,rfl⟩:=hu.shape;obtain⟨b,d,rfl⟩:=hv.shape;have hne:((l.length:Int) !=(l.length:Int))=false:=by simp
 go_enter Tryz.func206,Tryz.ntmps206;go_wp2_with fail;go_loopw [13] (fun i wr=>∃k:Nat,k≤l.length/\i=.int .i64 k/\Below w.heap.size w wr) (fun i _=>l.length-(intOf i).toNat);case atStart=>exact⟨0,Nat.zero_le _,rfl,Below.refl _ _⟩
 case round=>
  obtain⟨k,hk,rfl,hbw⟩:=hrel;by_cases hlt:k<l.length
  ·obtain⟨b1,o1,rfl,hb1,h1⟩:=ISeg.full (hu.below hbw) (by omega)
   obtain⟨b2,o2,rfl,hb2,h2⟩:=ISeg.full (hv.below hbw) (by omega);have c1:=h1 k hlt;have c2:=h2 k hlt;have K1:Hid (k+1≤l.length):=hlt;clear h1 h2 hu hv;have hx:(((l[k]:Nat):Int) !=((l[k]:Nat):Int))=false:=by simp
   generalize ((l[k]:Nat):Int)=x at*;go_wp2;go_quiet (fail);go_wp2;exact⟨⟨k+1,K1.out,by go_num,below_drewN hbw _⟩,by simp[intOf];omega⟩
  ·clear hu hv
   obtain rfl:k=l.length:=by omega
   go_wp2;go_ret;exact⟨rfl,hbw⟩
theorem like1_ok (x y:Int) (u u':Value) (l:List UInt8) (w:World) (hl:l.length≤140737488355328) (hu:Seg w u l) (hv:Seg w u' l):
  Calls Tryz.prog 203 #[.agg #[.int .i64 x,.int .i64 y,u],.agg #[.int .i64 x,.int .i64 y,u']] w fun e w'=>e=.returned (.bool true)/\Below w.heap.size w w':=by
 obtain⟨a,c,rfl⟩:=hu.shape;obtain⟨b,d,rfl⟩:=hv.shape;have hb0:Below w.heap.size w ((w.alloc (.cells #[.int .i64 x,.int .i64 y,.slice a l.length c] 76)).alloc (.cells #[.int .i64 x,.int .i64 y,.slice b l.length d] 76)):=((Below.refl _ _).alloc (Nat.le_refl _) _).alloc (by rw[size_alloc];omega) _;have heq:=Lib.hid (equal_bytes _ _ l _ hl (hu.below hb0) (hv.below hb0));clear hu hv;go_enter Tryz.func203,Tryz.ntmps203;go_wp2_with (go_at_call 204;(with_reducible refine heq.out.mono ?_);rintro e w1 ⟨rfl,hb1⟩);go_ret;exact⟨rfl,below_then hb0 hb1⟩
theorem equal_pats (u v:Value) (ps:List Pat) (w:World) (hu:PSeg w u ps) (hv:PSeg w v ps):
  Calls Tryz.prog 205 #[u,v,.func (.func 203) #[] #[]] w fun e w'=>e=.returned (.bool true)/\Below w.heap.size w w':=by
 obtain⟨a,c,rfl⟩:=hu.shape;obtain⟨b,d,rfl⟩:=hv.shape;have hfew:=hu.few;have hdl:Hid (∀p∈ps,p.d.length≤140737488355000):=by obtain⟨_,_,_,_,h,_⟩:=hu;exact h
 have hne:((ps.length:Int) !=(ps.length:Int))=false:=by simp
 go_enter Tryz.func205,Tryz.ntmps205;go_wp2;go_loopw [17] (fun i wr=>∃k:Nat,k≤ps.length/\i=.int .i64 k/\Below w.heap.size w wr) (fun i _=>ps.length-(intOf i).toNat);case atStart=>exact⟨0,Nat.zero_le _,rfl,Below.refl _ _⟩
 case round=>
  obtain⟨k,hk,rfl,hbw⟩:=hrel;by_cases hlt:k<ps.length
  ·obtain⟨b1,o1,rfl,hb1,h1⟩:=PSeg.full (hu.below hbw) (by omega)
   obtain⟨b2,o2,rfl,hb2,h2⟩:=PSeg.full (hv.below hbw) (by omega);obtain⟨p0,p1,x,p2,hx⟩:PatAt wr b1 (o1+k*3) (ps.getD k pat0):=by rw[getD_of ps k hlt];exact h1 k hlt
   obtain⟨q0,q1,y,q2,hy⟩:PatAt wr b2 (o2+k*3) (ps.getD k pat0):=by rw[getD_of ps k hlt];exact h2 k hlt
   have hdk:(ps.getD k pat0).d.length≤140737488355000:=by rw[getD_of ps k hlt];exact hdl.out _ (List.getElem_mem hlt)
   obtain⟨xa,xc,rfl⟩:=hx.shape;obtain⟨ya,yc,rfl⟩:=hy.shape;have K1:Hid (k+1≤ps.length):=hlt;have hlk:=Lib.hid (fun (W:World) (hW:Below wr.heap.size wr W)=>like1_ok (ps.getD k pat0).m (ps.getD k pat0).r _ _ (ps.getD k pat0).d W (by omega) (hx.below hW) (hy.below hW));clear h1 h2 hu hv hx hy;generalize (ps.getD k pat0).d.length=dn at*;generalize (ps.getD k pat0).m=pm at*;generalize (ps.getD k pat0).r=pr at*;have hb2:Hid (Below wr.heap.size wr ((wr.alloc (.cells #[.int .i64 pm,.int .i64 pr,.slice xa dn xc] 76)).alloc (.cells #[.int .i64 pm,.int .i64 pr,.slice ya dn yc] 76))):=((Below.refl _ _).alloc (Nat.le_refl _) _).alloc (by rw[size_alloc];omega) _;go_wp2_with (go_at_call 203;(with_reducible refine(hlk.out _ hb2.out).mono ?_);rintro e w1 ⟨rfl,hb1⟩);exact⟨⟨k+1,K1.out,by go_num,below_then hbw (below_then hb2.out hb1)⟩,by simp[intOf];omega⟩
  ·clear hu hv
   obtain rfl:k=ps.length:=by omega
   go_wp2;go_ret;exact⟨rfl,hbw⟩
def planVal (r:Int) (md:Int) (par:Int) (vq vr:Value):Value:=.agg #[.int .i64 r,.int .u8 md,.int .i64 par,vq,vr]
theorem plan_like (r md par:Int) (vq vr vq' vr':Value) (ps:List Pat) (l:List Nat) (w:World) (hl:l.length≤1000000) (h1:PSeg w vq ps) (h2:ISeg w vr l) (h3:PSeg w vq' ps) (h4:ISeg w vr' l):
  Calls Tryz.prog 166 #[planVal r md par vq vr,planVal r md par vq' vr'] w fun e w'=>e=.returned (.bool true)/\Below w.heap.size w w':=by
 obtain⟨qa,qc,rfl⟩:=h1.shape;obtain⟨ra,rc,rfl⟩:=h2.shape;obtain⟨qa',qc',rfl⟩:=h3.shape;obtain⟨ra',rc',rfl⟩:=h4.shape;have hpf:=h1.few;have hb0:Below w.heap.size w ((w.alloc (.cells #[.int .i64 r,.int .u8 md,.int .i64 par,.slice qa ps.length qc,.slice ra l.length rc] 207)).alloc (.cells #[.int .i64 r,.int .u8 md,.int .i64 par,.slice qa' ps.length qc',.slice ra' l.length rc'] 207)):=((Below.refl _ _).alloc (Nat.le_refl _) _).alloc (by rw[size_alloc];omega) _;have he:=Lib.hid (equal_pats _ _ ps _ (h1.below hb0) (h3.below hb0));have hi:=Lib.hid (fun (W:World) (hW:Below _ _ W)=>equal_ints _ _ l W (by omega) ((h2.below hb0).below hW) ((h4.below hb0).below hW));have hA:At ((w.alloc (.cells #[.int .i64 r,.int .u8 md,.int .i64 par,.slice qa ps.length qc,.slice ra l.length rc] 207)).alloc (.cells #[.int .i64 r,.int .u8 md,.int .i64 par,.slice qa' ps.length qc',.slice ra' l.length rc'] 207)) w.heap.size #[.int .i64 r,.int .u8 md,.int .i64 par,.slice qa ps.length qc,.slice ra l.length rc] 207:=(At.new _ _ _).alloc _;have hB:At ((w.alloc (.cells #[.int .i64 r,.int .u8 md,.int .i64 par,.slice qa ps.length qc,.slice ra l.length rc] 207)).alloc (.cells #[.int .i64 r,.int .u8 md,.int .i64 par,.slice qa' ps.length qc',.slice ra' l.length rc'] 207)) (w.heap.size+1) #[.int .i64 r,.int .u8 md,.int .i64 par,.slice qa' ps.length qc',.slice ra' l.length rc'] 207:=At.new2 _ _ _ _;have HA:=Lib.hid hA;have HB:=Lib.hid hB;clear h1 h2 h3 h4 hA hB;unfold planVal;go_enter Tryz.func166,Tryz.ntmps166
 go_wp2_with (first
  |(go_at_call 205;(with_reducible refine he.out.mono ?_);rintro e w1 ⟨rfl,hb1⟩;have a4:=(HA.out.below hb1 HA.out.lt).cell 4;have b4:=(HB.out.below hb1 HB.out.lt).cell 4)
  |(go_at_call 206;(with_reducible refine(hi.out w1 hb1).mono ?_);rintro e w2 ⟨rfl,hb2⟩))
 go_ret;exact⟨rfl,below_then hb0 (below_then hb1 hb2)⟩
end Go.Proofs.YtebmephdnjccjaaGreat
/- The library's sorts and sorted keys,laid at this program,in plain words (written by the kit's tool). -/
namespace Go.Proofs
open Go.Shelf
def Tryz.sortPatch_ren:Go.Shelf.Ren:=⟨fun|6=>167|15=>160|14=>207|28=>193|29=>194|20=>221|21=>222|22=>223|23=>224|24=>225|25=>226|26=>227|27=>228|46=>232|47=>215|48=>216|49=>233|50=>234|57=>235|n=>n,fun|22=>38|24=>76|25=>257|3=>3|39=>197|0=>0|53=>232|55=>84|4=>4|46=>287|45=>286|50=>244|5=>5|9=>9|66=>309|70=>190|76=>321|77=>322|n=>n,fun|n=>n⟩
theorem Tryz.sortPatch:Go.Proofs.SlLaysF0.n6 Tryz.prog Tryz.sortPatch_ren:={
 mixed:=by kernel_rfl
 f6:=⟨Tryz.f167.name,by decide,Tryz.func167.trans (congrArg some (by kernel_rfl))⟩
 f14:=⟨Tryz.f207.name,by decide,Tryz.func207.trans (congrArg some (by kernel_rfl))⟩
 f15:=Tryz.func160.trans (congrArg some (by kernel_rfl))
 f20:=⟨Tryz.f221.name,by decide,Tryz.func221.trans (congrArg some (by kernel_rfl))⟩
 f21:=⟨Tryz.f222.name,by decide,Tryz.func222.trans (congrArg some (by kernel_rfl))⟩
 f22:=⟨Tryz.f223.name,by decide,Tryz.func223.trans (congrArg some (by kernel_rfl))⟩
 f23:=⟨Tryz.f224.name,by decide,Tryz.func224.trans (congrArg some (by kernel_rfl))⟩
 f24:=⟨Tryz.f225.name,by decide,Tryz.func225.trans (congrArg some (by kernel_rfl))⟩
 f25:=⟨Tryz.f226.name,by decide,Tryz.func226.trans (congrArg some (by kernel_rfl))⟩
 f26:=⟨Tryz.f227.name,by decide,Tryz.func227.trans (congrArg some (by kernel_rfl))⟩
 f27:=⟨Tryz.f228.name,by decide,Tryz.func228.trans (congrArg some (by kernel_rfl))⟩
 f28:=Tryz.func193.trans (congrArg some (by kernel_rfl))
 f29:=Tryz.func194.trans (congrArg some (by kernel_rfl))
 f46:=⟨Tryz.f232.name,by decide,Tryz.func232.trans (congrArg some (by kernel_rfl))⟩
 f47:=Tryz.func215.trans (congrArg some (by kernel_rfl))
 f48:=Tryz.func216.trans (congrArg some (by kernel_rfl))
 f49:=⟨Tryz.f233.name,by decide,Tryz.func233.trans (congrArg some (by kernel_rfl))⟩
 f50:=⟨Tryz.f234.name,by decide,Tryz.func234.trans (congrArg some (by kernel_rfl))⟩
 f57:=⟨Tryz.f235.name,by decide,Tryz.func235.trans (congrArg some (by kernel_rfl))⟩
 t0:=Tryz.underlying0
 a0:=Tryz.isAgg0
 z0:=Tryz.sizeOf0
 v0:=Tryz.zeroValue0
 t3:=Tryz.underlying3
 a3:=Tryz.isAgg3
 z3:=Tryz.sizeOf3
 v3:=Tryz.zeroValue3
 t4:=Tryz.underlying4
 a4:=Tryz.isAgg4
 z4:=Tryz.sizeOf4
 v4:=Tryz.zeroValue4
 t5:=Tryz.underlying5
 a5:=Tryz.isAgg5
 z5:=Tryz.sizeOf5
 v5:=Tryz.zeroValue5
 t9:=Tryz.underlying9
 a9:=Tryz.isAgg9
 z9:=Tryz.sizeOf9
 v9:=Tryz.zeroValue9
 t22:=Tryz.underlying38
 a22:=Tryz.isAgg38
 z22:=Tryz.sizeOf38
 v22:=Tryz.zeroValue38
 t25:=Tryz.underlying257
 a25:=Tryz.isAgg257
 z25:=Tryz.sizeOf257
 v25:=Tryz.zeroValue257
 t39:=Tryz.underlying197
 a39:=Tryz.isAgg197
 z39:=Tryz.sizeOf197
 v39:=Tryz.zeroValue197
 t45:=Tryz.underlying286
 a45:=Tryz.isAgg286
 z45:=Tryz.sizeOf286
 v45:=Tryz.zeroValue286
 t46:=Tryz.underlying287
 a46:=Tryz.isAgg287
 z46:=Tryz.sizeOf287
 v46:=Tryz.zeroValue287
 t50:=Tryz.underlying244
 a50:=Tryz.isAgg244
 z50:=Tryz.sizeOf244
 v50:=Tryz.zeroValue244
 t53:=Tryz.underlying232
 a53:=Tryz.isAgg232
 z53:=Tryz.sizeOf232
 v53:=Tryz.zeroValue232
 t55:=Tryz.underlying84
 a55:=Tryz.isAgg84
 z55:=Tryz.sizeOf84
 v55:=Tryz.zeroValue84
 t66:=Tryz.underlying309
 a66:=Tryz.isAgg309
 z66:=Tryz.sizeOf309
 v66:=Tryz.zeroValue309
 t70:=Tryz.underlying190
 a70:=Tryz.isAgg190
 z70:=Tryz.sizeOf190
 v70:=Tryz.zeroValue190
 t76:=Tryz.underlying321
 a76:=Tryz.isAgg321
 z76:=Tryz.sizeOf321
 v76:=Tryz.zeroValue321
 t77:=Tryz.underlying322
 a77:=Tryz.isAgg322
 z77:=Tryz.sizeOf322
 v77:=Tryz.zeroValue322}
def Tryz.keysA_ren:Go.Shelf.Ren:=⟨fun|7=>103|10=>134|n=>n,fun|23=>154|26=>3|3=>155|28=>159|0=>0|27=>158|33=>70|4=>4|n=>n,fun|n=>n⟩
theorem Tryz.keysA:Go.Proofs.SlLaysZI.n7 Tryz.prog Tryz.keysA_ren:={
 mixed:=by kernel_rfl
 f7:=⟨Tryz.f103.name,by decide,Tryz.func103.trans (congrArg some (by kernel_rfl))⟩
 f10:=⟨Tryz.f134.name,by decide,Tryz.func134.trans (congrArg some (by kernel_rfl))⟩
 t0:=Tryz.underlying0
 a0:=Tryz.isAgg0
 z0:=Tryz.sizeOf0
 v0:=Tryz.zeroValue0
 t4:=Tryz.underlying4
 a4:=Tryz.isAgg4
 z4:=Tryz.sizeOf4
 v4:=Tryz.zeroValue4
 t23:=Tryz.underlying154
 a23:=Tryz.isAgg154
 z23:=Tryz.sizeOf154
 v23:=Tryz.zeroValue154
 t26:=Tryz.underlying3
 a26:=Tryz.isAgg3
 z26:=Tryz.sizeOf3
 v26:=Tryz.zeroValue3
 t27:=Tryz.underlying158
 a27:=Tryz.isAgg158
 z27:=Tryz.sizeOf158
 v27:=Tryz.zeroValue158
 t28:=Tryz.underlying159
 a28:=Tryz.isAgg159
 z28:=Tryz.sizeOf159
 v28:=Tryz.zeroValue159
 t33:=Tryz.underlying70
 a33:=Tryz.isAgg70
 z33:=Tryz.sizeOf70
 v33:=Tryz.zeroValue70}
def Tryz.keysB_ren:Go.Shelf.Ren:=⟨fun|7=>104|10=>135|n=>n,fun|23=>155|26=>3|3=>76|28=>159|0=>0|27=>158|33=>70|4=>4|n=>n,fun|n=>n⟩
theorem Tryz.keysB:Go.Proofs.SlLaysZI.n7 Tryz.prog Tryz.keysB_ren:={
 mixed:=by kernel_rfl
 f7:=⟨Tryz.f104.name,by decide,Tryz.func104.trans (congrArg some (by kernel_rfl))⟩
 f10:=⟨Tryz.f135.name,by decide,Tryz.func135.trans (congrArg some (by kernel_rfl))⟩
 t0:=Tryz.underlying0
 a0:=Tryz.isAgg0
 z0:=Tryz.sizeOf0
 v0:=Tryz.zeroValue0
 t4:=Tryz.underlying4
 a4:=Tryz.isAgg4
 z4:=Tryz.sizeOf4
 v4:=Tryz.zeroValue4
 t23:=Tryz.underlying155
 a23:=Tryz.isAgg155
 z23:=Tryz.sizeOf155
 v23:=Tryz.zeroValue155
 t26:=Tryz.underlying3
 a26:=Tryz.isAgg3
 z26:=Tryz.sizeOf3
 v26:=Tryz.zeroValue3
 t27:=Tryz.underlying158
 a27:=Tryz.isAgg158
 z27:=Tryz.sizeOf158
 v27:=Tryz.zeroValue158
 t28:=Tryz.underlying159
 a28:=Tryz.isAgg159
 z28:=Tryz.sizeOf159
 v28:=Tryz.zeroValue159
 t33:=Tryz.underlying70
 a33:=Tryz.isAgg70
 z33:=Tryz.sizeOf70
 v33:=Tryz.zeroValue70}
def Tryz.sortedA_ren:Go.Shelf.Ren:=⟨fun|6=>102|8=>132|9=>133|11=>158|13=>160|12=>159|23=>193|24=>194|14=>184|15=>185|16=>186|17=>187|18=>188|19=>189|20=>190|21=>191|22=>192|25=>214|26=>215|27=>216|28=>217|29=>218|30=>219|31=>231|n=>n,fun|26=>3|28=>159|24=>71|0=>0|3=>3|37=>197|48=>232|50=>84|4=>4|40=>287|39=>286|45=>244|5=>5|9=>9|51=>309|55=>190|57=>321|58=>322|33=>70|n=>n,fun|n=>n⟩
theorem Tryz.sortedA:Go.Proofs.SlLaysZI.n6 Tryz.prog Tryz.sortedA_ren:={
 mixed:=by kernel_rfl
 f6:=⟨Tryz.f102.name,by decide,Tryz.func102.trans (congrArg some (by kernel_rfl))⟩
 f8:=⟨Tryz.f132.name,by decide,Tryz.func132.trans (congrArg some (by kernel_rfl))⟩
 f11:=⟨Tryz.f158.name,by decide,Tryz.func158.trans (congrArg some (by kernel_rfl))⟩
 t0:=Tryz.underlying0
 a0:=Tryz.isAgg0
 z0:=Tryz.sizeOf0
 v0:=Tryz.zeroValue0
 t24:=Tryz.underlying71
 a24:=Tryz.isAgg71
 z24:=Tryz.sizeOf71
 v24:=Tryz.zeroValue71
 t26:=Tryz.underlying3
 a26:=Tryz.isAgg3
 z26:=Tryz.sizeOf3
 v26:=Tryz.zeroValue3
 t28:=Tryz.underlying159
 a28:=Tryz.isAgg159
 z28:=Tryz.sizeOf159
 v28:=Tryz.zeroValue159
 i26:=by kernel_rfl}
def Tryz.sortInt_ren:Go.Shelf.Ren:=⟨fun|5=>133|8=>160|7=>159|19=>193|20=>194|10=>184|11=>185|12=>186|13=>187|14=>188|15=>189|16=>190|17=>191|18=>192|30=>214|31=>215|32=>216|33=>217|34=>218|35=>219|40=>231|n=>n,fun|23=>71|25=>3|3=>3|32=>197|22=>71|0=>0|44=>232|46=>84|4=>4|36=>287|35=>286|41=>244|5=>5|9=>9|53=>309|57=>190|63=>321|64=>322|n=>n,fun|n=>n⟩
theorem Tryz.sortInt:Go.Proofs.SlLaysM.n5 Tryz.prog Tryz.sortInt_ren:={
 mixed:=by kernel_rfl
 f5:=⟨Tryz.f133.name,by decide,Tryz.func133.trans (congrArg some (by kernel_rfl))⟩
 f7:=⟨Tryz.f159.name,by decide,Tryz.func159.trans (congrArg some (by kernel_rfl))⟩
 f8:=Tryz.func160.trans (congrArg some (by kernel_rfl))
 f10:=⟨Tryz.f184.name,by decide,Tryz.func184.trans (congrArg some (by kernel_rfl))⟩
 f11:=⟨Tryz.f185.name,by decide,Tryz.func185.trans (congrArg some (by kernel_rfl))⟩
 f12:=⟨Tryz.f186.name,by decide,Tryz.func186.trans (congrArg some (by kernel_rfl))⟩
 f13:=⟨Tryz.f187.name,by decide,Tryz.func187.trans (congrArg some (by kernel_rfl))⟩
 f14:=⟨Tryz.f188.name,by decide,Tryz.func188.trans (congrArg some (by kernel_rfl))⟩
 f15:=⟨Tryz.f189.name,by decide,Tryz.func189.trans (congrArg some (by kernel_rfl))⟩
 f16:=⟨Tryz.f190.name,by decide,Tryz.func190.trans (congrArg some (by kernel_rfl))⟩
 f17:=⟨Tryz.f191.name,by decide,Tryz.func191.trans (congrArg some (by kernel_rfl))⟩
 f18:=⟨Tryz.f192.name,by decide,Tryz.func192.trans (congrArg some (by kernel_rfl))⟩
 f19:=Tryz.func193.trans (congrArg some (by kernel_rfl))
 f20:=Tryz.func194.trans (congrArg some (by kernel_rfl))
 f30:=⟨Tryz.f214.name,by decide,Tryz.func214.trans (congrArg some (by kernel_rfl))⟩
 f31:=Tryz.func215.trans (congrArg some (by kernel_rfl))
 f32:=Tryz.func216.trans (congrArg some (by kernel_rfl))
 f33:=⟨Tryz.f217.name,by decide,Tryz.func217.trans (congrArg some (by kernel_rfl))⟩
 f34:=⟨Tryz.f218.name,by decide,Tryz.func218.trans (congrArg some (by kernel_rfl))⟩
 f35:=⟨Tryz.f219.name,by decide,Tryz.func219.trans (congrArg some (by kernel_rfl))⟩
 f40:=⟨Tryz.f231.name,by decide,Tryz.func231.trans (congrArg some (by kernel_rfl))⟩
 t0:=Tryz.underlying0
 a0:=Tryz.isAgg0
 z0:=Tryz.sizeOf0
 v0:=Tryz.zeroValue0
 t3:=Tryz.underlying3
 a3:=Tryz.isAgg3
 z3:=Tryz.sizeOf3
 v3:=Tryz.zeroValue3
 t4:=Tryz.underlying4
 a4:=Tryz.isAgg4
 z4:=Tryz.sizeOf4
 v4:=Tryz.zeroValue4
 t5:=Tryz.underlying5
 a5:=Tryz.isAgg5
 z5:=Tryz.sizeOf5
 v5:=Tryz.zeroValue5
 t9:=Tryz.underlying9
 a9:=Tryz.isAgg9
 z9:=Tryz.sizeOf9
 v9:=Tryz.zeroValue9
 t22:=Tryz.underlying71
 a22:=Tryz.isAgg71
 z22:=Tryz.sizeOf71
 v22:=Tryz.zeroValue71
 t23:=Tryz.underlying71
 a23:=Tryz.isAgg71
 z23:=Tryz.sizeOf71
 v23:=Tryz.zeroValue71
 t25:=Tryz.underlying3
 a25:=Tryz.isAgg3
 z25:=Tryz.sizeOf3
 v25:=Tryz.zeroValue3
 t32:=Tryz.underlying197
 a32:=Tryz.isAgg197
 z32:=Tryz.sizeOf197
 v32:=Tryz.zeroValue197
 t35:=Tryz.underlying286
 a35:=Tryz.isAgg286
 z35:=Tryz.sizeOf286
 v35:=Tryz.zeroValue286
 t36:=Tryz.underlying287
 a36:=Tryz.isAgg287
 z36:=Tryz.sizeOf287
 v36:=Tryz.zeroValue287
 t41:=Tryz.underlying244
 a41:=Tryz.isAgg244
 z41:=Tryz.sizeOf244
 v41:=Tryz.zeroValue244
 t44:=Tryz.underlying232
 a44:=Tryz.isAgg232
 z44:=Tryz.sizeOf232
 v44:=Tryz.zeroValue232
 t46:=Tryz.underlying84
 a46:=Tryz.isAgg84
 z46:=Tryz.sizeOf84
 v46:=Tryz.zeroValue84
 t53:=Tryz.underlying309
 a53:=Tryz.isAgg309
 z53:=Tryz.sizeOf309
 v53:=Tryz.zeroValue309
 t57:=Tryz.underlying190
 a57:=Tryz.isAgg190
 z57:=Tryz.sizeOf190
 v57:=Tryz.zeroValue190
 t63:=Tryz.underlying321
 a63:=Tryz.isAgg321
 z63:=Tryz.sizeOf321
 v63:=Tryz.zeroValue321
 t64:=Tryz.underlying322
 a64:=Tryz.isAgg322
 z64:=Tryz.sizeOf322
 v64:=Tryz.zeroValue322}
end Go.Proofs