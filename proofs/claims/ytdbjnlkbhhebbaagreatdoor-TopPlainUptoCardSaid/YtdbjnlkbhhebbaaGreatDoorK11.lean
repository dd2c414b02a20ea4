/- Date4, DateOk, Date6, Date7, Date8, Tick, Fresh1, FreshIn, Fresh2, Fresh3. -/
import Derived.Test.YtdbjnlkbhhebbaaGreatDoorK01
import Derived.Test.YtdbjnlkbhhebbaaGreatDoorK03
import Derived.Test.YtdbjnlkbhhebbaaGreatDoorK06
import Derived.Test.YtdbjnlkbhhebbaaGreatDoorK08
import Derived.Test.YtdbjnlkbhhebbaaGreatDoorK09
import Derived.Test.YtdbjnlkbhhebbaaGreatDoorK10
import Derived.RegionTactic
import Derived.BigRegion
import Derived.Deep.RegionHeld3
import Derived.Laws.RangeString
import Derived.WalkMore
import Derived.Lib.AppendIntMem
import Derived.Laws.EntriesVeiled
set_option maxRecDepth 100000
set_option maxHeartbeats 16000000
set_option linter.all false
namespace Go.Proofs.YtdbjnlkbhhebbaaGreatDoor
open Go.RowKit
variable {s:ByteArray}{ib mb q:Nat}{w w':World}
def cE(mb:Nat)(w w':World):Prop:=w'.os=w.os/\w'.tape=w.tape/\w'.output=w.output/\w.heap.size<=w'.heap.size/\∀b,b<w.heap.size->b≠mb->w'.heap[b]?=w.heap[b]?
theorem cE.refl(mb:Nat)(w:World):cE mb w w:=⟨rfl,rfl,rfl,aw _,λ_ _ _=>rfl⟩
theorem cE.ofBelow(h:Below w.heap.size w w'):cE mb w w':=⟨h.os,h.tape,h.output,h.size,λb hb _=>h.block b hb⟩
theorem cE.trans{w1:World}(h:cE mb w w1)(h2:cE mb w1 w'):cE mb w w':=⟨h2.1.trans h.1,h2.2.1.trans h.2.1,h2.2.2.1.trans h.2.2.1,bj h.2.2.2.1 h2.2.2.2.1,λb hb hn=>(h2.2.2.2.2 b (bE hb h.2.2.2.1) hn).trans (h.2.2.2.2 b hb hn)⟩
theorem cE.set(mb j q:Nat)(w:World)(v:Value):cE mb w ((w.drewN q).setCell ⟨mb,j,none⟩ v):=⟨rfl,rfl,rfl,by simp,λb _ hn=>by simp[World.setCell,fJ];intro h;exact absurd h.symm hn⟩
theorem cE.below{B:Nat}(h:cE mb w w')(hB:B<=mb)(hw:B<=w.heap.size):Below B w w':=⟨h.1,h.2.1,h.2.2.1,h.2.2.2.1,λb hb=>h.2.2.2.2 b (by omega) (by omega)⟩
def bf(mb:Nat)(m:jO)(w:World):Prop:=w.heap[mb]?=some (.cells #[.int .i64 m.wd,.int .i64 m.day,.int .i64 m.month,.int .i64 m.year,.int .i64 m.hour,.int .i64 m.minute,.int .i64 m.second,.bool m.two] 375 (0,0))
theorem bf.lt{m:jO}(h:bf mb m w):mb<w.heap.size:=by
 unfold bf at h;rcases ef mb w.heap.size with h'|h'
 ·exact h'
 ·simp[fy h']at h
theorem bf.cells{m:jO}(h:bf mb m w):w.cell? ⟨mb,0,none⟩=some (.int .i64 m.wd)/\w.cell? ⟨mb,1,none⟩=some (.int .i64 m.day)/\w.cell? ⟨mb,2,none⟩=some (.int .i64 m.month)/\w.cell? ⟨mb,3,none⟩=some (.int .i64 m.year)/\w.cell? ⟨mb,4,none⟩=some (.int .i64 m.hour)/\w.cell? ⟨mb,5,none⟩=some (.int .i64 m.minute)/\w.cell? ⟨mb,6,none⟩=some (.int .i64 m.second)/\w.cell? ⟨mb,7,none⟩=some (.bool m.two)/\∀j,w.frozen? ⟨mb,j,none⟩=false:=by unfold bf at h;refine⟨?_,?_,?_,?_,?_,?_,?_,?_,λj=>?_⟩<;>first|simp[World.cell?,h]|simp[World.frozen?,h]
theorem bf.below{m:jO}(h:bf mb m w)(hb:Below w.heap.size w w'):bf mb m w':=(hb.block mb h.lt).trans h
theorem bf.set0{m:jO}(h:bf mb m w)(v:Int):bf mb { m with wd:=v } ((w.drewN q).setCell ⟨mb,0,none⟩ (.int .i64 v)):=by unfold bf at*;simp[World.setCell,fJ,h]
theorem bf.set1{m:jO}(h:bf mb m w)(v:Int):bf mb { m with day:=v } ((w.drewN q).setCell ⟨mb,1,none⟩ (.int .i64 v)):=by unfold bf at*;simp[World.setCell,fJ,h]
theorem bf.set2{m:jO}(h:bf mb m w)(v:Int):bf mb { m with month:=v } ((w.drewN q).setCell ⟨mb,2,none⟩ (.int .i64 v)):=by unfold bf at*;simp[World.setCell,fJ,h]
theorem bf.set3{m:jO}(h:bf mb m w)(v:Int):bf mb { m with year:=v } ((w.drewN q).setCell ⟨mb,3,none⟩ (.int .i64 v)):=by unfold bf at*;simp[World.setCell,fJ,h]
theorem bf.set4{m:jO}(h:bf mb m w)(v:Int):bf mb { m with hour:=v } ((w.drewN q).setCell ⟨mb,4,none⟩ (.int .i64 v)):=by unfold bf at*;simp[World.setCell,fJ,h]
theorem bf.set5{m:jO}(h:bf mb m w)(v:Int):bf mb { m with minute:=v } ((w.drewN q).setCell ⟨mb,5,none⟩ (.int .i64 v)):=by unfold bf at*;simp[World.setCell,fJ,h]
theorem bf.set6{m:jO}(h:bf mb m w)(v:Int):bf mb { m with second:=v } ((w.drewN q).setCell ⟨mb,6,none⟩ (.int .i64 v)):=by unfold bf at*;simp[World.setCell,fJ,h]
theorem bf.set7{m:jO}(h:bf mb m w)(v:Bool):bf mb { m with two:=v } ((w.drewN q).setCell ⟨mb,7,none⟩ (.bool v)):=by unfold bf at*;simp[World.setCell,fJ,h]
theorem AA(mb:Nat)(m:jO)(s:ByteArray)(w:World)(Tz:d9 w)(hm:bf mb m w):Calls Tryz.prog 278 #[.pointer (some ⟨mb,0,none⟩),.int .i32 68,.string s] w λe w'=>e=.returned (.tuple #[.string ⟨(aW m 68 s.data.toList).2.1.toArray⟩,.bool (aW m 68 s.data.toList).2.2])/\cE mb w w'/\bf mb (aW m 68 s.data.toList).1 w':=by
 have hd:aW m 68 s.data.toList=({ m with day:=(cn s.data.toList 2).1 },(cn s.data.toList 2).2):=by unfold aW;simp
 rw[hd];have k:=eP s 2 (by decide) w;rw[show((2:Nat):Int)=2 from rfl]at k;generalize cn s.data.toList 2=r at*;obtain⟨v,rest,is⟩:=r;simp only at k ⊢
 obtain⟨c0,c1,c2,c3,c4,c5,c6,c7,hf⟩:=hm.cells;have f1:=hf 1;obtain⟨K,HM⟩:=az k hm;clear k hm hd hf;go_enter Tryz.func278,Tryz.ntmps278
 go_wp2_with fail
 refine K.out.mono ?_;rintro e w1 ⟨rfl,q,rfl⟩;go_wp2;go_ret2
 exact⟨rfl,cE.set mb 1 q w _,HM.out.set1 (q:=q) v⟩
theorem Bg(mb:Nat)(m:jO)(s:ByteArray)(w:World)(Tz:d9 w)(hm:bf mb m w):Calls Tryz.prog 278 #[.pointer (some ⟨mb,0,none⟩),.int .i32 89,.string s] w λe w'=>e=.returned (.tuple #[.string ⟨(aW m 89 s.data.toList).2.1.toArray⟩,.bool (aW m 89 s.data.toList).2.2])/\cE mb w w'/\bf mb (aW m 89 s.data.toList).1 w':=by
 have hd:aW m 89 s.data.toList=({ m with year:=(cn s.data.toList 4).1 },(cn s.data.toList 4).2):=by unfold aW;simp
 rw[hd];have k:=eP s 4 (by decide) w;rw[show((4:Nat):Int)=4 from rfl]at k;generalize cn s.data.toList 4=r at*;obtain⟨v,rest,is⟩:=r;simp only at k ⊢
 obtain⟨c0,c1,c2,c3,c4,c5,c6,c7,hf⟩:=hm.cells;have f3:=hf 3;obtain⟨K,HM⟩:=az k hm;clear k hm hd hf;go_enter Tryz.func278,Tryz.ntmps278
 go_wp2_with fail
 refine K.out.mono ?_;rintro e w1 ⟨rfl,q,rfl⟩;go_wp2;go_ret2
 exact⟨rfl,cE.set mb 3 q w _,HM.out.set3 (q:=q) v⟩
theorem xi(mb:Nat)(m:jO)(s:ByteArray)(w:World)(Tz:d9 w)(hm:bf mb m w):Calls Tryz.prog 278 #[.pointer (some ⟨mb,0,none⟩),.int .i32 121,.string s] w λe w'=>e=.returned (.tuple #[.string ⟨(aW m 121 s.data.toList).2.1.toArray⟩,.bool (aW m 121 s.data.toList).2.2])/\cE mb w w'/\bf mb (aW m 121 s.data.toList).1 w':=by
 have hd:aW m 121 s.data.toList=({ m with year:=(cn s.data.toList 2).1,two:=true },(cn s.data.toList 2).2):=by unfold aW;simp
 rw[hd];have k:=eP s 2 (by decide) w;rw[show((2:Nat):Int)=2 from rfl]at k;generalize cn s.data.toList 2=r at*;obtain⟨v,rest,is⟩:=r;simp only at k ⊢
 obtain⟨c0,c1,c2,c3,c4,c5,c6,c7,hf⟩:=hm.cells;have f3:=hf 3;have f7:=hf 7;obtain⟨K,HM⟩:=az k hm;clear k hm hd hf;go_enter Tryz.func278,Tryz.ntmps278
 go_wp2_with fail
 refine K.out.mono ?_;rintro e w1 ⟨rfl,q,rfl⟩
 have c7':((w.drewN q).setCell ⟨mb,3,none⟩ (.int .i64 v)).cell? ⟨mb,7,none⟩=some (.bool m.two):=by rw[World.cell?_setCell_other _ _ _ _ (by intro e;cases e)];exact c7
 have f7':((w.drewN q).setCell ⟨mb,3,none⟩ (.int .i64 v)).frozen? ⟨mb,7,none⟩=false:=by rw[World.frozen?_setCell];exact f7
 go_wp2;go_ret2
 exact⟨rfl,(cE.set mb 3 q w _).trans (cE.set mb 7 0 _ _),bf.set7 (q:=0) (HM.out.set3 (q:=q) v) true⟩
theorem zH(mb:Nat)(m:jO)(s:ByteArray)(w:World)(Tz:d9 w)(hm:bf mb m w):Calls Tryz.prog 278 #[.pointer (some ⟨mb,0,none⟩),.int .i32 72,.string s] w λe w'=>e=.returned (.tuple #[.string ⟨(aW m 72 s.data.toList).2.1.toArray⟩,.bool (aW m 72 s.data.toList).2.2])/\cE mb w w'/\bf mb (aW m 72 s.data.toList).1 w':=by
 have hd:aW m 72 s.data.toList=({ m with hour:=(cn s.data.toList 2).1 },(cn s.data.toList 2).2):=by unfold aW;simp
 rw[hd];have k:=eP s 2 (by decide) w;rw[show((2:Nat):Int)=2 from rfl]at k;generalize cn s.data.toList 2=r at*;obtain⟨v,rest,is⟩:=r;simp only at k ⊢
 obtain⟨c0,c1,c2,c3,c4,c5,c6,c7,hf⟩:=hm.cells;have f4:=hf 4;obtain⟨K,HM⟩:=az k hm;clear k hm hd hf;go_enter Tryz.func278,Tryz.ntmps278
 go_wp2_with fail
 refine K.out.mono ?_;rintro e w1 ⟨rfl,q,rfl⟩;go_wp2;go_ret2
 exact⟨rfl,cE.set mb 4 q w _,HM.out.set4 (q:=q) v⟩
theorem Ap(mb:Nat)(m:jO)(s:ByteArray)(w:World)(Tz:d9 w)(hm:bf mb m w):Calls Tryz.prog 278 #[.pointer (some ⟨mb,0,none⟩),.int .i32 73,.string s] w λe w'=>e=.returned (.tuple #[.string ⟨(aW m 73 s.data.toList).2.1.toArray⟩,.bool (aW m 73 s.data.toList).2.2])/\cE mb w w'/\bf mb (aW m 73 s.data.toList).1 w':=by
 have hd:aW m 73 s.data.toList=({ m with minute:=(cn s.data.toList 2).1 },(cn s.data.toList 2).2):=by unfold aW;simp
 rw[hd];have k:=eP s 2 (by decide) w;rw[show((2:Nat):Int)=2 from rfl]at k;generalize cn s.data.toList 2=r at*;obtain⟨v,rest,is⟩:=r;simp only at k ⊢
 obtain⟨c0,c1,c2,c3,c4,c5,c6,c7,hf⟩:=hm.cells;have f5:=hf 5;obtain⟨K,HM⟩:=az k hm;clear k hm hd hf;go_enter Tryz.func278,Tryz.ntmps278
 go_wp2_with fail
 refine K.out.mono ?_;rintro e w1 ⟨rfl,q,rfl⟩;go_wp2;go_ret2
 exact⟨rfl,cE.set mb 5 q w _,HM.out.set5 (q:=q) v⟩
theorem Bd(mb:Nat)(m:jO)(s:ByteArray)(w:World)(Tz:d9 w)(hm:bf mb m w):Calls Tryz.prog 278 #[.pointer (some ⟨mb,0,none⟩),.int .i32 83,.string s] w λe w'=>e=.returned (.tuple #[.string ⟨(aW m 83 s.data.toList).2.1.toArray⟩,.bool (aW m 83 s.data.toList).2.2])/\cE mb w w'/\bf mb (aW m 83 s.data.toList).1 w':=by
 have hd:aW m 83 s.data.toList=({ m with second:=(cn s.data.toList 2).1 },(cn s.data.toList 2).2):=by unfold aW;simp
 rw[hd];have k:=eP s 2 (by decide) w;rw[show((2:Nat):Int)=2 from rfl]at k;generalize cn s.data.toList 2=r at*;obtain⟨v,rest,is⟩:=r;simp only at k ⊢
 obtain⟨c0,c1,c2,c3,c4,c5,c6,c7,hf⟩:=hm.cells;have f6:=hf 6;obtain⟨K,HM⟩:=az k hm;clear k hm hd hf;go_enter Tryz.func278,Tryz.ntmps278
 go_wp2_with fail
 refine K.out.mono ?_;rintro e w1 ⟨rfl,q,rfl⟩;go_wp2;go_ret2
 exact⟨rfl,cE.set mb 6 q w _,HM.out.set6 (q:=q) v⟩
theorem wz(mb:Nat)(m:jO)(s:ByteArray)(w:World)(hE:d9 w)(hm:bf mb m w):Calls Tryz.prog 278 #[.pointer (some ⟨mb,0,none⟩),.int .i32 119,.string s] w λe w'=>e=.returned (.tuple #[.string ⟨(aW m 119 s.data.toList).2.1.toArray⟩,.bool (aW m 119 s.data.toList).2.2])/\cE mb w w'/\bf mb (aW m 119 s.data.toList).1 w':=by
 have hd:aW m 119 s.data.toList=({ m with wd:=(ec s.data.toList 3 dN 0).1 },(ec s.data.toList 3 dN 0).2):=by unfold aW;simp
 rw[hd];have k0:=wg w hE;have k:=λw' hr=>Cz s w.heap.size 7 w' hr
 generalize ec s.data.toList 3 dN 0=r at*;obtain⟨v,rest,is⟩:=r;simp only at k ⊢
 obtain⟨K0,K,HM⟩:=bu k0 k hm;clear k0 k hm hd hE;go_enter Tryz.func278,Tryz.ntmps278
 go_wp2_with fail
 refine K0.out.mono ?_;rintro e w1 ⟨rfl,hr,hb⟩;have k1:=K.out w1 hr;have WK:=HM.out.below hb;obtain⟨c0,_,_,_,_,_,_,_,hf⟩:=WK.cells;have f0:=hf 0;obtain⟨K1,HM1,HB⟩:=bu k1 WK hb;clear k1 WK hr hb hf;go_wp2_with fail
 refine K1.out.mono ?_;rintro e w2 ⟨rfl,rfl⟩;go_wp2;go_ret2
 exact⟨rfl,(cE.ofBelow HB.out).trans (cE.set mb 0 0 _ _),HM1.out.set0 (q:=0) v⟩
theorem Af(mb:Nat)(m:jO)(s:ByteArray)(w:World)(hE:d9 w)(hm:bf mb m w):Calls Tryz.prog 278 #[.pointer (some ⟨mb,0,none⟩),.int .i32 87,.string s] w λe w'=>e=.returned (.tuple #[.string ⟨(aW m 87 s.data.toList).2.1.toArray⟩,.bool (aW m 87 s.data.toList).2.2])/\cE mb w w'/\bf mb (aW m 87 s.data.toList).1 w':=by
 have hd:aW m 87 s.data.toList=({ m with wd:=(ec s.data.toList 0 dN 0).1 },(ec s.data.toList 0 dN 0).2):=by unfold aW;simp
 rw[hd];have k0:=wg w hE;have k:=λw' hr=>CV s w.heap.size 7 w' hr
 generalize ec s.data.toList 0 dN 0=r at*;obtain⟨v,rest,is⟩:=r;simp only at k ⊢
 obtain⟨K0,K,HM⟩:=bu k0 k hm;clear k0 k hm hd hE;go_enter Tryz.func278,Tryz.ntmps278
 go_wp2_with fail
 refine K0.out.mono ?_;rintro e w1 ⟨rfl,hr,hb⟩;have k1:=K.out w1 hr;have WK:=HM.out.below hb;obtain⟨c0,_,_,_,_,_,_,_,hf⟩:=WK.cells;have f0:=hf 0;obtain⟨K1,HM1,HB⟩:=bu k1 WK hb;clear k1 WK hr hb hf;go_wp2_with fail
 refine K1.out.mono ?_;rintro e w2 ⟨rfl,rfl⟩;go_wp2;go_ret2
 exact⟨rfl,(cE.ofBelow HB.out).trans (cE.set mb 0 0 _ _),HM1.out.set0 (q:=0) v⟩
theorem AW(mb:Nat)(m:jO)(s:ByteArray)(w:World)(Tz:d9 w)(hm:bf mb m w):Calls Tryz.prog 278 #[.pointer (some ⟨mb,0,none⟩),.int .i32 44,.string s] w λe w'=>e=.returned (.tuple #[.string ⟨(aW m 44 s.data.toList).2.1.toArray⟩,.bool (aW m 44 s.data.toList).2.2])/\cE mb w w'/\bf mb (aW m 44 s.data.toList).1 w':=by
 have hd:aW m 44 s.data.toList=(if Lib.hasPrefix s.data.toList [44]=true then(m,s.data.toList.drop 1,true)else(m,s.data.toList,false)):=by unfold aW;simp
 rw[hd];have k:=Tryz.strings_CutPrefix s ⟨#[44]⟩ w;have e1:(⟨#[44]⟩:ByteArray).data.toList=[44]:=rfl;rw[e1]at k;unfold Lib.trimPrefix at k;rw[show([44]:List UInt8).length=1 from rfl]at k;generalize s.data.toList.drop 1=dr at*
 cases hp:Lib.hasPrefix s.data.toList [44]
 all_goals
  rw[hp]at k;simp only[mt,if_false,if_true]at k ⊢;obtain⟨K,HM⟩:=az k hm;clear k hm hd hp e1;go_enter Tryz.func278,Tryz.ntmps278
  go_wp2_with fail
  rw[show Utf8.encode 44=⟨#[44]⟩from by decide +kernel];refine K.out.mono ?_;rintro e w1 ⟨rfl,rfl⟩;go_wp2;go_ret2
  exact⟨rfl,cE.refl _ _,HM.out⟩
theorem AO(mb:Nat)(m:jO)(s:ByteArray)(w:World)(Tz:d9 w)(hm:bf mb m w):Calls Tryz.prog 278 #[.pointer (some ⟨mb,0,none⟩),.int .i32 32,.string s] w λe w'=>e=.returned (.tuple #[.string ⟨(aW m 32 s.data.toList).2.1.toArray⟩,.bool (aW m 32 s.data.toList).2.2])/\cE mb w w'/\bf mb (aW m 32 s.data.toList).1 w':=by
 have hd:aW m 32 s.data.toList=(if Lib.hasPrefix s.data.toList [32]=true then(m,s.data.toList.drop 1,true)else(m,s.data.toList,false)):=by unfold aW;simp
 rw[hd];have k:=Tryz.strings_CutPrefix s gY w;have e1:(gY:ByteArray).data.toList=[32]:=rfl;rw[e1]at k;unfold Lib.trimPrefix at k;rw[show([32]:List UInt8).length=1 from rfl]at k;generalize s.data.toList.drop 1=dr at*
 cases hp:Lib.hasPrefix s.data.toList [32]
 all_goals
  rw[hp]at k;simp only[mt,if_false,if_true]at k ⊢;obtain⟨K,HM⟩:=az k hm;clear k hm hd hp e1;go_enter Tryz.func278,Tryz.ntmps278
  go_wp2_with fail
  rw[show Utf8.encode 32=gY from by decide +kernel];refine K.out.mono ?_;rintro e w1 ⟨rfl,rfl⟩;go_wp2;go_ret2
  exact⟨rfl,cE.refl _ _,HM.out⟩
theorem yW(mb:Nat)(m:jO)(s:ByteArray)(w:World)(Tz:d9 w)(hm:bf mb m w):Calls Tryz.prog 278 #[.pointer (some ⟨mb,0,none⟩),.int .i32 58,.string s] w λe w'=>e=.returned (.tuple #[.string ⟨(aW m 58 s.data.toList).2.1.toArray⟩,.bool (aW m 58 s.data.toList).2.2])/\cE mb w w'/\bf mb (aW m 58 s.data.toList).1 w':=by
 have hd:aW m 58 s.data.toList=(if Lib.hasPrefix s.data.toList [58]=true then(m,s.data.toList.drop 1,true)else(m,s.data.toList,false)):=by unfold aW;simp
 rw[hd];have k:=Tryz.strings_CutPrefix s qz w;have e1:(qz:ByteArray).data.toList=[58]:=rfl;rw[e1]at k;unfold Lib.trimPrefix at k;rw[show([58]:List UInt8).length=1 from rfl]at k;generalize s.data.toList.drop 1=dr at*
 cases hp:Lib.hasPrefix s.data.toList [58]
 all_goals
  rw[hp]at k;simp only[mt,if_false,if_true]at k ⊢;obtain⟨K,HM⟩:=az k hm;clear k hm hd hp e1;go_enter Tryz.func278,Tryz.ntmps278
  go_wp2_with fail
  rw[show Utf8.encode 58=qz from by decide +kernel];refine K.out.mono ?_;rintro e w1 ⟨rfl,rfl⟩;go_wp2;go_ret2
  exact⟨rfl,cE.refl _ _,HM.out⟩
theorem AU(mb:Nat)(m:jO)(s:ByteArray)(w:World)(Tz:d9 w)(hm:bf mb m w):Calls Tryz.prog 278 #[.pointer (some ⟨mb,0,none⟩),.int .i32 71,.string s] w λe w'=>e=.returned (.tuple #[.string ⟨(aW m 71 s.data.toList).2.1.toArray⟩,.bool (aW m 71 s.data.toList).2.2])/\cE mb w w'/\bf mb (aW m 71 s.data.toList).1 w':=by
 have hd:aW m 71 s.data.toList=(if Lib.hasPrefix s.data.toList [71]=true then(m,s.data.toList.drop 1,true)else(m,s.data.toList,false)):=by unfold aW;simp
 rw[hd];have k:=Tryz.strings_CutPrefix s ⟨#[71]⟩ w;have e1:(⟨#[71]⟩:ByteArray).data.toList=[71]:=rfl;rw[e1]at k;unfold Lib.trimPrefix at k;rw[show([71]:List UInt8).length=1 from rfl]at k;generalize s.data.toList.drop 1=dr at*
 cases hp:Lib.hasPrefix s.data.toList [71]
 all_goals
  rw[hp]at k;simp only[mt,if_false,if_true]at k ⊢;obtain⟨K,HM⟩:=az k hm;clear k hm hd hp e1;go_enter Tryz.func278,Tryz.ntmps278
  go_wp2_with fail
  rw[show Utf8.encode 71=⟨#[71]⟩from by decide +kernel];refine K.out.mono ?_;rintro e w1 ⟨rfl,rfl⟩;go_wp2;go_ret2
  exact⟨rfl,cE.refl _ _,HM.out⟩
theorem zL(mb:Nat)(m:jO)(s:ByteArray)(w:World)(Tz:d9 w)(hm:bf mb m w):Calls Tryz.prog 278 #[.pointer (some ⟨mb,0,none⟩),.int .i32 77,.string s] w λe w'=>e=.returned (.tuple #[.string ⟨(aW m 77 s.data.toList).2.1.toArray⟩,.bool (aW m 77 s.data.toList).2.2])/\cE mb w w'/\bf mb (aW m 77 s.data.toList).1 w':=by
 have hd:aW m 77 s.data.toList=(if Lib.hasPrefix s.data.toList [77]=true then(m,s.data.toList.drop 1,true)else(m,s.data.toList,false)):=by unfold aW;simp
 rw[hd];have k:=Tryz.strings_CutPrefix s ⟨#[77]⟩ w;have e1:(⟨#[77]⟩:ByteArray).data.toList=[77]:=rfl;rw[e1]at k;unfold Lib.trimPrefix at k;rw[show([77]:List UInt8).length=1 from rfl]at k;generalize s.data.toList.drop 1=dr at*
 cases hp:Lib.hasPrefix s.data.toList [77]
 all_goals
  rw[hp]at k;simp only[mt,if_false,if_true]at k ⊢;obtain⟨K,HM⟩:=az k hm;clear k hm hd hp e1;go_enter Tryz.func278,Tryz.ntmps278
  go_wp2_with fail
  rw[show Utf8.encode 77=⟨#[77]⟩from by decide +kernel];refine K.out.mono ?_;rintro e w1 ⟨rfl,rfl⟩;go_wp2;go_ret2
  exact⟨rfl,cE.refl _ _,HM.out⟩
theorem yG(mb:Nat)(m:jO)(s:ByteArray)(w:World)(Tz:d9 w)(hm:bf mb m w):Calls Tryz.prog 278 #[.pointer (some ⟨mb,0,none⟩),.int .i32 84,.string s] w λe w'=>e=.returned (.tuple #[.string ⟨(aW m 84 s.data.toList).2.1.toArray⟩,.bool (aW m 84 s.data.toList).2.2])/\cE mb w w'/\bf mb (aW m 84 s.data.toList).1 w':=by
 have hd:aW m 84 s.data.toList=(if Lib.hasPrefix s.data.toList [84]=true then(m,s.data.toList.drop 1,true)else(m,s.data.toList,false)):=by unfold aW;simp
 rw[hd];have k:=Tryz.strings_CutPrefix s ⟨#[84]⟩ w;have e1:(⟨#[84]⟩:ByteArray).data.toList=[84]:=rfl;rw[e1]at k;unfold Lib.trimPrefix at k;rw[show([84]:List UInt8).length=1 from rfl]at k;generalize s.data.toList.drop 1=dr at*
 cases hp:Lib.hasPrefix s.data.toList [84]
 all_goals
  rw[hp]at k;simp only[mt,if_false,if_true]at k ⊢;obtain⟨K,HM⟩:=az k hm;clear k hm hd hp e1;go_enter Tryz.func278,Tryz.ntmps278
  go_wp2_with fail
  rw[show Utf8.encode 84=⟨#[84]⟩from by decide +kernel];refine K.out.mono ?_;rintro e w1 ⟨rfl,rfl⟩;go_wp2;go_ret2
  exact⟨rfl,cE.refl _ _,HM.out⟩
theorem zo(mb:Nat)(m:jO)(s:ByteArray)(w:World)(Tz:d9 w)(hm:bf mb m w):Calls Tryz.prog 278 #[.pointer (some ⟨mb,0,none⟩),.int .i32 45,.string s] w λe w'=>e=.returned (.tuple #[.string ⟨(aW m 45 s.data.toList).2.1.toArray⟩,.bool (aW m 45 s.data.toList).2.2])/\cE mb w w'/\bf mb (aW m 45 s.data.toList).1 w':=by
 have hd:aW m 45 s.data.toList=(if Lib.hasPrefix s.data.toList [45]=true then(m,s.data.toList.drop 1,true)else(m,s.data.toList,false)):=by unfold aW;simp
 rw[hd];have k:=Tryz.strings_CutPrefix s ⟨#[45]⟩ w;have e1:(⟨#[45]⟩:ByteArray).data.toList=[45]:=rfl;rw[e1]at k;unfold Lib.trimPrefix at k;rw[show([45]:List UInt8).length=1 from rfl]at k;generalize s.data.toList.drop 1=dr at*
 cases hp:Lib.hasPrefix s.data.toList [45]
 all_goals
  rw[hp]at k;simp only[mt,if_false,if_true]at k ⊢;obtain⟨K,HM⟩:=az k hm;clear k hm hd hp e1;go_enter Tryz.func278,Tryz.ntmps278
  go_wp2_with fail
  rw[show Utf8.encode 45=⟨#[45]⟩from by decide +kernel];refine K.out.mono ?_;rintro e w1 ⟨rfl,rfl⟩;go_wp2;go_ret2
  exact⟨rfl,cE.refl _ _,HM.out⟩
theorem xX(mb:Nat)(m:jO)(s:ByteArray)(w:World)(Tz:d9 w)(hm:bf mb m w):Calls Tryz.prog 278 #[.pointer (some ⟨mb,0,none⟩),.int .i32 69,.string s] w λe w'=>e=.returned (.tuple #[.string ⟨(aW m 69 s.data.toList).2.1.toArray⟩,.bool (aW m 69 s.data.toList).2.2])/\cE mb w w'/\bf mb (aW m 69 s.data.toList).1 w':=by
 have hd:aW m 69 s.data.toList=(if Lib.hasPrefix s.data.toList [32]=true then({ m with day:=(cn (s.data.toList.drop 1) 1).1 },(cn (s.data.toList.drop 1) 1).2)else({ m with day:=(cn s.data.toList 2).1 },(cn s.data.toList 2).2)):=by unfold aW;simp
 rw[hd];have k:=Tryz.strings_CutPrefix s gY w;have e1:(gY:ByteArray).data.toList=[32]:=rfl;rw[e1]at k;unfold Lib.trimPrefix at k;rw[show([32]:List UInt8).length=1 from rfl]at k;have n1:=eP ⟨(s.data.toList.drop 1).toArray⟩ 1 (by decide) w;rw[show((1:Nat):Int)=1 from rfl]at n1;have n2:=eP s 2 (by decide) w;rw[show((2:Nat):Int)=2 from rfl]at n2;have e2:(⟨(s.data.toList.drop 1).toArray⟩:ByteArray).data.toList=s.data.toList.drop 1:=by simp
 rw[e2]at n1;generalize s.data.toList.drop 1=dr at*;generalize cn dr 1=r1 at*;generalize cn s.data.toList 2=r2 at*;obtain⟨v1,rest1,ZE⟩:=r1;obtain⟨v2,Tl,ZV⟩:=r2;simp only at n1 n2 ⊢
 obtain⟨c0,c1,c2,c3,c4,c5,c6,c7,hf⟩:=hm.cells;have f1:=hf 1;obtain⟨N1,N2,HM⟩:=bu n1 n2 hm;clear n1 n2 hm hd hf e1 e2
 cases hp:Lib.hasPrefix s.data.toList [32]
 ·rw[hp]at k;simp only[mt,if_false]at k ⊢;have K:=ah k;clear k hp;go_enter Tryz.func278,Tryz.ntmps278
  go_wp2_with fail
  refine K.out.mono ?_;rintro e w1 ⟨rfl,rfl⟩;go_wp2_with fail
  refine N2.out.mono ?_;rintro e w2 ⟨rfl,q,rfl⟩;go_wp2;go_ret2
  exact⟨rfl,cE.set mb 1 q _ _,HM.out.set1 (q:=q) v2⟩
 ·rw[hp]at k;simp only[if_true]at k ⊢;have K:=ah k;clear k hp;go_enter Tryz.func278,Tryz.ntmps278
  go_wp2_with fail
  refine K.out.mono ?_;rintro e w1 ⟨rfl,rfl⟩;go_wp2_with fail
  refine N1.out.mono ?_;rintro e w2 ⟨rfl,q,rfl⟩;go_wp2;go_ret2
  exact⟨rfl,cE.set mb 1 q _ _,HM.out.set1 (q:=q) v1⟩
theorem lK:∀(l sub:List UInt8),-1<=Lib.index l sub/\Lib.index l sub<=l.length
 | [],sub=>by unfold Lib.index;split<;>simp
 |b::l,sub=>by
  have ih:=lK l sub;rw[Lib.index,cg];split
  ·omega
  ·split<;>omega
theorem xH(mb:Nat)(m:jO)(s:ByteArray)(w:World)(hE:d9 w)(hm:bf mb m w):Calls Tryz.prog 278 #[.pointer (some ⟨mb,0,none⟩),.int .i32 109,.string s] w λe w'=>e=.returned (.tuple #[.string ⟨(aW m 109 s.data.toList).2.1.toArray⟩,.bool (aW m 109 s.data.toList).2.2])/\cE mb w w'/\bf mb (aW m 109 s.data.toList).1 w':=by
 have SA:=lK gy (s.data.toList.take 3);have SN:gy.length=36:=rfl;rw[SN]at SA;have hd:aW m 109 s.data.toList=(if s.data.toList.length<3\/Lib.index gy (s.data.toList.take 3)<0\/Lib.index gy (s.data.toList.take 3) % 3≠0 then(m,[],false)else({ m with month:=Lib.index gy (s.data.toList.take 3) / 3+1 },s.data.toList.drop 3,true)):=by unfold aW;simp
 rw[hd];obtain⟨c0,c1,c2,c3,c4,c5,c6,c7,hf⟩:=hm.cells;have f2:=hf 2;obtain⟨_,mx,hmx⟩:=hE.1;have hex:(s.extract 0 3).data.toList=s.data.toList.take 3:=by rw[eD];simp
 have k:=Tryz.strings_Index Li (s.extract 0 3) mx w (by decide) hmx;rw[hex,show(Li:ByteArray).data.toList=gy from rfl]at k;rw[<-aY]
 have QC:s.extract 3 s.size=⟨(s.data.toList.drop 3).toArray⟩:=by
  apply dE
  rw[eD];have:(s.data.toList.drop 3).length<=s.size-3:=by rw[gH,<-aY];omega
  rw[jJ this]
 obtain⟨HDR,HM⟩:=az QC hm;clear hd hex hmx hf hm hE QC SN;generalize Lib.index gy (s.data.toList.take 3)=at_ at*;have K:=ah k;clear k;by_cases h3:s.size<3
 ·have t1:decide ((s.size:Int)>=3)=false:=by simp;omega
  rw[if_pos (Or.inl h3)];go_enter Tryz.func278,Tryz.ntmps278
  go_wp2;go_ret2
  exact⟨rfl,cE.refl _ _,HM.out⟩
 ·have t1:decide ((s.size:Int)>=3)=true:=by simp;omega
  have h3':3<=s.size:=by omega
  by_cases hneg:at_<0
  ·rw[if_pos (Or.inr (Or.inl hneg))];have t2:decide (at_<0)=true:=by simpa using hneg
   go_enter Tryz.func278,Tryz.ntmps278
   go_wp2_with fail
   refine K.out.mono ?_;rintro e w1 ⟨rfl,rfl⟩;go_wp2;go_ret2
   exact⟨rfl,cE.refl _ _,HM.out⟩
  ·have t2:decide (at_<0)=false:=by simpa using hneg
   have em:at_.tmod 3=at_ % 3:=uS (by omega);have ed:at_.tdiv 3=at_ / 3:=Int.tdiv_eq_ediv_of_nonneg (by omega);by_cases Xv:at_ % 3=0
   ·rw[if_neg (by omega)];obtain⟨q3,hq3⟩:=aH (at_ / 3);have hq4:0<=q3/\q3<=12:=by omega
    rw[hq3]at ed ⊢;have w1':IntKind.i64.wrap q3=q3:=by rw[b_];omega
    have w2':IntKind.i64.wrap (q3+1)=q3+1:=by rw[b_];omega
    clear hq3;go_enter Tryz.func278,Tryz.ntmps278
    go_wp2_with fail
    refine K.out.mono ?_;rintro e w1 ⟨rfl,rfl⟩;go_wp2;go_region
    go_wp2;go_ret2
    exact⟨by rw[<-HDR.out];rfl,cE.set mb 2 1 _ _,HM.out.set2 (q:=1) _⟩
   ·rw[if_pos (Or.inr (Or.inr Xv))];go_enter Tryz.func278,Tryz.ntmps278
    go_wp2_with fail
    refine K.out.mono ?_;rintro e w1 ⟨rfl,rfl⟩;go_wp2;go_ret2
    exact⟨rfl,cE.refl _ _,HM.out⟩
structure qJ(m:jO):Prop where
 wd:0<=m.wd/\m.wd<=6
 day:0<=m.day/\m.day<=9999
 month:0<=m.month/\m.month<=13
 year:0<=m.year/\m.year<=9999
 hour:0<=m.hour/\m.hour<=9999
 minute:0<=m.minute/\m.minute<=9999
 second:0<=m.second/\m.second<=9999
 two:m.two=true->m.year<=99
theorem px(y m:Int):28<=gX y m/\gX y m<=31:=by
 unfold gX;split
 ·split<;>omega
 ·split<;>omega
theorem tT(y:Int):∀k,0<=iX y k/\iX y k<=31*k
 |0=>by simp[iX]
 |k+1=>by
  have ih:=tT y k;have:=px y (k+1);rw[iX];omega
theorem rI:∀(f:Nat)(d y:Int),y<=kG f d y/\kG f d y<=y+f
 |0,d,y=>by rw[kG];omega
 |f+1,d,y=>by
  rw[kG];split
  ·have:=rI f d (y+1);omega
  ·omega
theorem cE.drewN(h:cE mb w w')(q:Nat):cE mb w (w'.drewN q):=h
def Ba(mb:Nat)(w:World)(r:Int × Bool)(e:Ending)(w':World):Prop:=e=.returned (.tuple #[.int .i64 r.1,.bool r.2])/\cE mb w w'
theorem Lp{m:jO}{now:Int}(ho:qJ m):0<=ul m now/\ul m now<=100000:=by
 have hy:=ho.year;unfold ul;split
 ·have hyg:=rI 9000 (rL now) (1970+rL now / 366);have hd:0<=rL now/\rL now<=3000000:=by unfold rL;omega
  have h1:(lO (rL now)).1=kG 9000 (rL now) (1970+rL now / 366):=rfl;rw[h1];omega
 ·omega
theorem Ei(mb:Nat)(m:jO)(now:Int)(w:World)(hm:bf mb m w)(ho:qJ m):Calls Tryz.prog 279 #[.pointer (some ⟨mb,0,none⟩),.int .i64 now] w (Ba mb w (gI m now)):=by
 obtain⟨R,hR⟩:=aH (gI m now);rw[hR];have hYb:=Lp (now:=now) ho;obtain⟨Y,hy⟩:=aH (ul m now);rw[hy]at hYb;obtain⟨c0,c1,c2,c3,c4,c5,c6,c7,hf⟩:=hm.cells;obtain⟨Rt,HY,HO,HM⟩:=bK hR hy ho hm;obtain⟨ow1,ow2⟩:=ho.wd;obtain⟨od1,od2⟩:=ho.day;obtain⟨om1,om2⟩:=ho.month;obtain⟨oh1,oh2⟩:=ho.hour;obtain⟨on1,on2⟩:=ho.minute;obtain⟨os1,os2⟩:=ho.second;have f3:=hf 3;obtain⟨tw,T4⟩:=aH m.two;rw[T4]at c7;have HTW:=ah T4;clear hR hy hm hf T4;go_enter Tryz.func279,Tryz.ntmps279
 go_upto_if 14 with(fail)
 go_cut [] (λwx=>bf mb { m with year:=Y } wx/\cE mb w wx)
 case first=>
  cases tw
  rotate_left
  ·have h2:=HTW.out;obtain⟨dn,ZD⟩:=aH (max 0 (min now 253402300799) / 86400);have hdn0:rL now=dn:=ZD;have hdnb:0<=dn/\dn<=3000000:=by omega
   have hwq:IntKind.i64.wrap dn=dn:=by rw[b_];omega
   have HDN:=ah ZD;have ky:=Fq dn hdnb w;have hyg:=rI 9000 dn (1970+dn / 366);obtain⟨YY,hYY⟩:=aH (kG 9000 dn (1970+dn / 366));have hyo:(lO dn).1=YY:=hYY;rw[hyo]at ky;rw[hYY]at hyg;generalize (lO dn).2=rst at*;have Nz:=ho.two h2;obtain⟨oy1,oy2⟩:=ho.year;have hYb0:1970<=YY/\YY<=30000:=by omega
   have hY:(YY+50)-((YY+50)-m.year) % 100=Y:=by rw[<-HY.out];unfold ul;rw[if_pos h2,hdn0,hyo]
   have em0:((YY+50)-m.year).tmod 100=((YY+50)-m.year) % 100:=uS (by omega);obtain⟨md,hmd⟩:=aH (((YY+50)-m.year) % 100);rw[hmd]at em0 hY;have w1:IntKind.i64.wrap (YY+50)=YY+50:=by rw[b_];omega
   have w2:IntKind.i64.wrap (YY+50-m.year)=YY+50-m.year:=by rw[b_];omega
   have w3:IntKind.i64.wrap (YY+50-md)=YY+50-md:=by rw[b_];omega
   obtain⟨KY,HYE⟩:=az ky hY;clear ho h2 HTW hY hdn0 ZD hyg hYY hyo hmd ky;go_wp2_with fail
   rw[HDN.out];refine KY.out.mono ?_;rintro e wy ⟨rfl,rfl⟩;go_wp2_with fail
   rw[HYE.out];go_meet;exact⟨HM.out.set3 (q:=0) Y,cE.set mb 3 0 wy _⟩
  ·have h2:=HTW.out;clear HTW;go_wp2_with fail
   go_meet;have hY:m.year=Y:=by rw[<-HY.out];unfold ul;rw[h2];rfl
   refine⟨?_,cE.refl _ _⟩;rw[<-hY];exact HM.out
 case rest=>
 obtain⟨Xv,Na⟩:=hcut;clear HTW;clear c0 c1 c2 c3 c4 c5 c6 c7 f3;obtain⟨WZ,rfl⟩:∃W,W=wc:=⟨_,rfl⟩;obtain⟨c0,c1,c2,c3,c4,c5,c6,c7,_⟩:=Xv.cells;simp only at c0 c1 c2 c3 c4 c5 c6 c7
 have WY:=ah Na;clear Xv Na ho;have kl:=λw'=>vJ Y m.month hYb w'
 have KL:=ah kl;clear kl;have Vq:=px Y m.month;by_cases q1:Y<1970
 ·have N3:R=(0,false):=by rw[<-Rt.out];unfold gI;rw[HY.out,if_pos (Or.inl q1)]
  have HR:=ah N3.symm;clear N3;have t1:decide (Y<1970)=true:=by simpa using q1
  go_wp2;go_region
  go_wp2;go_ret2
  exact⟨by rw[<-HR.out];rfl,WY.out.drewN 1⟩
 have t1:decide (Y<1970)=false:=by simpa using q1
 by_cases q2:Y>9999
 ·have N3:R=(0,false):=by rw[<-Rt.out];unfold gI;rw[HY.out,if_pos (Or.inr (Or.inl q2))]
  have HR:=ah N3.symm;clear N3;have t2:decide (Y>9999)=true:=by simpa using q2
  go_wp2;go_region
  go_wp2;go_ret2
  exact⟨by rw[<-HR.out];rfl,WY.out.drewN 1⟩
 have t2:decide (Y>9999)=false:=by simpa using q2
 by_cases q3:m.day<1
 ·have N3:R=(0,false):=by rw[<-Rt.out];unfold gI;rw[HY.out,if_pos (Or.inr (Or.inr (Or.inl q3)))]
  have HR:=ah N3.symm;clear N3;have t3:decide (m.day<1)=true:=by simpa using q3
  go_wp2;go_region
  go_wp2;go_ret2
  exact⟨by rw[<-HR.out];rfl,WY.out.drewN 1⟩
 have t3:decide (m.day<1)=false:=by simpa using q3
 by_cases q4:m.day>gX Y m.month
 ·have N3:R=(0,false):=by rw[<-Rt.out];unfold gI;rw[HY.out,if_pos (Or.inr (Or.inr (Or.inr (Or.inl q4))))]
  have HR:=ah N3.symm;clear N3;have t4:decide (m.day>gX Y m.month)=true:=by simpa using q4
  go_wp2;refine wp_region_held_drew (S:=(λw'=>w'.cell? ⟨mb,1,none⟩=some (.int .i64 m.day)/\w'.cell? ⟨mb,2,none⟩=some (.int .i64 m.month)/\w'.cell? ⟨mb,3,none⟩=some (.int .i64 Y)/\w'.cell? ⟨mb,4,none⟩=some (.int .i64 m.hour)/\w'.cell? ⟨mb,5,none⟩=some (.int .i64 m.minute)/\w'.cell? ⟨mb,6,none⟩=some (.int .i64 m.second))) (by kernel_rfl) (⟨c1,c2,c3,c4,c5,c6⟩) (λM7=>?_);refine aX 0 1 2 3 M7 ?_;refine aX 4 5 6 7 M7 ?_;refine aX 8 9 10 11 M7 ?_;refine aX 12 13 14 15 M7 ?_;refine aX 16 17 18 19 M7 ?_;refine aX 20 21 22 23 M7 ?_;refine aX 24 25 26 27 M7 ?_;refine aX 28 29 30 31 M7 ?_;refine cL 32 λK hK=>?_
  go_simp;refine(KL.out _).mono ?_;rintro e wl ⟨rfl,rfl⟩;go_wp2_with fail
  refine hK.out _ _ M7 (λM7=>?_);clear hK K;refine eC 33 34 M7 ?_;refine fM 35 M7 ?_;refine dO 36 M7 ?_;refine dO 37 M7 ?_;refine dO 38 M7 ?_;refine dO 39 M7 ?_;refine dO 40 M7 ?_;refine eC 41 42 M7 ?_;refine dO 43 M7 ?_;refine dO 44 M7 ?_;refine dO 45 M7 ?_;refine dO 46 M7 ?_;refine dO 47 M7 ?_;refine eC 48 49 M7 ?_;refine dO 50 M7 ?_;refine dO 51 M7 ?_;refine dO 52 M7 ?_;refine dO 53 M7 ?_;refine dO 54 M7 ?_;refine fM 55 M7 ?_;refine wpAnyH_done (by kernel_rfl) ?_ _;clear M7;go_wp2;go_ret2
  exact⟨by rw[<-HR.out];rfl,WY.out.drewN 1⟩
 have t4:decide (m.day>gX Y m.month)=false:=by simpa using q4
 by_cases q5:m.hour>23
 ·have N3:R=(0,false):=by rw[<-Rt.out];unfold gI;rw[HY.out,if_pos (Or.inr (Or.inr (Or.inr (Or.inr (Or.inl q5)))))]
  have HR:=ah N3.symm;clear N3;have t5:decide (m.hour>23)=true:=by simpa using q5
  go_wp2;refine wp_region_held_drew (S:=(λw'=>w'.cell? ⟨mb,1,none⟩=some (.int .i64 m.day)/\w'.cell? ⟨mb,2,none⟩=some (.int .i64 m.month)/\w'.cell? ⟨mb,3,none⟩=some (.int .i64 Y)/\w'.cell? ⟨mb,4,none⟩=some (.int .i64 m.hour)/\w'.cell? ⟨mb,5,none⟩=some (.int .i64 m.minute)/\w'.cell? ⟨mb,6,none⟩=some (.int .i64 m.second))) (by kernel_rfl) (⟨c1,c2,c3,c4,c5,c6⟩) (λM7=>?_);refine aX 0 1 2 3 M7 ?_;refine aX 4 5 6 7 M7 ?_;refine aX 8 9 10 11 M7 ?_;refine aX 12 13 14 15 M7 ?_;refine aX 16 17 18 19 M7 ?_;refine aX 20 21 22 23 M7 ?_;refine aX 24 25 26 27 M7 ?_;refine aX 28 29 30 31 M7 ?_;refine cL 32 λK hK=>?_
  go_simp;refine(KL.out _).mono ?_;rintro e wl ⟨rfl,rfl⟩;go_wp2_with fail
  refine hK.out _ _ M7 (λM7=>?_);clear hK K;refine aX 33 34 35 36 M7 ?_;refine aX 37 38 39 40 M7 ?_;refine eC 41 42 M7 ?_;refine dO 43 M7 ?_;refine dO 44 M7 ?_;refine dO 45 M7 ?_;refine dO 46 M7 ?_;refine dO 47 M7 ?_;refine eC 48 49 M7 ?_;refine dO 50 M7 ?_;refine dO 51 M7 ?_;refine dO 52 M7 ?_;refine dO 53 M7 ?_;refine dO 54 M7 ?_;refine fM 55 M7 ?_;refine wpAnyH_done (by kernel_rfl) ?_ _;clear M7;go_wp2;go_ret2
  exact⟨by rw[<-HR.out];rfl,WY.out.drewN 1⟩
 have t5:decide (m.hour>23)=false:=by simpa using q5
 by_cases q6:m.minute>59
 ·have N3:R=(0,false):=by rw[<-Rt.out];unfold gI;rw[HY.out,if_pos (Or.inr (Or.inr (Or.inr (Or.inr (Or.inr (Or.inl q6))))))]
  have HR:=ah N3.symm;clear N3;have t6:decide (m.minute>59)=true:=by simpa using q6
  go_wp2;refine wp_region_held_drew (S:=(λw'=>w'.cell? ⟨mb,1,none⟩=some (.int .i64 m.day)/\w'.cell? ⟨mb,2,none⟩=some (.int .i64 m.month)/\w'.cell? ⟨mb,3,none⟩=some (.int .i64 Y)/\w'.cell? ⟨mb,4,none⟩=some (.int .i64 m.hour)/\w'.cell? ⟨mb,5,none⟩=some (.int .i64 m.minute)/\w'.cell? ⟨mb,6,none⟩=some (.int .i64 m.second))) (by kernel_rfl) (⟨c1,c2,c3,c4,c5,c6⟩) (λM7=>?_);refine aX 0 1 2 3 M7 ?_;refine aX 4 5 6 7 M7 ?_;refine aX 8 9 10 11 M7 ?_;refine aX 12 13 14 15 M7 ?_;refine aX 16 17 18 19 M7 ?_;refine aX 20 21 22 23 M7 ?_;refine aX 24 25 26 27 M7 ?_;refine aX 28 29 30 31 M7 ?_;refine cL 32 λK hK=>?_
  go_simp;refine(KL.out _).mono ?_;rintro e wl ⟨rfl,rfl⟩;go_wp2_with fail
  refine hK.out _ _ M7 (λM7=>?_);clear hK K;refine aX 33 34 35 36 M7 ?_;refine aX 37 38 39 40 M7 ?_;refine aX 41 42 43 44 M7 ?_;refine aX 45 46 47 48 M7 ?_;refine fM 49 M7 ?_;refine dO 50 M7 ?_;refine dO 51 M7 ?_;refine dO 52 M7 ?_;refine dO 53 M7 ?_;refine dO 54 M7 ?_;refine fM 55 M7 ?_;refine wpAnyH_done (by kernel_rfl) ?_ _;clear M7;go_wp2;go_ret2
  exact⟨by rw[<-HR.out];rfl,WY.out.drewN 1⟩
 have t6:decide (m.minute>59)=false:=by simpa using q6
 by_cases q7:m.second>59
 ·have N3:R=(0,false):=by rw[<-Rt.out];unfold gI;rw[HY.out,if_pos (Or.inr (Or.inr (Or.inr (Or.inr (Or.inr (Or.inr q7))))))]
  have HR:=ah N3.symm;clear N3;have t7:decide (m.second>59)=true:=by simpa using q7
  go_wp2;refine wp_region_held_drew (S:=(λw'=>w'.cell? ⟨mb,1,none⟩=some (.int .i64 m.day)/\w'.cell? ⟨mb,2,none⟩=some (.int .i64 m.month)/\w'.cell? ⟨mb,3,none⟩=some (.int .i64 Y)/\w'.cell? ⟨mb,4,none⟩=some (.int .i64 m.hour)/\w'.cell? ⟨mb,5,none⟩=some (.int .i64 m.minute)/\w'.cell? ⟨mb,6,none⟩=some (.int .i64 m.second))) (by kernel_rfl) (⟨c1,c2,c3,c4,c5,c6⟩) (λM7=>?_);refine aX 0 1 2 3 M7 ?_;refine aX 4 5 6 7 M7 ?_;refine aX 8 9 10 11 M7 ?_;refine aX 12 13 14 15 M7 ?_;refine aX 16 17 18 19 M7 ?_;refine aX 20 21 22 23 M7 ?_;refine aX 24 25 26 27 M7 ?_;refine aX 28 29 30 31 M7 ?_;refine cL 32 λK hK=>?_
  go_simp;refine(KL.out _).mono ?_;rintro e wl ⟨rfl,rfl⟩;go_wp2_with fail
  refine hK.out _ _ M7 (λM7=>?_);clear hK K;refine aX 33 34 35 36 M7 ?_;refine aX 37 38 39 40 M7 ?_;refine aX 41 42 43 44 M7 ?_;refine aX 45 46 47 48 M7 ?_;refine aX 49 50 51 52 M7 ?_;refine eC 53 54 M7 ?_;refine fM 55 M7 ?_;refine wpAnyH_done (by kernel_rfl) ?_ _;clear M7;go_wp2;go_ret2
  exact⟨by rw[<-HR.out];rfl,WY.out.drewN 1⟩
 have t7:decide (m.second>59)=false:=by simpa using q7
 have hRt:R=if(dQ Y+m.day-1+iX Y (m.month.toNat-1)) % 7≠m.wd then(0,false)else((dQ Y+m.day-1+iX Y (m.month.toNat-1))*86400+m.hour*3600+m.minute*60+m.second,true):=by rw[<-Rt.out];unfold gI;rw[HY.out,if_neg (by omega)]
 have Vi:=ah hRt;clear hRt;go_wp2;refine wp_region_held_drew (S:=(λw'=>w'.cell? ⟨mb,1,none⟩=some (.int .i64 m.day)/\w'.cell? ⟨mb,2,none⟩=some (.int .i64 m.month)/\w'.cell? ⟨mb,3,none⟩=some (.int .i64 Y)/\w'.cell? ⟨mb,4,none⟩=some (.int .i64 m.hour)/\w'.cell? ⟨mb,5,none⟩=some (.int .i64 m.minute)/\w'.cell? ⟨mb,6,none⟩=some (.int .i64 m.second))) (by kernel_rfl) (⟨c1,c2,c3,c4,c5,c6⟩) (λM7=>?_);refine aX 0 1 2 3 M7 ?_;refine aX 4 5 6 7 M7 ?_;refine aX 8 9 10 11 M7 ?_;refine aX 12 13 14 15 M7 ?_;refine aX 16 17 18 19 M7 ?_;refine aX 20 21 22 23 M7 ?_;refine aX 24 25 26 27 M7 ?_;refine aX 28 29 30 31 M7 ?_;refine cL 32 λK hK=>?_
 go_simp;refine(KL.out _).mono ?_;rintro e wl ⟨rfl,rfl⟩;go_wp2_with fail
 refine hK.out _ _ M7 (λM7=>?_);clear hK K;refine aX 33 34 35 36 M7 ?_;refine aX 37 38 39 40 M7 ?_;refine aX 41 42 43 44 M7 ?_;refine aX 45 46 47 48 M7 ?_;refine aX 49 50 51 52 M7 ?_;refine eC 53 54 M7 ?_;refine fM 55 M7 ?_;refine wpAnyH_done (by kernel_rfl) ?_ _;clear M7;have ka:=λw'=>oz Y (by omega) w'
 have Rj:=jy Y (by omega);have KA:=ah ka;clear ka;obtain⟨AH,hAH⟩:=aH (dQ Y);rw[hAH]at KA Rj;have HAH:=ah hAH;clear hAH;have v1:IntKind.i64.wrap (AH+m.day)=AH+m.day:=by rw[b_];omega
 have v2:IntKind.i64.wrap (AH+m.day-1)=AH+m.day-1:=by rw[b_];omega
 go_wp2_with fail
 refine wp_region_held_drew (S:=(λw'=>w'.cell? ⟨mb,0,none⟩=some (.int .i64 m.wd)/\w'.cell? ⟨mb,1,none⟩=some (.int .i64 m.day)/\w'.cell? ⟨mb,2,none⟩=some (.int .i64 m.month)/\w'.cell? ⟨mb,3,none⟩=some (.int .i64 Y)/\w'.cell? ⟨mb,4,none⟩=some (.int .i64 m.hour)/\w'.cell? ⟨mb,5,none⟩=some (.int .i64 m.minute)/\w'.cell? ⟨mb,6,none⟩=some (.int .i64 m.second))) (by kernel_rfl) (⟨c0,c1,c2,c3,c4,c5,c6⟩) (λM7=>?_);refine aX 0 1 2 3 M7 ?_;refine aX 5 6 7 8 M7 ?_;refine cL 4 λK hK=>?_
 go_simp;refine(KA.out _).mono ?_;rintro e wl ⟨rfl,rfl⟩;go_wp2_with fail
 refine hK.out _ _ M7 (λM7=>?_);clear hK K;refine eC 9 10 M7 ?_;refine fM 11 M7 ?_;refine wpAnyH_done (by kernel_rfl) ?_ _;clear M7;go_wp2_with fail
 go_loopw [9,10] (λd k wr=>∃j:Nat,k=.int .i64 ((j:Int)+1)/\j<=m.month.toNat-1/\d=.int .i64 (AH+m.day-1+iX Y j)/\∃q,wr=WZ.drewN q) (λ_ k _=>20-(o9 k).toNat)
 case atStart=>exact⟨0,rfl,a_ _,by simp[iX],2,rfl⟩
 case round=>
  obtain⟨j,rfl,hj,rfl,q,rfl⟩:=hrel;have hdm:=tT Y j;have hj12:j<=12:=by omega
  by_cases hjm:(j:Int)+1<m.month
  ·have t8:decide ((j:Int)+1<m.month)=true:=by simpa using hjm
   have kj:=vJ Y ((j:Int)+1) hYb (WZ.drewN q);have Qd:=px Y ((j:Int)+1);have ZD:iX Y (j+1)=iX Y j+gX Y ((j:Int)+1):=rfl;have u1:IntKind.i64.wrap (AH+m.day-1+iX Y j+gX Y ((j:Int)+1))=AH+m.day-1+iX Y j+gX Y ((j:Int)+1):=by rw[b_];omega
   have u2:IntKind.i64.wrap ((j:Int)+1+1)=(j:Int)+1+1:=by rw[b_];omega
   obtain⟨KJ,HDN⟩:=az kj ZD;clear kj ZD;go_wp2_with fail
   refine KJ.out.mono ?_;rintro e wl ⟨rfl,rfl⟩;go_wp2;go_roundw
   case rel=>exact⟨j+1,rfl,by omega,by rw[HDN.out,<-Int.add_assoc],q,rfl⟩
   case measure=>simp[o9];omega
  ·have t8:decide ((j:Int)+1<m.month)=false:=by simpa using hjm
   have Xj:j=m.month.toNat-1:=by omega
   obtain⟨D,hD⟩:=aH (AH+m.day-1+iX Y j);have hDb:0<=D/\D<=10000000:=by omega
   have hRD:R=if D % 7≠m.wd then(0,false)else(D*86400+m.hour*3600+m.minute*60+m.second,true):=by rw[Vi.out,HAH.out,<-Xj,hD]
   have em:D.tmod 7=D % 7:=uS hDb.1;rw[hD];have St:=ah hRD;have HBE:=ah (WY.out.drewN q);clear Xj hRD hD hdm hj Vi;by_cases hwd:D % 7=m.wd
   ·have N3:R=(D*86400+m.hour*3600+m.minute*60+m.second,true):=by rw[St.out,if_neg (by simpa using hwd)]
    have b1:(D % 7==m.wd)=true:=by simpa using hwd
    have x1:IntKind.i64.wrap (D*86400)=D*86400:=by rw[b_];omega
    have x2:IntKind.i64.wrap (m.hour*3600)=m.hour*3600:=by rw[b_];omega
    have x3:IntKind.i64.wrap (D*86400+m.hour*3600)=D*86400+m.hour*3600:=by rw[b_];omega
    have x4:IntKind.i64.wrap (m.minute*60)=m.minute*60:=by rw[b_];omega
    have x5:IntKind.i64.wrap (D*86400+m.hour*3600+m.minute*60)=D*86400+m.hour*3600+m.minute*60:=by rw[b_];omega
    have x6:IntKind.i64.wrap (D*86400+m.hour*3600+m.minute*60+m.second)=D*86400+m.hour*3600+m.minute*60+m.second:=by rw[b_];omega
    have Pk:=ah N3;clear N3;go_wp2;go_region
    go_wp2;go_ret2
    exact⟨by rw[Pk.out];rfl,HBE.out.drewN 1⟩
   ·have N3:R=(0,false):=by rw[St.out,if_pos hwd]
    have b1:(D % 7==m.wd)=false:=by simpa using hwd
    have Pk:=ah N3;clear N3;go_wp2;go_ret2
    exact⟨by rw[Pk.out];rfl,HBE.out⟩
def iV:List Nat:=[119,87,68,69,109,89,121,72,73,83,44,32,58,71,77,84,45]
theorem ED(c:Nat)(hc:c∈iV)(mb:Nat)(m:jO)(s:ByteArray)(w:World)(hE:d9 w)(hm:bf mb m w):Calls Tryz.prog 278 #[.pointer (some ⟨mb,0,none⟩),.int .i32 c,.string s] w λe w'=>e=.returned (.tuple #[.string ⟨(aW m c s.data.toList).2.1.toArray⟩,.bool (aW m c s.data.toList).2.2])/\cE mb w w'/\bf mb (aW m c s.data.toList).1 w':=by
 unfold iV at hc;simp only[cZ,List.not_mem_nil,or_false]at hc;rcases hc with rfl|rfl|rfl|rfl|rfl|rfl|rfl|rfl|rfl|rfl|rfl|rfl|rfl|rfl|rfl|rfl|rfl
 ·exact wz mb m s w hE hm
 ·exact Af mb m s w hE hm
 ·exact AA mb m s w hE hm
 ·exact xX mb m s w hE hm
 ·exact xH mb m s w hE hm
 ·exact Bg mb m s w hE hm
 ·exact xi mb m s w hE hm
 ·exact zH mb m s w hE hm
 ·exact Ap mb m s w hE hm
 ·exact Bd mb m s w hE hm
 ·exact AW mb m s w hE hm
 ·exact AO mb m s w hE hm
 ·exact yW mb m s w hE hm
 ·exact AU mb m s w hE hm
 ·exact zL mb m s w hE hm
 ·exact yG mb m s w hE hm
 ·exact zo mb m s w hE hm
def jK(w:World)(ib:Nat)(s:ByteArray)(p:Nat):World:={ w with heap:=w.heap.setIfInBounds ib (.stringIter s p) }
theorem Bl{P:Program}(w:World)(ib:Nat)(s:ByteArray)(pos:Nat)(ty:TypeId)(hi:w.heap[ib]?=some (.stringIter s pos))(h:pos<s.size)(ha:(s[pos]'h).toNat<128):(Instr.next (.pointer (some ⟨ib,0,none⟩)) true ty).run P w=.ok (.tuple #[.bool true,.int .i64 pos,.int .i32 (s[pos]'h).toNat]) (jK w ib s (pos+1)):=by
 simp only[Instr.next,getObj,setObj,Sem.run_bind,Sem.run,hi,Result.andThen,h,if_true,decode_ascii s pos h ha]
 have hl:ib<w.heap.size:=by
  rcases ef ib w.heap.size with h'|h'
  ·exact h'
  ·simp[fy h']at hi
 simp[goInt,jK]
theorem ui{P:Program}(w:World)(ib:Nat)(s:ByteArray)(pos:Nat)(ty:TypeId)(hi:w.heap[ib]?=some (.stringIter s pos))(h:¬pos<s.size):(Instr.next (.pointer (some ⟨ib,0,none⟩)) true ty).run P w=.ok (.tuple #[.bool false]) w:=by simp[Instr.next,getObj,Sem.run,hi,h]
theorem BE{p:Nat}(h:ib<w.heap.size):(jK w ib s p).heap[ib]?=some (.stringIter s p):=by unfold jK;simp[h]
theorem ql{p b:Nat}(h:b≠ib):(jK w ib s p).heap[b]?=w.heap[b]?:=by unfold jK;simp[Array.getElem?_setIfInBounds];intro e;exact absurd e.symm h
theorem DV(w:World)(ib p:Nat)(s:ByteArray):cE ib w (jK w ib s p):=⟨rfl,rfl,rfl,by simp[jK],λ_ _ hn=>ql hn⟩
theorem Mg(l:List UInt8)(h:l.all dg=true)(n:Nat)(hn:l.length<=n)(h4:n=1\/n=2\/n=4):0<=nK l 0/\nK l 0<=9999/\(n<=2->nK l 0<=99):=by
 have hb:=wH l h 0 (by omega);generalize hL:l.length=L at*;have:L=0\/L=1\/L=2\/L=3\/L=4:=by omega
 rcases this with rfl|rfl|rfl|rfl|rfl<;>simp at hb<;>omega
theorem dnumL_le(s:List UInt8)(n:Nat)(h4:n=1\/n=2\/n=4):0<=(cn s n).1/\(cn s n).1<=9999/\(n<=2->(cn s n).1<=99):=by
 unfold cn
 cases decide (s.length<n)
 ·cases hd:(s.take n).all dg
  ·simp
  ·simp only[cond_false,cond_true];exact Mg (s.take n) hd n (by rw[dm];omega) h4
 ·simp
theorem tc(s:List UInt8)(n:Nat):∀(ls:List (List UInt8))(i:Nat),i+ls.length<=7->0<=(ec s n ls i).1/\(ec s n ls i).1<=6
 | [],i,h=>by simp[ec]
 |x::r,i,h=>by
  have ih:=tc s n r (i+1) (by rw[cg]at h;omega);rw[ec]
  cases Lib.hasPrefix s (bif decide (0<n)then x.take n else x)
  ·exact ih
  ·simp only[cond_true];rw[cg]at h;omega
theorem Im{m:jO}(h:qJ m)(c:Nat)(hc:c∈iV)(s:List UInt8)(h2:c=89->m.two=false):qJ (aW m c s).1/\(c≠121->(aW m c s).1.two=m.two):=by
 have n1:=dnumL_le (s.drop 1) 1 (by omega);have n2:=dnumL_le s 2 (by omega);have n4:=dnumL_le s 4 (by omega);have d0:=tc s 0 dN 0 (by decide);have d3:=tc s 3 dN 0 (by decide);have hx:=lK gy (s.take 3);have SN:gy.length=36:=rfl;rw[SN]at hx;obtain⟨a1,a2,a3,a4,a5,a6,a7,a8⟩:=h;unfold iV at hc;simp only[cZ,List.not_mem_nil,or_false]at hc;unfold aW;rcases hc with rfl|rfl|rfl|rfl|rfl|rfl|rfl|rfl|rfl|rfl|rfl|rfl|rfl|rfl|rfl|rfl|rfl
 all_goals simp only[Nat.reduceEqDiff,if_true,if_false]
 ·exact⟨⟨by simp only;omega,a2,a3,a4,a5,a6,a7,a8⟩,λ_=>by first|rfl|trivial⟩
 ·exact⟨⟨by simp only;omega,a2,a3,a4,a5,a6,a7,a8⟩,λ_=>by first|rfl|trivial⟩
 ·exact⟨⟨a1,by simp only;omega,a3,a4,a5,a6,a7,a8⟩,λ_=>by first|rfl|trivial⟩
 ·split
  ·exact⟨⟨a1,by simp only;omega,a3,a4,a5,a6,a7,a8⟩,λ_=>by first|rfl|trivial⟩
  ·exact⟨⟨a1,by simp only;omega,a3,a4,a5,a6,a7,a8⟩,λ_=>by first|rfl|trivial⟩
 ·split
  ·exact⟨⟨a1,a2,a3,a4,a5,a6,a7,a8⟩,λ_=>by first|rfl|trivial⟩
  ·exact⟨⟨a1,a2,by simp only;omega,a4,a5,a6,a7,a8⟩,λ_=>by first|rfl|trivial⟩
 ·exact⟨⟨a1,a2,a3,by simp only;omega,a5,a6,a7,λh=>by rw[h2 rfl]at h;cases h⟩,λ_=>by first|rfl|trivial⟩
 ·exact⟨⟨a1,a2,a3,by simp only;omega,a5,a6,a7,λ_=>by simp only;omega⟩,λh=>by first|exact absurd rfl h|simp at h⟩
 ·exact⟨⟨a1,a2,a3,a4,by simp only;omega,a6,a7,a8⟩,λ_=>by first|rfl|trivial⟩
 ·exact⟨⟨a1,a2,a3,a4,a5,by simp only;omega,a7,a8⟩,λ_=>by first|rfl|trivial⟩
 ·exact⟨⟨a1,a2,a3,a4,a5,a6,by simp only;omega,a8⟩,λ_=>by first|rfl|trivial⟩
 all_goals
  split<;>exact⟨⟨a1,a2,a3,a4,a5,a6,a7,a8⟩,λ_=>by first|rfl|trivial⟩
def L6:List (List UInt8):=[tN,sU,sQ]
def LO(f:List UInt8):Prop:=(∀c∈f,c.toNat∈iV)/\((∃c∈f,c.toNat=89)->∀c∈f,c.toNat≠121)
theorem Lt:∀f∈L6,LO f:=by
 have h1:(L6.all λf=>(f.all λc=>iV.contains c.toNat)&&(!(f.any λc=>c.toNat==89)||f.all λc=>c.toNat !=121))=true:=by decide +kernel
 intro f hf;have h2:=dH.1 h1 f hf;rw[eA]at h2;refine⟨λc hc=>by simpa using dH.1 h2.1 c hc,λ⟨c,hc,h89⟩c' RZ=>?_⟩;have Yi:(f.any λc=>c.toNat==89)=true:=List.any_eq_true.2 ⟨c,hc,by simpa using h89⟩;rw[Yi]at h2;have h3:=h2.2;simp only[di,ig]at h3;simpa using dH.1 h3 c' RZ
theorem jQ:∀(f:List UInt8)(m:jO)(s:List UInt8)(m':jO)(r:List UInt8),(∀c∈f,c.toNat∈iV)->((∃c∈f,c.toNat=89)->m.two=false/\∀c∈f,c.toNat≠121)->qJ m->gz f m s=some (m',r)->qJ m'
 | [],m,s,m',r,_,_,h,e=>by
  rw[gz]at e
  cases e
  exact h
 |c::f,m,s,m',r,hl,hy,h,e=>by
  rw[gz]at e;have hk:=Im h c.toNat (hl c (by simp)) s (λh89=>(hy ⟨c,by simp,h89⟩).1)
  cases hs:(aW m c.toNat s).2.2
  ·rw[hs]at e;cases e
  ·rw[hs]at e;refine jQ f _ _ m' r (λc' RZ=>hl c' (by simp[RZ])) (λ⟨c',RZ,h89⟩=>?_) hk.1 e;have h2:=hy ⟨c',by simp[RZ],h89⟩;have Ng:c.toNat≠121:=h2.2 c (by simp);exact⟨(hk.2 Ng).trans h2.1,λc'' hc''=>h2.2 c'' (by simp[hc''])⟩
theorem ry:qJ rf:=⟨by decide,by decide,by decide,by decide,by decide,by decide,by decide,by intro h;cases h⟩
theorem Bn(w:World):Calls Tryz.prog 277 #[] w λe w'=>e=.returned (.slice (some ⟨w.heap.size,0,none⟩) 3 3)/\Rd (some ⟨w.heap.size,0,none⟩) 3 1 (aF L6) w'/\Below w.heap.size w w':=by
 go_enter Tryz.func277,Tryz.ntmps277
 go_wp2;go_ret;refine⟨rfl,⟨rfl,λ_=>⟨_,0,rfl,by simp,λj u hu=>?_⟩⟩,(aO _ w).alloc (aw _) _⟩;rw[iq,cK];simpa[aF,L6,tN,sU,sQ]using hu
def L3(w:World)(ib:Nat):Nat:=match w.heap[ib]? with
 |some (.stringIter _ p)=>p
 |_=>0
theorem DH{p:Nat}(h:w.heap[ib]?=some (.stringIter s p)):L3 w ib=p:=by unfold L3;rw[h]
theorem AM{s f:List UInt8}{now:Int}{r:List (List UInt8)}(h:gz f rf s=none):dC s now (f::r)=dC s now r:=by rw[dC,h]
theorem A_{s f:List UInt8}{now:Int}{r:List (List UInt8)}{m:jO}{c:UInt8}{t:List UInt8}(h:gz f rf s=some (m,c::t)):dC s now (f::r)=dC s now r:=by rw[dC,h]
theorem Ca{s f:List UInt8}{now:Int}{r:List (List UInt8)}{m:jO}(h:gz f rf s=some (m,[])):dC s now (f::r)=if(gI m now).2=true then((gI m now).1,0)else dC s now r:=by rw[dC,h]
theorem n8(s:ByteArray)(now:Int)(w:World)(hE:d9 w):Calls Tryz.prog 205 #[.string s,.int .i64 now] w λe w'=>e=.returned (.tuple #[.int .i64 (kJ s.data.toList now).1,.int .i64 (kJ s.data.toList now).2])/\Below w.heap.size w w':=by
 obtain⟨R,hR⟩:=aH (kJ s.data.toList now);rw[hR];have hR0:dC s.data.toList now L6=R:=hR;have Ok:=Lt;have QD:L6.length=3:=rfl;have kf:=Bn w;obtain⟨y,rfl⟩:∃y:List UInt8,s=⟨y.toArray⟩:=⟨s.data.toList,(bN s).symm⟩;have ey:(⟨y.toArray⟩:ByteArray).data.toList=y:=by simp
 rw[ey]at hR0;obtain⟨Rt,Xo,HL3,KF,HE⟩:=gB hR0 Ok QD kf hE;clear hR hR0 Ok QD kf hE ey;generalize L6=ls at*;go_enter Tryz.func205,Tryz.ntmps205
 go_wp2_with fail
 go_step3
 go_wp2_with fail
 go_step3
 go_wp2_with fail
 refine KF.out.mono ?_;rintro e W1 ⟨rfl,RK,M8⟩;have HE1:=ah (HE.out.below M8);have St:=ah RK
 have NV:w.heap.size<W1.heap.size:=by
  obtain⟨b,o,e,hl,_⟩:=RK.2 (by decide)
  cases e;exact hl
 clear RK KF;go_wp2_with fail
 go_loopw [18] (λi wr=>∃k:Nat,k<=3/\i=.int .i64 k/\Below W1.heap.size W1 wr/\Hid (dC y now (ls.drop k)=R)) (λi _=>3-(o9 i).toNat)
 case atStart=>exact⟨0,a_ _,rfl,aO _ _,Rt⟩
 case round=>
  obtain⟨k,hk,rfl,Oy,HP⟩:=hrel;by_cases QU:k<3
  ·have PS:k<ls.length:=by rw[HL3.out];exact QU
   obtain⟨b',o',e,_,d0⟩:=(St.out.below Oy).str_at PS
   cases e
   have hfo:=Xo.out ls[k] (bQ PS);have QC:ls.drop k=ls[k]::ls.drop (k+1):=tu PS;have hP:=HP.out;rw[QC]at hP;generalize ls[k]=f at*;obtain⟨fo,rfl⟩:∃fo:ByteArray,f=fo.data.toList:=⟨⟨f.toArray⟩,by simp⟩;rw[bN,iq]at d0;have YI:=ah hP;have HFO:=ah hfo;have i2:IntKind.i64.wrap ((k:Int)+1)=((k+1:Nat):Int):=by rw[b_];omega
   have i3:IntKind.i64.wrap (k:Int)=k:=by rw[b_];omega
   have t0:decide ((k:Int)<3)=true:=by simp;omega
   clear hP QC hfo HP PS;go_wp2_with fail
   obtain⟨wo,rfl⟩:∃wo:World,wo=wr:=⟨_,rfl⟩
   have WW:bf wo.heap.size rf ((wo.alloc (.cells #[.int .i64 0,.int .i64 0,.int .i64 0,.int .i64 0,.int .i64 0,.int .i64 0,.int .i64 0,.bool false] 375 (0,0))).iter fo 0):=by unfold bf World.iter;exact(gG _ _ _ (by simp)).trans (ay wo _ _ rfl)
   have hi0:((wo.alloc (.cells #[.int .i64 0,.int .i64 0,.int .i64 0,.int .i64 0,.int .i64 0,.int .i64 0,.int .i64 0,.bool false] 375 (0,0))).iter fo 0).heap[wo.heap.size+1]?=some (.stringIter fo 0):=by have:=World.iter_heap (wo.alloc (.cells #[.int .i64 0,.int .i64 0,.int .i64 0,.int .i64 0,.int .i64 0,.int .i64 0,.int .i64 0,.bool false] 375 (0,0))) fo 0;rw[show(wo.alloc (.cells #[.int .i64 0,.int .i64 0,.int .i64 0,.int .i64 0,.int .i64 0,.int .i64 0,.int .i64 0,.bool false] 375 (0,0))).heap.size=wo.heap.size+1 from by simp]at this;exact this
   have Ol:Below W1.heap.size W1 ((wo.alloc (.cells #[.int .i64 0,.int .i64 0,.int .i64 0,.int .i64 0,.int .i64 0,.int .i64 0,.int .i64 0,.bool false] 375 (0,0))).iter fo 0):=(Oy.alloc Oy.size _).alloc (by simp;have:=Oy.size;omega) _;obtain⟨W2,Nw⟩:=aH ((wo.alloc (.cells #[.int .i64 0,.int .i64 0,.int .i64 0,.int .i64 0,.int .i64 0,.int .i64 0,.int .i64 0,.bool false] 375 (0,0))).iter fo 0);rw[Nw]at WW hi0 Ol ⊢;have UJ:W1.heap.size<=wo.heap.size:=Oy.size;obtain⟨mb,Rs⟩:=aH wo.heap.size;rw[Rs]at WW hi0 UJ ⊢;obtain⟨P0,hP0⟩:=aH (gz fo.data.toList rf y);obtain⟨HP0,Yo,HI0,Ou⟩:=bK hP0 WW hi0 Ol;clear hP0 WW hi0 Ol Nw Rs d0 Oy
   go_loopw [9] (λrv wi=>∃(p:Nat) (m:jO) (rest:List UInt8),rv=.string ⟨rest.toArray⟩/\p<=fo.size/\Hid (bf mb m wi)/\Hid (wi.heap[mb+1]?=some (.stringIter fo p))/\Hid (Below W1.heap.size W1 wi)/\Hid (gz (fo.data.toList.drop p) m rest=P0)) (λ_ wi=>fo.size-L3 wi (mb+1))
   case atStart=>exact⟨0,rf,y,rfl,a_ _,Yo,HI0,Ou,HP0⟩
   case round=>
    obtain⟨p,m,rest,rfl,hp,HM,HI,HB,HD⟩:=hrel;by_cases V3:p<fo.size
    ·have hdc:=nE fo p V3;have XY:fo[p]∈fo.data.toList:=by rw[jm fo p V3];exact bQ _
     have VL:=HFO.out.1 fo[p] XY
     have hasc:fo[p].toNat<128:=by
      have NY:∀c∈iV,c<128:=by decide
      exact NY _ VL
     have NR:∀ty,(Instr.next (.pointer (some ⟨mb+1,0,none⟩)) true ty).run Tryz.prog wr=.ok (.tuple #[.bool true,.int .i64 p,.int .i32 (fo[p]'V3).toNat]) (jK wr (mb+1) fo (p+1)):=λty=>Bl wr (mb+1) fo p ty HI.out V3 hasc
     have Q7:mb+1<wr.heap.size:=by
      rcases ef (mb+1) wr.heap.size with h'|h'
      ·exact h'
      ·have:=HI.out;simp[fy h']at this
     have Xv:bf mb m (jK wr (mb+1) fo (p+1)):=(ql (by omega)).trans HM.out;have Yx:(jK wr (mb+1) fo (p+1)).heap[mb+1]?=some (.stringIter fo (p+1)):=BE Q7;have Na:Below W1.heap.size W1 (jK wr (mb+1) fo (p+1)):=HB.out.trans ((DV wr (mb+1) (p+1) fo).below (by omega) HB.out.size);have hD:=HD.out;rw[hdc,gz]at hD;obtain⟨c,hc⟩:=aH (fo[p].toNat);rw[hc]at hD VL NR;have Qi:(jK wr (mb+1) fo (p+1)).heap.size=wr.heap.size:=by simp[jK]
     obtain⟨W3,NW⟩:=aH (jK wr (mb+1) fo (p+1));rw[NW]at NR Xv Yx Na Qi;have kt:=ED c VL mb m ⟨rest.toArray⟩ W3 (HE1.out.below Na) Xv;have er:(⟨rest.toArray⟩:ByteArray).data.toList=rest:=by simp
     rw[er]at kt;have UO:=DH HI.out;generalize aW m c rest=r at*;obtain⟨m',rest',is⟩:=r;simp only at kt hD
     obtain⟨KT,HI3,Og,HS3,HPOS⟩:=gB kt Yx Na Qi UO;clear kt Xv Yx Na Qi UO hdc XY VL hasc Q7 er NW hc HD HM
     cases is
     ·simp only[cond_false]at hD;have HN:=ah hD;clear hD;go_wp2_with fail
      refine KT.out.mono ?_;rintro e w4 ⟨rfl,Uh,_⟩;have Nf:Below W1.heap.size W1 w4:=Og.out.trans (Uh.below UJ Og.out.size);have V8:dC y now (ls.drop (k+1))=R:=(AM (HP0.out.trans HN.out.symm)).symm.trans YI.out;have ZM:=ah V8;clear V8 Uh;go_wp2;go_roundw
      case rel=>exact⟨k+1,QU,rfl,Nf,ZM⟩
      case measure=>simp[o9];omega
     ·simp only[cond_true]at hD;have HN:=ah hD;clear hD;go_wp2_with fail
      refine KT.out.mono ?_;rintro e w4 ⟨rfl,Uh,hm4⟩
      have hil3:mb+1<W3.heap.size:=by
       rcases ef (mb+1) W3.heap.size with h'|h'
       ·exact h'
       ·have:=HI3.out;simp[fy h']at this
      have ZO:w4.heap[mb+1]?=some (.stringIter fo (p+1)):=(Uh.2.2.2.2 (mb+1) hil3 (by omega)).trans HI3.out;have Nf:Below W1.heap.size W1 w4:=Og.out.trans (Uh.below UJ Og.out.size);have Xp:=DH ZO;obtain⟨HM4,WQ,Pz,HPOS4⟩:=bK hm4 ZO Nf Xp;clear hm4 ZO Nf Xp Uh hil3;go_wp2;go_roundw
      case rel=>exact⟨p+1,m',rest',rfl,V3,HM4,WQ,Pz,HN⟩
      case measure=>rw[HPOS4.out,HPOS.out];omega
    ·have Tb:p=fo.size:=by omega
     subst Tb;have Nd:∀ty,(Instr.next (.pointer (some ⟨mb+1,0,none⟩)) true ty).run Tryz.prog wr=.ok (.tuple #[.bool false]) wr:=λty=>ui wr (mb+1) fo fo.size ty HI.out V3
     have hD:=HD.out;rw[mP fo fo.size (aw _),gz]at hD;have hPF:=HP0.out.trans hD.symm
     cases rest with
     |cons c0 t0=>
      have V8:dC y now (ls.drop (k+1))=R:=(A_ hPF).symm.trans YI.out;have ZM:=ah V8;have SF:=ah HB.out;clear hD hPF V8 HD HM HI;go_wp2;go_roundw
      case rel=>exact⟨k+1,QU,rfl,SF.out,ZM⟩
      case measure=>simp[o9];omega
     |nil=>
      have Ok:=jQ fo.data.toList rf y m [] HFO.out.1 (λh=>⟨rfl,HFO.out.2 h⟩) ry hPF;have kt:=Ei mb m now wr HM.out Ok;have V8:(if(gI m now).2=true then((gI m now).1,0)else dC y now (ls.drop (k+1)))=R:=(Ca hPF).symm.trans YI.out;unfold Ba at kt;generalize gI m now=r at*;obtain⟨t,is⟩:=r;simp only at kt V8
      obtain⟨KT,ZM,SF⟩:=bu kt V8 HB.out;clear hD hPF V8 HD HM HI kt Ok HB
      cases is
      ·go_wp2_with fail
       refine KT.out.mono ?_;rintro e w4 ⟨rfl,Uh⟩;have Nf:Below W1.heap.size W1 w4:=SF.out.trans (Uh.below UJ SF.out.size);have hRm:dC y now (ls.drop (k+1))=R:=by have:=ZM.out;simpa using this
       have HRM:=ah hRm;clear hRm Uh;go_wp2;go_roundw
       case rel=>exact⟨k+1,QU,rfl,Nf,HRM⟩
       case measure=>simp[o9];omega
      ·go_wp2_with fail
       refine KT.out.mono ?_;rintro e w4 ⟨rfl,Uh⟩;have Nf:Below W1.heap.size W1 w4:=SF.out.trans (Uh.below UJ SF.out.size);have hRm:(t,0)=R:=by have:=ZM.out;simpa using this
       have HRM:=ah (aB hRm Nf);clear hRm Uh Nf;go_wp2;rw[Exit.noGoto_ret];go_ret2
       exact⟨by rw[<-HRM.out.1];rfl,M8.trans (HRM.out.2.mono (dF NV))⟩
  ·have OA:k=3:=by omega
   subst OA;have hP:=HP.out;rw[List.drop_eq_nil_of_le (by rw[HL3.out];exact aw _),dC]at hP;have YI:=ah hP;clear hP;go_wp2;rw[Exit.noGoto_ret];go_ret2
   exact⟨by rw[<-YI.out];rfl,M8.trans (Oy.mono (dF NV))⟩
theorem Cf(n:Int)(w:World)(h0:0<=n):Calls Tryz.prog 206 #[.int .u64 n] w λe w'=>e=.returned (.int .i64 (le n))/\w=w':=by
 rcases(by omega:n=0\/(0<n/\n<=2147483648)\/2147483648<n)with h|⟨h,h2⟩|h
 ·subst h;go_enter Tryz.func206,Tryz.ntmps206
  go_wp2
  all_goals (go_ret;exact⟨eV (by first|rfl|omega),rfl⟩)
 ·have Hb:=ah (Ha (Int.le_of_lt h) h2);go_enter Tryz.func206,Tryz.ntmps206
  go_wp2
  all_goals (go_ret;exact⟨eV (by first|exact Hb.out.symm|(rw[Hb.out];omega)),rfl⟩)
 ·have Hb:=ah (C9 h);go_enter Tryz.func206,Tryz.ntmps206
  go_wp2
  all_goals (go_ret;exact⟨eV (by first|exact Hb.out.symm|(rw[Hb.out];omega)),rfl⟩)
theorem Lq(n:Int)(w:World):Calls Tryz.prog 208 #[.int .i64 n] w λe w'=>e=.returned (.int .i64 (le n))/\w=w':=by
 go_enter Tryz.func208,Tryz.ntmps208
 go_wp2_with (go_at_call 111;refine(jE _ _).mono ?_;rintro e w' ⟨rfl,rfl⟩)
 go_ret;exact⟨rfl,rfl⟩
theorem DM(a b:Int)(w:World):Calls Tryz.prog 131 #[.int .i64 a,.int .i64 b] w λe w'=>e=.returned (.int .i64 (xK a b))/\w=w':=by
 unfold xK;have h1:=ma a;have h2:=lP a;have h3:=ma b;have h4:=lP b;go_enter Tryz.func131,Tryz.ntmps131
 go_wp2_with (go_at_call 111;refine(jE _ _).mono ?_;rintro e w' ⟨rfl,rfl⟩)
 go_ret;exact⟨rfl,rfl⟩
theorem G9(a b:Int)(w:World):Calls Tryz.prog 294 #[.int .i64 a,.int .i64 b] w λe w'=>e=.returned (.int .i64 (LM a b))/\w=w':=by
 unfold LM;have h1:=ma a;have h2:=lP a;have h3:=ma b;have h4:=lP b;go_enter Tryz.func294,Tryz.ntmps294
 go_wp2_with (go_at_call 111;refine(jE _ _).mono ?_;rintro e w' ⟨rfl,rfl⟩)
 go_ret;exact⟨rfl,rfl⟩
theorem Mv(a b:Int)(h:a<b)(h':b-a<18446744073709551616):IntKind.u64.wrap (IntKind.u64.wrap b-IntKind.u64.wrap a)=b-a:=by
 have e:∀x:Int,IntKind.u64.wrap x=x % 18446744073709551616:=λx=>by simp[IntKind.wrap,IntKind.bits,IntKind.signed]
 rw[e,e,e];omega
theorem ll(a b:Int)(w:World)(ha:-9223372036854775808<=a)(ha':a<=9223372036854775807)(hb:-9223372036854775808<=b)(N4:b<=9223372036854775807):Calls Tryz.prog 149 #[.int .i64 a,.int .i64 b] w λe w'=>e=.returned (.int .i64 (gP a b))/\w=w':=by
 unfold gP;by_cases h:b<=a
 ·have hz:le (b-a)=0:=by
   by_cases e:b-a=0
   ·rw[e];rfl
   ·exact DG (by omega)
  have Hz:=ah hz;clear hz;go_enter Tryz.func149,Tryz.ntmps149
  go_wp2;go_ret;exact⟨eV (by rw[Hz.out]),rfl⟩
 ·go_enter Tryz.func149,Tryz.ntmps149
  go_wp2_with fail
  rw[Mv a b (by omega) (by omega)];refine(Cf _ _ (by omega)).mono ?_;rintro e w' ⟨rfl,rfl⟩;go_wp2;go_ret;exact⟨rfl,rfl⟩
def MQ(w:World):Prop:=Lib.TabIs Tryz.prog w ("internal/strconv.uint64pow10") .u64 Lib.pow10Tab
theorem BV(w:World)(os:Array Obj):Below w.heap.size w (Sort.grow w os):=⟨rfl,rfl,rfl,by show w.heap.size<=(w.heap++os).size;simp,λk hk=>by show(w.heap++os)[k]?=_;rw[Array.getElem?_append_left hk]⟩
theorem JL(n:Int)(w:World)(ht:MQ w):Calls Tryz.prog 130 #[.int .i64 n] w λe w'=>e=.returned (.string (iI n))/\Below w.heap.size w w':=by
 have h1:=ma n;have h2:=lP n;have hi:(⟨(Lib.itoa (le n)).toArray⟩:ByteArray)=iI n:=by unfold Lib.itoa iI;rw[if_neg (by omega)]
 obtain⟨Hi,HT⟩:=az hi ht;clear hi ht;go_enter Tryz.func130,Tryz.ntmps130
 go_wp2_with (first|(go_at_call 111;refine(jE _ _).mono ?_;rintro e w' ⟨rfl,rfl⟩)|(go_at_call 86;refine(Tryz.strconv_Itoa _ (by omega) (by omega) _ HT.out).mono ?_;rintro e w' ⟨rfl,k,os,rfl⟩))
 go_ret;exact⟨by rw[<-Hi.out];rfl,(Go.below_drewN (aO _ w) k).trans (BV (w.drewN k) os)⟩
theorem oy(s:ByteArray)(w:World)(hs:s.size<=1000000):Calls Tryz.prog 150 #[.string s] w λe w'=>e=.returned (.int .i64 (qW s.data.toList))/\w=w':=by
 have k1:=pN s w hs;rw[B6]at k1;have K1:=ah k1;clear k1;go_enter Tryz.func150,Tryz.ntmps150
 go_wp2_with fail
 refine K1.out.mono ?_;rintro e w1 ⟨rfl,rfl⟩;go_wp2;go_ret;exact⟨rfl,rfl⟩
theorem z_(st mi asked got:Int)(re bo:ByteArray)(A V:Option Addr)(n c m d:Nat)(xs:List aU)(dev:ByteArray)(w:World)(hM:cq w)(hr:Rd A n 2 (aJ xs) w)(hn:n<=1000)(hs:aE xs<=800000):Calls Tryz.prog 207 #[dI st re mi A n c bo asked got V m d,.string dev] w λe w'=>e=.returned (Bk (oS xs dev.data.toList))/\Below w.heap.size w w':=by
 obtain⟨W1,Ne⟩:=bg w (.cells #[.int .i64 st,.string re,.int .i64 mi,.slice A n c,.string bo,.int .i64 asked,.int .i64 got,.slice V m d] 105);have b1:=bm Ne;have z1:W1.heap.size=w.heap.size+1:=by rw[<-Ne];simp
 have x1:=dU Ne;obtain⟨W2,Nw⟩:=bg W1 lV;have b2:=bm Nw;have z2:W2.heap.size=w.heap.size+2:=by rw[<-Nw];simp[z1]
 have x2:W2.heap[w.heap.size+1]?=some (.cells #[.bool false,.bool false,.bool false,.bool false,.int .i64 0,.int .i64 0] 45 (0,0)):=by rw[<-Nw];exact ay W1 _ _ z1
 have x1:=(b2.block w.heap.size (by omega)).trans x1;have b1:=bt b1 b2;have k1:=cX A n c xs qE W2 (hr.below b1) (by omega) (λf hf=>by have:=bM hf;omega) (by decide);have QS:=cD xs jb;have TG:∀v∈af xs jb,v.length<=900000:=λv hv=>by have:=gM hv;omega
 have k2:=λW(hb:Below w.heap.size w W)a c'(h:Rd a (af xs jb).length 1 (aF (af xs jb)) W)=>nx a (af xs jb).length c' (af xs jb) dev W (hM.below hb) h (by have:=hr.fld;omega) TG
 have he:vj (af xs jb) dev.data.toList=oS xs dev.data.toList:=rfl;rw[he]at k2;rw[show(qE:ByteArray).data.toList=jb from rfl]at k1;generalize oS xs dev.data.toList=out at*;have x3:=(ab x1 3).1;have hz:w.heap.size+1<W2.heap.size:=by omega
 obtain⟨NC,Of,K1,K2,B1,X2⟩:=eN Ne Nw k1 k2 b1 x2;have Z1:=ah z1;generalize af xs jb=vs at*;clear Ne Nw k1 k2 x1 z2 hr hs hM he b1 b2 QS TG x2 z1;unfold dI;go_enter Tryz.func207,Tryz.ntmps207
 go_upto_region 1 with(fail)
 rw[NC.out,Of.out];go_wp2_with fail
 refine K1.out.mono ?_;rintro e w1 ⟨a1,c1,rfl,Nr,M8⟩;have k3:=K2.out w1 (bt B1.out M8) _ c1 Nr.rd.2;have K3:=ah k3;have HB:=ah (bt B1.out M8);have Y2:=ah ((M8.block (w.heap.size+1) hz).trans X2.out);have NZ:=bE hz M8.size;clear Nr k3 K2 M8 B1;go_wp2_with fail
 refine K3.out.mono ?_;rintro e w2 ⟨rfl,M9⟩;have y2:=(M9.block (w.heap.size+1) NZ).trans Y2.out;have g0:=ab y2 0;have g1:=ab y2 1;have g2:=ab y2 2;have g3:=ab y2 3;have g4:=ab y2 4;have g5:=ab y2 5;obtain⟨g0,f0,gl⟩:=g0;obtain⟨g1,f1,_⟩:=g1;obtain⟨g2,f2,_⟩:=g2;obtain⟨g3,f3,_⟩:=g3;obtain⟨g4,f4,_⟩:=g4;obtain⟨g5,f5,_⟩:=g5;simp only[cT,cv,cS]at g0 g1 g2 g3 g4 g5;obtain⟨o0,o1,o2,o3,o4,o5⟩:=out;unfold Bk;simp only
 have OT:=ah (bt HB.out M9);clear y2 Y2 M9 HB K3 NC Of X2 Z1;go_wp2_with fail
 refine bodyPost_ret_by (v:=.agg #[.bool o0,.bool o1,.bool o2,.bool o3,.int .i64 o4,.int .i64 o5]) ?_ rfl ?_
 ·rw[fT rfl];go_simp
 ·exact⟨rfl,(((((OT.out.setCell (p:=⟨w.heap.size+1,0,none⟩) (fX _) _).setCell (p:=⟨w.heap.size+1,1,none⟩) (fX _) _).setCell (p:=⟨w.heap.size+1,2,none⟩) (fX _) _).setCell (p:=⟨w.heap.size+1,3,none⟩) (fX _) _).setCell (p:=⟨w.heap.size+1,4,none⟩) (fX _) _).setCell (p:=⟨w.heap.size+1,5,none⟩) (fX _) _⟩
theorem sB(st mi asked got:Int)(re bo:ByteArray)(A V:Option Addr)(n c m d:Nat)(xs:List aU)(name:ByteArray)(w:World)(hE:d9 w)(hr:Rd A n 2 (aJ xs) w)(hn:n<=1000)(hs:aE xs<=800000)(OQ:name.size<=1000000):Calls Tryz.prog 148 #[dI st re mi A n c bo asked got V m d,.string name] w λe w'=>e=.returned (.tuple #[.int .i64 (iT xs name.data.toList got).1,.bool (iT xs name.data.toList got).2])/\Below w.heap.size w w':=by
 obtain⟨W1,Ne⟩:=bg w (.cells #[.int .i64 st,.string re,.int .i64 mi,.slice A n c,.string bo,.int .i64 asked,.int .i64 got,.slice V m d] 105);have b1:=bm Ne;have z1:W1.heap.size=w.heap.size+1:=by rw[<-Ne];simp
 have x1:=dU Ne;have k1:=iN A n c xs name W1 (hr.below b1) (by omega) (by omega) OQ;have k2:=λW(hb:Below w.heap.size w W)=>n8 ⟨(c_ xs name.data.toList).1.toArray⟩ got W (hE.below hb)
 simp only at k2
 unfold iT;unfold ux at k1;generalize c_ xs name.data.toList=g at*;obtain⟨gv,gi⟩:=g;simp only at k1 k2 ⊢
 generalize kJ gv got=r at*;obtain⟨t,er⟩:=r;simp only at k2 ⊢
 have x3:=(ab x1 3).1;have x6:=(ab x1 6).1;have hz:w.heap.size<W1.heap.size:=by omega
 obtain⟨NC,K1,K2,B1⟩:=bK Ne k1 k2 b1;clear Ne k1 k2 x1 z1 hr hs hE b1
 cases gi
 ·simp only[cond_false];unfold dI;go_enter Tryz.func148,Tryz.ntmps148
  go_wp2_with fail
  rw[NC.out];refine K1.out.mono ?_;rintro e w1 ⟨rfl,M8⟩;have HB:=ah (bt B1.out M8);clear M8 x6;go_wp2;go_ret2
  exact⟨rfl,HB.out⟩
 ·simp only[cond_true]
  cases hz:(er==0)
  all_goals
   unfold dI;go_enter Tryz.func148,Tryz.ntmps148
   go_wp2_with fail
   rw[NC.out];refine K1.out.mono ?_;rintro e w1 ⟨rfl,M8⟩;have y6:=(M8.cell (p:=⟨w.heap.size,6,none⟩) (by assumption)).trans x6;have k3:=K2.out w1 (bt B1.out M8);have K3:=ah k3;have HB:=ah (bt B1.out M8);clear M8 x6 k3 K2;go_wp2_with fail
   refine K3.out.mono ?_;rintro e w2 ⟨rfl,M9⟩;go_wp2;go_ret2
   exact⟨rfl,bt HB.out M9⟩
theorem CP{vs:List (List UInt8)}{B:Nat}(hv:∀v∈vs,v.length<=B):∀d∈bD vs,d.name.length<=B+8/\d.value.length<=B+8:=by
 intro d hd;unfold bD at hd;obtain⟨v,P5,hd⟩:=List.mem_flatMap.1 hd;unfold oh at hd;obtain⟨p,hp,hd⟩:=List.mem_filterMap.1 hd
 have Oe:p.length<=v.length+8:=by
  unfold wU at hp
  cases hz:((ax 44 v).2==0)
  ·rw[hz,cond_false,cA]at hp;subst hp;show 8<=_
   omega
  ·rw[hz,cond_true]at hp;have h1:=cG hp;have h2:=ci 44 v;omega
 have h3:=vZ hd;have:=hv v P5;omega
theorem FQ{m:jO}{now:Int}(ho:qJ m):0<=(gI m now).1/\(gI m now).1<=400000000000:=by
 unfold gI;split
 ·simp
 ·rename_i h1;split
  ·simp
  ·have h2:¬ul m now<1970/\¬ul m now>9999/\¬m.day<1/\¬m.day>gX (ul m now) m.month/\¬m.hour>23/\¬m.minute>59/\¬m.second>59:=by simpa using h1
   clear h1;have hl:=px (ul m now) m.month;have ha:=jy (ul m now) (by omega);have hm:=tT (ul m now) (m.month.toNat-1);have hk:((m.month.toNat-1:Nat):Int)<=12:=by have:=ho.month;omega
   have g1:=ho.hour;have g2:=ho.minute;have g3:=ho.second;generalize iX (ul m now) (m.month.toNat-1)=a at*;generalize dQ (ul m now)=b at*;simp only
   omega
theorem uE(s:List UInt8)(now:Int):∀fs:List (List UInt8),(∀f∈fs,f=tN\/f=sU\/f=sQ)->0<=(dC s now fs).1/\(dC s now fs).1<=400000000000
 | [],_=>by simp[dC]
 |f::r,h=>by
  have ih:=uE s now r λg hg=>h g (bJ _ hg)
  unfold dC;split
  ·rename_i m hp;split
   ·refine FQ ?_;rcases h f (fD ..)with rfl|rfl|rfl
    ·exact jQ tN rf s m [] (by decide) (by decide) ry hp
    ·exact jQ sU rf s m [] (by decide) (by decide) ry hp
    ·exact jQ sQ rf s m [] (by decide) (by decide) ry hp
   ·exact ih
  ·exact ih
theorem F9(s:List UInt8)(now:Int):0<=(kJ s now).1/\(kJ s now).1<=400000000000:=uE s now _ (by simp)
theorem sY(xs:List aU)(nm:List UInt8)(got:Int):0<=(iT xs nm got).1/\(iT xs nm got).1<=400000000000:=by
 unfold iT
 cases(c_ xs nm).2
 ·simp
 ·exact F9 _ _
theorem uk(st mi asked got:Int)(re bo:ByteArray)(A V:Option Addr)(n c m d:Nat)(xs:List aU)(dev:ByteArray)(w:World)(hM:cq w)(hr:Rd A n 2 (aJ xs) w)(hn:n<=1000)(hs:aE xs<=800000):Calls Tryz.prog 151 #[dI st re mi A n c bo asked got V m d,.string dev] w λe w'=>e=.returned (.tuple #[.int .i64 (EH xs dev.data.toList).1,.bool (EH xs dev.data.toList).2])/\Below w.heap.size w w':=by
 obtain⟨W1,Ne⟩:=bg w (.cells #[.int .i64 st,.string re,.int .i64 mi,.slice A n c,.string bo,.int .i64 asked,.int .i64 got,.slice V m d] 105);have b1:=bm Ne;have x1:=dU Ne;have k1:=z_ st mi asked got re bo A V n c m d xs dev W1 (hM.below b1) (hr.below b1) hn hs;unfold EH;generalize oS xs dev.data.toList=k at*;obtain⟨a,b,e,h,ag,ex⟩:=k;unfold Bk at k1;simp only at k1 ⊢
 have k2:=λW=>Lq ag W
 have c0:=(ab x1 0).1;have c1:=(ab x1 1).1;have c2:=(ab x1 2).1;have c3:=(ab x1 3).1;have c4:=(ab x1 4).1;have c5:=(ab x1 5).1;have c6:=(ab x1 6).1;have c7:=(ab x1 7).1;simp only[cT,cv,cS]at c0 c1 c2 c3 c4 c5 c6 c7;obtain⟨K1,K2,NC,B1⟩:=bK k1 k2 Ne b1;clear k1 k2 hr hs hM Ne b1 x1;unfold dI at*;go_enter Tryz.func151,Tryz.ntmps151
 go_wp2_with fail
 rw[NC.out];refine K1.out.mono ?_;rintro e1 w1 ⟨rfl,M8⟩;obtain⟨W2,Nw⟩:=bg w1 (.cells #[.bool a,.bool b,.bool e,.bool h,.int .i64 ag,.int .i64 ex] 45);have b2:=bm Nw;have x2:=dU Nw;have d3:=(ab x2 3).1;have d4:=(ab x2 4).1;simp only[cT,cv,cS]at d3 d4;obtain⟨HB,Of⟩:=az (bt (bt B1.out M8) b2) Nw;clear M8 b2 Nw x2 K1 B1 c0 c1 c2 c3 c4 c5 c6 c7 NC;go_upto_region 2 with(fail)
 rw[Of.out];go_quiet (first|(go_at_call 208;with_reducible exact(K2.out _).mono (λ_ _⟨h1,h2⟩=>⟨h1,_,h2.symm⟩)))
 go_wp2;go_ret2
 exact⟨rfl,Go.below_drewN HB.out _⟩
theorem pZ(nm:ByteArray)(none:Bool)(w:World):Calls Tryz.prog 152 #[.string nm,.bool none] w λe w'=>e=.returned (.agg #[.func (.func 209) #[] #[.pointer (some ⟨w.heap.size,0,.none⟩),.pointer (some ⟨w.heap.size+1,0,.none⟩)]])/\w'.cell? ⟨w.heap.size,0,.none⟩=some (.string nm)/\w'.cell? ⟨w.heap.size+1,0,.none⟩=some (.bool none)/\w.heap.size+1<w'.heap.size/\Below w.heap.size w w':=by
 go_enter Tryz.func152,Tryz.ntmps152
 obtain⟨W1,Ne⟩:=bg w (.cells #[.string nm] 9);have b1:=bm Ne;have z1:W1.heap.size=w.heap.size+1:=by rw[<-Ne];simp
 have c1:W1.cell? ⟨w.heap.size,0,.none⟩=some (.string nm):=by rw[<-Ne];exact cK w _ _ _ 0
 obtain⟨W2,Nw⟩:=bg W1 (.cells #[.bool none] 4);have b2:=bm Nw;have z2:W2.heap.size=w.heap.size+2:=by rw[<-Nw];simp[z1]
 have c2:W2.cell? ⟨w.heap.size+1,0,.none⟩=some (.bool none):=by rw[<-Nw,<-z1];exact cK W1 _ _ _ 0
 have b3:=(aO W2.heap.size W2).alloc (aw _) (.cells #[.func (.func 209) #[] #[.pointer (some ⟨w.heap.size,0,.none⟩),.pointer (some ⟨w.heap.size+1,0,.none⟩)]] 245);have d1:=(b3.cell (p:=⟨w.heap.size,0,.none⟩) (by show w.heap.size<_;omega)).trans ((b2.cell (p:=⟨w.heap.size,0,.none⟩) (by show w.heap.size<_;omega)).trans c1);have d2:=(b3.cell (p:=⟨w.heap.size+1,0,.none⟩) (by show w.heap.size+1<_;omega)).trans c2;have d3:=b3.size;obtain⟨NC,Of,HB⟩:=bu Ne Nw (bt (bt b1 b2) b3);obtain⟨D1,D2,Z2,D3⟩:=bK d1 d2 z2 d3;clear Ne Nw b1 b2 b3 c1 c2 d1 d2 z1 z2 d3;go_wp2_with fail
 rw[NC.out,Of.out];refine bodyPost_ret_by (v:=.agg #[.func (.func 209) #[] #[.pointer (some ⟨w.heap.size,0,.none⟩),.pointer (some ⟨w.heap.size+1,0,.none⟩)]]) ?_ rfl ?_
 ·rw[fT rfl];rw[<-Of.out,<-NC.out];go_simp
 ·exact⟨rfl,D1.out,D2.out,by have:=Z2.out;have:=D3.out;omega,HB.out⟩
def K_(b:Bool):Option da->Int × Bool
 |some d=>(bif b then 0 else qW d.value,true)
 |none=>(0,false)
theorem rR(N B:Nat)(nm:List UInt8)(none:Bool)(st mi asked got:Int)(re bo:ByteArray)(A V:Option Addr)(n c m d:Nat)(xs:List aU)(dev:ByteArray)(w:World)(hM:cq w)(hr:Rd A n 2 (aJ xs) w)(hn:n<=1000)(hs:aE xs<=800000)(QM:nm.length<=100)(hN:w.cell? ⟨N,0,.none⟩=some (.string ⟨nm.toArray⟩))(hB:w.cell? ⟨B,0,.none⟩=some (.bool none))(XF:N<w.heap.size)(Uo:B<w.heap.size):Calls Tryz.prog 209 #[dI st re mi A n c bo asked got V m d,.string dev,.pointer (some ⟨N,0,.none⟩),.pointer (some ⟨B,0,.none⟩)] w λe w'=>e=.returned (.tuple #[.int .i64 (mC none nm xs).1,.bool (mC none nm xs).2])/\Below w.heap.size w w':=by
 obtain⟨W1,Ne⟩:=bg w (.cells #[.int .i64 st,.string re,.int .i64 mi,.slice A n c,.string bo,.int .i64 asked,.int .i64 got,.slice V m d] 105);have b1:=bm Ne;have x1:=dU Ne;have k1:=λW(hb:Below W1.heap.size W1 W)=>cX A n c xs Bi W (hr.below (bt b1 hb)) (by omega) (λf hf=>by have:=bM hf;omega) (by decide)
 have QS:=cD xs mJ;have TG:∀v∈af xs mJ,v.length<=900000:=λv hv=>by have:=gM hv;omega
 rw[show(Bi:ByteArray).data.toList=mJ from rfl]at k1;have k2:=λW(hb:Below w.heap.size w W)a c'(h:Rd a (af xs mJ).length 1 (aF (af xs mJ)) W)=>lC a (af xs mJ).length c' (af xs mJ) W (hM.below hb) h (by have:=hr.fld;omega) (λv hv=>by have:=TG v hv;omega)
 have Ot:=CP (B:=900000) TG;have hfw:=mg (af xs mJ);have O4:=hr.fld;have hrf:mC none nm xs=K_ none (ml (bD (af xs mJ)) nm):=rfl;rw[hrf];clear hrf;have hvd:∀d,ml (bD (af xs mJ)) nm=some d->d.value.length<=1000000:=λd hd=>by have:=(Ot d (List.mem_of_find?_eq_some hd)).2;omega
 have Pd:(bD (af xs mJ)).length<=1000000:=by omega
 have Oi:∀d∈bD (af xs mJ),d.name.length<=140737488351232:=λd hd=>by have:=(Ot d hd).1;omega
 generalize bD (af xs mJ)=ds at*;have k3:=λW a c'(h:Rd a ds.length 4 (cz ds) W)=>AE a ds.length c' ds ⟨nm.toArray⟩ W h Pd Oi (by rw[aY];show nm.length<=_;omega)
 simp only at k3
 have k4:=λ(d:da)(hd:ml ds nm=some d)W=>oy ⟨d.value.toArray⟩ W (by rw[aY];exact hvd d hd)
 have x3:=(ab x1 3).1;have hEl:=(ab x1 3).2.2;simp only[cT,cv,cS]at x3;have n1:=(b1.cell (p:=⟨N,0,.none⟩) XF).trans hN;have n2:=(b1.cell (p:=⟨B,0,.none⟩) Uo).trans hB;have hNl1:=bE XF b1.size;have VP:=bE Uo b1.size;generalize af xs mJ=vs at*;generalize ml ds nm=o at*
 obtain⟨dn,dv,dh,df,ho,hsv,PZ,Sq⟩:∃(dn dv:List UInt8) (dh:Bool) (df:List UInt8) (ho:Bool),nT o=.tuple #[.agg #[.string ⟨dn.toArray⟩,.string ⟨dv.toArray⟩,.bool dh,.string ⟨df.toArray⟩],.bool ho]/\dv.length<=1000000/\K_ none o=(bif none then(0:Int)else qW dv,ho):=by
  cases o with
  |none=>exact⟨[],[],false,[],false,rfl,by decide,by cases none<;>rfl⟩
  |some d=>exact⟨d.name,d.value,d.has,d.for_,true,rfl,hvd d rfl,by cases none<;>rfl⟩
 rw[Sq];simp only[hsv]at k3;have k7:=λW=>oy ⟨dv.toArray⟩ W (by rw[aY];exact PZ)
 clear Sq hsv PZ k4;obtain⟨NC,K1,K2,K3,K7,B1⟩:=eN Ne k1 k2 k3 k7 b1;clear Ne k1 k2 k3 k7 x1 hr hs hM b1 QS TG hN hB Ot hfw O4 hvd Pd Oi;unfold dI;have kc:∀w',Below W1.heap.size W1 w'->w'.cell? ⟨w.heap.size,3,.none⟩=some (.slice A n c)/\w'.cell? ⟨N,0,.none⟩=some (.string ⟨nm.toArray⟩)/\Below W1.heap.size W1 w':=λw' hb=>⟨(hb.cell (p:=⟨w.heap.size,3,.none⟩) hEl).trans x3,(hb.cell (p:=⟨N,0,.none⟩) hNl1).trans n1,hb⟩
 have KC:=ah kc;have PD:Below W1.heap.size W1 W1.drew:=(aO _ _).drew;clear kc;go_enter Tryz.func209,Tryz.ntmps209
 go_upto_region 1 with(fail)
 rw[NC.out];go_wp2_with fail
 refine BW KC.out PD λM7=>?_
 refine aX 0 1 2 5 M7 ?_;refine wpAnyH_ready (rs:=[3,10]) (by kernel_rfl) (by simp) (AllReadyH.cons lW (λK hK=>?_) (AllReadyH.cons lW (λK hK=>?_) AllReadyH.nil))
 ·rw[if_pos (by rfl)];go_simp;refine(K1.out _ PD).mono ?_;rintro e w1 ⟨a1,c1,rfl,Nr,M8⟩;have OX:=bt PD M8;have Nr:=Nr.rd.2;go_wp2_with fail
  refine hK.out _ _ (KC.out _ OX) (λM7=>?_);clear hK K
  try simp only[Act.put,go,gk,gn]
  refine wpAnyH_ready (rs:=[4,10]) (by kernel_rfl) (by simp) (AllReadyH.cons lW (λK hK=>?_) (AllReadyH.cons lW (λK hK=>?_) AllReadyH.nil))
  ·rw[if_pos (by rfl)];go_simp;refine(K2.out _ (bt B1.out OX) _ c1 Nr).mono ?_;rintro e w2 ⟨a2,c2,rfl,Nz,M9⟩;have Oc:=bt OX M9;have Nz:=Nz.rd.2;go_wp2_with fail
   refine hK.out _ _ (KC.out _ Oc) (λM7=>?_);clear hK K
   try simp only[Act.put,go,gk,gn]
   refine wpAnyH_ready (rs:=[6,10]) (by kernel_rfl) (by simp) (AllReadyH.cons lW (λK hK=>?_) (AllReadyH.cons lW (λK hK=>?_) AllReadyH.nil))
   ·rw[if_pos (by rfl)];go_simp;refine(K3.out _ a2 c2 Nz).mono ?_;rintro e w3 ⟨rfl,Na⟩;have RI:=bt Oc Na;go_wp2_with fail
    refine hK.out _ _ (KC.out _ RI) (λM7=>?_);clear hK K;refine eC 7 8 M7 ?_;refine fM 9 M7 ?_;refine cL 10 λK hK=>?_
    go_simp;have Sd:=RI.alloc RI.size lB;refine hK.out _ _ (KC.out _ Sd) (λM7=>?_);clear hK K
    try simp only[Act.put,go,gk,gn]
    refine cL 11 λK hK=>?_
    go_simp;have Nn:=RI.alloc RI.size (.cells #[.string ⟨dn.toArray⟩,.string ⟨dv.toArray⟩,.bool dh,.string ⟨df.toArray⟩] 87);refine hK.out _ _ (KC.out _ Nn) (λM7=>?_);clear hK K
    try simp only[Act.put,go,gk,gn]
    have e1:(w3.alloc (.cells #[.string ⟨dn.toArray⟩,.string ⟨dv.toArray⟩,.bool dh,.string ⟨df.toArray⟩] 87)).cell? ⟨w3.heap.size,1,.none⟩=some (.string ⟨dv.toArray⟩):=cK w3 _ _ _ 1;refine fM 12 M7 ?_;refine wpAnyH_done (by kernel_rfl) ?_ _;obtain⟨W5,OH⟩:=aH (w3.alloc (.cells #[.string ⟨dn.toArray⟩,.string ⟨dv.toArray⟩,.bool dh,.string ⟨df.toArray⟩] 87));rw[OH]at e1 Nn ⊢;have n3:=(Nn.cell (p:=⟨B,0,.none⟩) VP).trans n2;have Pi:=ah (bt B1.out Nn);clear M7 OH Nn PD OX Oc RI M8 M9 Na K1 K2 K3 KC n1 n2 x3 Nr Nz;clear Sd
    cases none
    ·go_wp2_with fail
     refine(K7.out _).mono ?_;rintro e w4 ⟨rfl,rfl⟩;go_wp2;go_ret2
     exact⟨rfl,Pi.out⟩
    ·go_wp2;go_ret2
     exact⟨rfl,Pi.out⟩
   ·rw[if_pos (by rfl)];go_simp;have Qx:Below W1.heap.size W1 ((w2).alloc lB):=Oc.alloc Oc.size _;refine hK.out _ _ (KC.out _ Qx) (λM7=>?_);clear hK K
    try simp only[Act.put,go,gk,gn]
    have Rj:Below (w2).heap.size w2 ((w2).alloc lB):=(aO (w2).heap.size w2).alloc (aw _) _;have Nz:=Nz.below Rj;clear Rj;obtain⟨bk,Rb⟩:=aH ((w2).heap.size);have Np:((w2).alloc lB).heap[bk]?=some (.cells #[.string ⟨#[]⟩,.string ⟨#[]⟩,.bool false,.string ⟨#[]⟩] 87 (0,0)):=ay w2 _ _ Rb;have Nx:bk<((w2).alloc lB).heap.size:=by rw[<-Rb];simp
    have hle:W1.heap.size<=bk:=by rw[<-Rb];exact Oc.size
    obtain⟨WA,NK⟩:=aH ((w2).alloc lB);rw[NK]at Qx Nz Np Nx ⊢;rw[NK]at M7;have Rb:w2.heap.size=bk:=Rb;rw[Rb];clear NK;refine cL 6 λK hK=>?_
    go_simp;refine(K3.out _ a2 c2 Nz).mono ?_;rintro e w3 ⟨rfl,Na⟩;have RI:=bt Qx Na;go_wp2_with fail
    refine hK.out _ _ (KC.out _ RI) (λM7=>?_);clear hK K
    try simp only[Act.put,go,gk,gn]
    have Np:=(Na.block bk Nx).trans Np;have Nx:=bE Nx Na.size;refine eC 7 8 M7 ?_;refine fM 9 M7 ?_;have q0:=(ab Np 0).1;have q1:=(ab Np 1).1;have q2:=(ab Np 2).1;have q3:=(ab Np 3).1;have p0:=(ab Np 0).2.1;have p1:=(ab Np 1).2.1;have p2:=(ab Np 2).2.1;have p3:=(ab Np 3).2.1;simp only[cT,cv,cS]at q0 q1 q2 q3;refine cL 11 λK hK=>?_
    go_simp;have Nn:Below W1.heap.size W1 ((((w3.setCell ⟨bk,0,.none⟩ (.string ⟨dn.toArray⟩)).setCell ⟨bk,1,.none⟩ (.string ⟨dv.toArray⟩)).setCell ⟨bk,2,.none⟩ (.bool dh)).setCell ⟨bk,3,.none⟩ (.string ⟨df.toArray⟩)):=(((RI.setCell (p:=⟨bk,0,.none⟩) hle _).setCell (p:=⟨bk,1,.none⟩) hle _).setCell (p:=⟨bk,2,.none⟩) hle _).setCell (p:=⟨bk,3,.none⟩) hle _;refine hK.out _ _ (KC.out _ Nn) (λM7=>?_);clear hK K
    try simp only[Act.put,go,gk,gn]
    have PQ:=ar (j:=3) (v:=.string ⟨df.toArray⟩) (ar (j:=2) (v:=.bool dh) (ar (j:=1) (v:=.string ⟨dv.toArray⟩) (ar (j:=0) (v:=.string ⟨dn.toArray⟩) Np)));have e1:=(ab PQ 1).1;simp only[cH,cI,cF,cT,cv,cS]at e1;refine fM 12 M7 ?_;refine wpAnyH_done (by kernel_rfl) ?_ _;obtain⟨W5,OH⟩:=aH ((((w3.setCell ⟨bk,0,.none⟩ (.string ⟨dn.toArray⟩)).setCell ⟨bk,1,.none⟩ (.string ⟨dv.toArray⟩)).setCell ⟨bk,2,.none⟩ (.bool dh)).setCell ⟨bk,3,.none⟩ (.string ⟨df.toArray⟩));rw[OH]at e1 Nn ⊢;have n3:=(Nn.cell (p:=⟨B,0,.none⟩) VP).trans n2;have Pi:=ah (bt B1.out Nn);clear M7 OH Nn PD OX Oc RI M8 M9 Na K1 K2 K3 KC n1 n2 x3 Nr Nz;clear PQ Np q0 q1 q2 q3 p0 p1 p2 p3
    cases none
    ·go_wp2_with fail
     refine(K7.out _).mono ?_;rintro e w4 ⟨rfl,rfl⟩;go_wp2;go_ret2
     exact⟨rfl,Pi.out⟩
    ·go_wp2;go_ret2
     exact⟨rfl,Pi.out⟩
  ·rw[if_pos (by rfl)];go_simp;have Qx:Below W1.heap.size W1 ((w1).alloc lB):=OX.alloc OX.size _;refine hK.out _ _ (KC.out _ Qx) (λM7=>?_);clear hK K
   try simp only[Act.put,go,gk,gn]
   have Rj:Below (w1).heap.size w1 ((w1).alloc lB):=(aO (w1).heap.size w1).alloc (aw _) _;have Nr:=Nr.below Rj;clear Rj;obtain⟨bk,Rb⟩:=aH ((w1).heap.size);have Np:((w1).alloc lB).heap[bk]?=some (.cells #[.string ⟨#[]⟩,.string ⟨#[]⟩,.bool false,.string ⟨#[]⟩] 87 (0,0)):=ay w1 _ _ Rb;have Nx:bk<((w1).alloc lB).heap.size:=by rw[<-Rb];simp
   have hle:W1.heap.size<=bk:=by rw[<-Rb];exact OX.size
   obtain⟨WA,NK⟩:=aH ((w1).alloc lB);rw[NK]at Qx Nr Np Nx ⊢;rw[NK]at M7;have Rb:w1.heap.size=bk:=Rb;rw[Rb];clear NK;refine cL 4 λK hK=>?_
   go_simp;refine(K2.out _ (bt B1.out Qx) _ c1 Nr).mono ?_;rintro e w2 ⟨a2,c2,rfl,Nz,M9⟩;have Oc:=bt Qx M9;have Nz:=Nz.rd.2;go_wp2_with fail
   refine hK.out _ _ (KC.out _ Oc) (λM7=>?_);clear hK K
   try simp only[Act.put,go,gk,gn]
   have Np:=(M9.block bk Nx).trans Np;have Nx:=bE Nx M9.size;refine cL 6 λK hK=>?_
   go_simp;refine(K3.out _ a2 c2 Nz).mono ?_;rintro e w3 ⟨rfl,Na⟩;have RI:=bt Oc Na;go_wp2_with fail
   refine hK.out _ _ (KC.out _ RI) (λM7=>?_);clear hK K
   try simp only[Act.put,go,gk,gn]
   have Np:=(Na.block bk Nx).trans Np;have Nx:=bE Nx Na.size;refine eC 7 8 M7 ?_;refine fM 9 M7 ?_;have q0:=(ab Np 0).1;have q1:=(ab Np 1).1;have q2:=(ab Np 2).1;have q3:=(ab Np 3).1;have p0:=(ab Np 0).2.1;have p1:=(ab Np 1).2.1;have p2:=(ab Np 2).2.1;have p3:=(ab Np 3).2.1;simp only[cT,cv,cS]at q0 q1 q2 q3;refine cL 11 λK hK=>?_
   go_simp;have Nn:Below W1.heap.size W1 ((((w3.setCell ⟨bk,0,.none⟩ (.string ⟨dn.toArray⟩)).setCell ⟨bk,1,.none⟩ (.string ⟨dv.toArray⟩)).setCell ⟨bk,2,.none⟩ (.bool dh)).setCell ⟨bk,3,.none⟩ (.string ⟨df.toArray⟩)):=(((RI.setCell (p:=⟨bk,0,.none⟩) hle _).setCell (p:=⟨bk,1,.none⟩) hle _).setCell (p:=⟨bk,2,.none⟩) hle _).setCell (p:=⟨bk,3,.none⟩) hle _;refine hK.out _ _ (KC.out _ Nn) (λM7=>?_);clear hK K
   try simp only[Act.put,go,gk,gn]
   have PQ:=ar (j:=3) (v:=.string ⟨df.toArray⟩) (ar (j:=2) (v:=.bool dh) (ar (j:=1) (v:=.string ⟨dv.toArray⟩) (ar (j:=0) (v:=.string ⟨dn.toArray⟩) Np)));have e1:=(ab PQ 1).1;simp only[cH,cI,cF,cT,cv,cS]at e1;refine fM 12 M7 ?_;refine wpAnyH_done (by kernel_rfl) ?_ _;obtain⟨W5,OH⟩:=aH ((((w3.setCell ⟨bk,0,.none⟩ (.string ⟨dn.toArray⟩)).setCell ⟨bk,1,.none⟩ (.string ⟨dv.toArray⟩)).setCell ⟨bk,2,.none⟩ (.bool dh)).setCell ⟨bk,3,.none⟩ (.string ⟨df.toArray⟩));rw[OH]at e1 Nn ⊢;have n3:=(Nn.cell (p:=⟨B,0,.none⟩) VP).trans n2;have Pi:=ah (bt B1.out Nn);clear M7 OH Nn PD OX Oc RI M8 M9 Na K1 K2 K3 KC n1 n2 x3 Nr Nz;clear PQ Np q0 q1 q2 q3 p0 p1 p2 p3
   cases none
   ·go_wp2_with fail
    refine(K7.out _).mono ?_;rintro e w4 ⟨rfl,rfl⟩;go_wp2;go_ret2
    exact⟨rfl,Pi.out⟩
   ·go_wp2;go_ret2
    exact⟨rfl,Pi.out⟩
 ·rw[if_pos (by rfl)];go_simp;have Qx:Below W1.heap.size W1 ((W1.alloc lB).drew):=PD.alloc PD.size _;refine hK.out _ _ (KC.out _ Qx) (λM7=>?_);clear hK K
  try simp only[Act.put,go,gk,gn]
  have Rj:Below (W1.drew).heap.size W1.drew ((W1.alloc lB).drew):=(aO (W1.drew).heap.size W1.drew).alloc (aw _) _;clear Rj;have Np:((W1.alloc lB).drew).heap[W1.heap.size]?=some (.cells #[.string ⟨#[]⟩,.string ⟨#[]⟩,.bool false,.string ⟨#[]⟩] 87 (0,0)):=ay W1.drew _ _ rfl;have Nx:W1.heap.size<((W1.alloc lB).drew).heap.size:=by simp
  have hle:W1.heap.size<=W1.heap.size:=aw _;obtain⟨WA,NK⟩:=aH ((W1.alloc lB).drew);rw[NK]at Qx Np Nx ⊢;rw[NK]at M7;clear NK;refine cL 3 λK hK=>?_
  go_simp;refine(K1.out _ Qx).mono ?_;rintro e w1 ⟨a1,c1,rfl,Nr,M8⟩;have OX:=bt Qx M8;have Nr:=Nr.rd.2;go_wp2_with fail
  refine hK.out _ _ (KC.out _ OX) (λM7=>?_);clear hK K
  try simp only[Act.put,go,gk,gn]
  have Np:=(M8.block W1.heap.size Nx).trans Np;have Nx:=bE Nx M8.size;refine cL 4 λK hK=>?_
  go_simp;refine(K2.out _ (bt B1.out OX) _ c1 Nr).mono ?_;rintro e w2 ⟨a2,c2,rfl,Nz,M9⟩;have Oc:=bt OX M9;have Nz:=Nz.rd.2;go_wp2_with fail
  refine hK.out _ _ (KC.out _ Oc) (λM7=>?_);clear hK K
  try simp only[Act.put,go,gk,gn]
  have Np:=(M9.block W1.heap.size Nx).trans Np;have Nx:=bE Nx M9.size;refine cL 6 λK hK=>?_
  go_simp;refine(K3.out _ a2 c2 Nz).mono ?_;rintro e w3 ⟨rfl,Na⟩;have RI:=bt Oc Na;go_wp2_with fail
  refine hK.out _ _ (KC.out _ RI) (λM7=>?_);clear hK K
  try simp only[Act.put,go,gk,gn]
  have Np:=(Na.block W1.heap.size Nx).trans Np;have Nx:=bE Nx Na.size;refine eC 7 8 M7 ?_;refine fM 9 M7 ?_;have q0:=(ab Np 0).1;have q1:=(ab Np 1).1;have q2:=(ab Np 2).1;have q3:=(ab Np 3).1;have p0:=(ab Np 0).2.1;have p1:=(ab Np 1).2.1;have p2:=(ab Np 2).2.1;have p3:=(ab Np 3).2.1;simp only[cT,cv,cS]at q0 q1 q2 q3;refine cL 11 λK hK=>?_
  go_simp;have Nn:Below W1.heap.size W1 ((((w3.setCell ⟨W1.heap.size,0,.none⟩ (.string ⟨dn.toArray⟩)).setCell ⟨W1.heap.size,1,.none⟩ (.string ⟨dv.toArray⟩)).setCell ⟨W1.heap.size,2,.none⟩ (.bool dh)).setCell ⟨W1.heap.size,3,.none⟩ (.string ⟨df.toArray⟩)):=(((RI.setCell (p:=⟨W1.heap.size,0,.none⟩) hle _).setCell (p:=⟨W1.heap.size,1,.none⟩) hle _).setCell (p:=⟨W1.heap.size,2,.none⟩) hle _).setCell (p:=⟨W1.heap.size,3,.none⟩) hle _;refine hK.out _ _ (KC.out _ Nn) (λM7=>?_);clear hK K
  try simp only[Act.put,go,gk,gn]
  have PQ:=ar (j:=3) (v:=.string ⟨df.toArray⟩) (ar (j:=2) (v:=.bool dh) (ar (j:=1) (v:=.string ⟨dv.toArray⟩) (ar (j:=0) (v:=.string ⟨dn.toArray⟩) Np)));have e1:=(ab PQ 1).1;simp only[cH,cI,cF,cT,cv,cS]at e1;refine fM 12 M7 ?_;refine wpAnyH_done (by kernel_rfl) ?_ _;obtain⟨W5,OH⟩:=aH ((((w3.setCell ⟨W1.heap.size,0,.none⟩ (.string ⟨dn.toArray⟩)).setCell ⟨W1.heap.size,1,.none⟩ (.string ⟨dv.toArray⟩)).setCell ⟨W1.heap.size,2,.none⟩ (.bool dh)).setCell ⟨W1.heap.size,3,.none⟩ (.string ⟨df.toArray⟩));rw[OH]at e1 Nn ⊢;have n3:=(Nn.cell (p:=⟨B,0,.none⟩) VP).trans n2;have Pi:=ah (bt B1.out Nn);clear M7 OH Nn PD OX Oc RI M8 M9 Na K1 K2 K3 KC n1 n2 x3 Nr Nz;clear PQ Np q0 q1 q2 q3 p0 p1 p2 p3
  cases none
  ·go_wp2_with fail
   refine(K7.out _).mono ?_;rintro e w4 ⟨rfl,rfl⟩;go_wp2;go_ret2
   exact⟨rfl,Pi.out⟩
  ·go_wp2;go_ret2
   exact⟨rfl,Pi.out⟩
theorem Ai(st mi asked got:Int)(re bo:ByteArray)(A V:Option Addr)(n c m d:Nat)(xs:List aU)(dev:ByteArray)(w:World)(hE:d9 w)(hr:Rd A n 2 (aJ xs) w)(hn:n<=1000)(hs:aE xs<=800000)(hg:-9223372036854775808<=got/\got<=9223372036854775807):Calls Tryz.prog 153 #[dI st re mi A n c bo asked got V m d,.string dev] w λe w'=>e=.returned (.tuple #[.int .i64 (Fy xs got).1,.bool (Fy xs got).2])/\Below w.heap.size w w':=by
 obtain⟨W1,Ne⟩:=bg w (.cells #[.int .i64 st,.string re,.int .i64 mi,.slice A n c,.string bo,.int .i64 asked,.int .i64 got,.slice V m d] 105);have b1:=bm Ne;have x1:=dU Ne;have k1:=iN A n c xs Du W1 (hr.below b1) (by omega) (by omega) (by decide);rw[show(Du:ByteArray).data.toList=yS from rfl]at k1;unfold ux at k1;have k2:=λW(hb:Below w.heap.size w W)=>sB st mi asked got re bo A V n c m d xs Du W (hE.below hb) (hr.below hb) hn hs (by decide)
 have k3:=λW(hb:Below w.heap.size w W)=>sB st mi asked got re bo A V n c m d xs Dd W (hE.below hb) (hr.below hb) hn hs (by decide)
 rw[show(Du:ByteArray).data.toList=yS from rfl]at k2;rw[show(Dd:ByteArray).data.toList=mo from rfl]at k3;have ht:=sY xs yS got;have hd:=sY xs mo got;unfold Fy;generalize c_ xs yS=g at*;generalize iT xs yS got=te at*;generalize iT xs mo got=td at*;obtain⟨gv,gi⟩:=g;obtain⟨t1,i1⟩:=te;obtain⟨t2,i2⟩:=td;simp only at k1 k2 k3 ht hd ⊢
 have x0:=ab x1 0;have x3:=(ab x1 3).1;have UG:∀j,W1.cell? ⟨w.heap.size,j,none⟩=#[.int .i64 st,.string re,.int .i64 mi,.slice A n c,.string bo,.int .i64 asked,.int .i64 got,.slice V m d][j]?:=λj=>(ab x1 j).1
 have hz:w.heap.size<W1.heap.size:=x0.2.2;have X1:=ah x1;obtain⟨NC,K1,K2,K3,B1⟩:=gB Ne k1 k2 k3 b1;have k4:=λW=>ll t2 t1 W (by omega) (by omega) (by omega) (by omega)
 have k5:=λW=>ll got t1 W (by omega) (by omega) (by omega) (by omega)
 obtain⟨K4,K5⟩:=az k4 k5;clear Ne k1 k2 k3 k4 k5 x1 hr hs hE b1 x0 UG;unfold dI at K2 K3 ⊢
 cases gi
 ·try simp only
  go_enter Tryz.func153,Tryz.ntmps153
  go_wp2_with fail
  rw[NC.out];refine K1.out.mono ?_;rintro e w1 ⟨rfl,M8⟩;have HB:=ah (bt B1.out M8);clear M8 K1 K2 K3 K4 K5;go_wp2;go_ret2
  exact⟨rfl,HB.out⟩
 ·try simp only
  go_enter Tryz.func153,Tryz.ntmps153
  go_wp2_with fail
  rw[NC.out];refine K1.out.mono ?_;rintro e w1 ⟨rfl,M8⟩;have y1:=(M8.block w.heap.size hz).trans X1.out;have y0:=(ab y1 0).1;have y1a:=(ab y1 1).1;have y2:=(ab y1 2).1;have y3:=(ab y1 3).1;have y4:=(ab y1 4).1;have y5:=(ab y1 5).1;have y6:=(ab y1 6).1;have y7:=(ab y1 7).1;simp only[cT,cv,cS]at y0 y1a y2 y3 y4 y5 y6 y7;have NZ:=bE hz M8.size;have HB:=ah (bt B1.out M8);have k6:=K2.out w1 HB.out;have K6:=ah k6;have Y1:=ah y1;clear M8 K1 K2 k6 B1 y1;go_wp2_with fail
  refine K6.out.mono ?_;rintro e w2 ⟨rfl,M9⟩;have OT:=ah (bt HB.out M9)
  cases i1
  ·try simp only
   clear K6 K3 K4 K5 HB M9;go_wp2;go_ret2
   exact⟨rfl,OT.out⟩
  ·try simp only
   have z1:=(M9.block w.heap.size NZ).trans Y1.out;have z0:=(ab z1 0).1;have z1a:=(ab z1 1).1;have z2:=(ab z1 2).1;have z3:=(ab z1 3).1;have z4:=(ab z1 4).1;have z5:=(ab z1 5).1;have z6:=(ab z1 6).1;have z7:=(ab z1 7).1;simp only[cT,cv,cS]at z0 z1a z2 z3 z4 z5 z6 z7;have N6:=bE NZ M9.size;have k7:=K3.out w2 OT.out;have K7:=ah k7;have Z1:=ah z1;clear M9 K6 K3 k7 HB z1 y0 y1a y2 y3 y4 y5 y6 y7 Y1;go_wp2_with fail
   refine K7.out.mono ?_;rintro e w3 ⟨rfl,Na⟩;have Og:=ah (bt OT.out Na);have u1:=(Na.block w.heap.size N6).trans Z1.out;have u6:=(ab u1 6).1;simp only[cT,cv,cS]at u6;clear Na K7 OT u1 Z1 z0 z1a z2 z3 z4 z5 z6 z7
   cases i2
   ·try simp only
    go_wp2_with fail
    refine(K5.out _).mono ?_;rintro e w4 ⟨rfl,rfl⟩;go_wp2;go_ret2
    exact⟨rfl,Og.out⟩
   ·try simp only
    go_wp2_with fail
    refine(K4.out _).mono ?_;rintro e w4 ⟨rfl,rfl⟩;go_wp2;go_ret2
    exact⟨rfl,Og.out⟩
def ms(b:Nat)(st:Int)(re:ByteArray)(mi:Int)(A:Option Addr)(n c:Nat)(bo:ByteArray)(asked got:Int)(V:Option Addr)(m d:Nat)(w:World):Prop:=w.heap[b]?=some (.cells #[.int .i64 st,.string re,.int .i64 mi,.slice A n c,.string bo,.int .i64 asked,.int .i64 got,.slice V m d] 105 (0,0))
theorem ms.cells{b:Nat}{st:Int}{re:ByteArray}{mi:Int}{A:Option Addr}{n c:Nat}{bo:ByteArray}{asked got:Int}{V:Option Addr}{m d:Nat}(h:ms b st re mi A n c bo asked got V m d w):w.cell? ⟨b,0,none⟩=some (.int .i64 st)/\w.cell? ⟨b,1,none⟩=some (.string re)/\w.cell? ⟨b,2,none⟩=some (.int .i64 mi)/\w.cell? ⟨b,3,none⟩=some (.slice A n c)/\w.cell? ⟨b,4,none⟩=some (.string bo)/\w.cell? ⟨b,5,none⟩=some (.int .i64 asked)/\w.cell? ⟨b,6,none⟩=some (.int .i64 got)/\w.cell? ⟨b,7,none⟩=some (.slice V m d)/\b<w.heap.size:=⟨(ab h 0).1,(ab h 1).1,(ab h 2).1,(ab h 3).1,(ab h 4).1,(ab h 5).1,(ab h 6).1,(ab h 7).1,(ab h 0).2.2⟩
theorem ms.below{b:Nat}{st:Int}{re:ByteArray}{mi:Int}{A:Option Addr}{n c:Nat}{bo:ByteArray}{asked got:Int}{V:Option Addr}{m d:Nat}(h:ms b st re mi A n c bo asked got V m d w)(hb:Below w.heap.size w w'):ms b st re mi A n c bo asked got V m d w':=(hb.block b h.cells.2.2.2.2.2.2.2.2).trans h
theorem Kg(st mi asked got now:Int)(re bo:ByteArray)(A V:Option Addr)(n c m d:Nat)(xs:List aU)(w:World)(hE:d9 w)(hr:Rd A n 2 (aJ xs) w)(hn:n<=1000)(hs:aE xs<=800000)(hg:-9223372036854775808<=got/\got<=9223372036854775807)(ha:-9223372036854775808<=asked/\asked<=9223372036854775807)(hw:-9223372036854775808<=now/\now<=9223372036854775807):Calls Tryz.prog 91 #[dI st re mi A n c bo asked got V m d,.int .i64 now] w λe w'=>e=.returned (.int .i64 (dz xs asked got now))/\Below w.heap.size w w':=by
 obtain⟨W1,Ne⟩:=bg w (.cells #[.int .i64 st,.string re,.int .i64 mi,.slice A n c,.string bo,.int .i64 asked,.int .i64 got,.slice V m d] 105);have b1:=bm Ne;have x1:ms w.heap.size st re mi A n c bo asked got V m d W1:=by rw[<-Ne];exact ay w _ _ rfl
 have k1:=sB st mi asked got re bo A V n c m d xs Dd W1 (hE.below b1) (hr.below b1) hn hs (by decide);rw[show(Dd:ByteArray).data.toList=mo from rfl]at k1;have k2:=λW(hb:Below w.heap.size w W)=>iN A n c xs ⟨#[97,103,101]⟩ W (hr.below hb) (by omega) (by omega) (by decide)
 rw[show(⟨#[97,103,101]⟩:ByteArray).data.toList=oj from rfl]at k2;have Qh:=nt xs oj;have hd:=sY xs mo got;have O4:=hr.fld;have hag:dz xs asked got now=xK (max (bif(iT xs mo got).2 then gP (iT xs mo got).1 got else 0) (xK (qW (c_ xs oj).1) (gP asked got))) (gP got now):=rfl;rw[hag];clear hag;unfold ux at k2;generalize iT xs mo got=td at*;generalize c_ xs oj=g at*;obtain⟨gv,gi⟩:=g;obtain⟨t2,i2⟩:=td;simp only at k1 k2 hd Qh ⊢
 have k3:=λW=>oy ⟨gv.toArray⟩ W (by rw[aY];show gv.length<=_;omega)
 rw[show(⟨gv.toArray⟩:ByteArray).data.toList=gv from rfl]at k3;have k4:=λW=>ll t2 got W (by omega) (by omega) (by omega) (by omega)
 have k5:=λW=>ll asked got W (by omega) (by omega) (by omega) (by omega)
 have k6:=λW=>ll got now W (by omega) (by omega) (by omega) (by omega)
 have s1:=IU t2 got;have s1':=Ip t2 got;have k7:=λW=>DM (qW gv) (gP asked got) W
 have k8:=λp W=>DM p (gP got now) W
 have u1:=JE (qW gv) (gP asked got);have u2:=Kh (qW gv) (gP asked got);generalize gP t2 got=sd at*;generalize gP asked got=sa at*;generalize gP got now=sn at*;generalize qW gv=nv at*;generalize xK nv sa=told at*;obtain⟨X1,NC,K1,K2,B1⟩:=gB x1 Ne k1 k2 b1;obtain⟨K3,K4,K5,K6,K7,K8⟩:=eN k3 k4 k5 k6 k7 k8;obtain⟨c0,c1,c2,c3,c4,c5,c6,c7,cl⟩:=x1.cells;clear Ne k1 k2 k3 k4 k5 k6 k7 k8 x1 hr hs hE b1 hg ha hw hd Qh O4;unfold dI at K1 ⊢;go_enter Tryz.func91,Tryz.ntmps91
 go_wp2_with fail
 rw[NC.out];refine K1.out.mono ?_;rintro e w1 ⟨rfl,M8⟩;have X2:=ah (X1.out.below M8);have HB:=ah (bt B1.out M8);obtain⟨c0,c1,c2,c3,c4,c5,c6,c7,cl⟩:=X2.out.cells;clear M8 K1 X1 B1 NC
 cases i2
 ·go_wp2_with fail
  refine(K2.out _ HB.out).mono ?_;rintro e w2 ⟨rfl,M9⟩;have X3:=ah (X2.out.below M9);have OT:=ah (bt HB.out M9);clear c0 c1 c2 c3 c4 c5 c6 c7 cl;obtain⟨c0,c1,c2,c3,c4,c5,c6,c7,cl⟩:=X3.out.cells;clear M9 K2 X2 HB K4;go_wp2_with fail
  go_quiet (first
   |(go_at_call 150;with_reducible exact(K3.out _).mono (λ_ _⟨h1,h2⟩=>⟨h1,_,h2.symm⟩))
   |(go_at_call 149;with_reducible exact(K5.out _).mono (λ_ _⟨h1,h2⟩=>⟨h1,_,h2.symm⟩))
   |(go_at_call 131;with_reducible exact(K7.out _).mono (λ_ _⟨h1,h2⟩=>⟨h1,_,h2.symm⟩)))
  go_wp2_with fail
  refine(K6.out _).mono ?_;rintro e w3 ⟨rfl,rfl⟩;go_wp2_with fail
  refine(K8.out _ _).mono ?_;rintro e w3 ⟨rfl,rfl⟩;go_wp2;go_ret;exact⟨eV (by first|rfl|(congr 1;omega)),Go.below_drewN OT.out _⟩
 ·go_wp2_with fail
  refine(K4.out _).mono ?_;rintro e w9 ⟨rfl,rfl⟩;go_wp2_with fail
  refine(K2.out _ HB.out).mono ?_;rintro e w2 ⟨rfl,M9⟩;have X3:=ah (X2.out.below M9);have OT:=ah (bt HB.out M9);clear c0 c1 c2 c3 c4 c5 c6 c7 cl;obtain⟨c0,c1,c2,c3,c4,c5,c6,c7,cl⟩:=X3.out.cells;clear M9 K2 X2 HB K4;go_wp2_with fail
  go_quiet (first
   |(go_at_call 150;with_reducible exact(K3.out _).mono (λ_ _⟨h1,h2⟩=>⟨h1,_,h2.symm⟩))
   |(go_at_call 149;with_reducible exact(K5.out _).mono (λ_ _⟨h1,h2⟩=>⟨h1,_,h2.symm⟩))
   |(go_at_call 131;with_reducible exact(K7.out _).mono (λ_ _⟨h1,h2⟩=>⟨h1,_,h2.symm⟩)))
  go_wp2_with fail
  refine(K6.out _).mono ?_;rintro e w3 ⟨rfl,rfl⟩;go_wp2_with fail
  refine(K8.out _ _).mono ?_;rintro e w3 ⟨rfl,rfl⟩;go_wp2;go_ret;exact⟨eV (by first|rfl|(congr 1;omega)),Go.below_drewN OT.out _⟩
end Go.Proofs.YtdbjnlkbhhebbaaGreatDoor
