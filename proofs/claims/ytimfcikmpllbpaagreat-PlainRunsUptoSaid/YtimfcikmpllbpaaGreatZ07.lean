/- Lemmas for the statements of this seat: contracts of functions and the plain laws. -/
import Derived.Deep.AppendLies
import Derived.Test.YtimfcikmpllbpaaGreatZ06
set_option linter.unusedVariables false
open Go.IntKind renaming i64 → iQ
open Go.Value renaming int → nQ, slice → sQ
open List renaming take_succ_eq_append_getElem → Zb, replicate → Zc, drop_eq_getElem_cons → Zd, length_append → Ze, all_eq_true → Zf, take_length → Zg, mem_of_mem_take → Zh, getElem?_eq_none → Zi, flatMap_append → Zj, getElem?_toArray → Zk, getElem?_append_right → Zl, getElem?_append_left → Zm, take_append_drop → Zn, length_take → Zo, mem_of_mem_drop → Zp, length_drop → Zq, getElem?_set_self → Zr, getElem?_set_ne → Zs
open Nat renaming zero_le → Zt, succ_mul → Zu, le_trans → Zv, zero_add → Zw, add_zero → Zx, le_succ → Zy
open Bool renaming and_eq_true → Zz
open Go.Value renaming int → Za1, slice → Zb1
open Go.IntWalk renaming i64_in → Zc1
open Go.NoPanic renaming normal → Zd1
open Go.RowKit.Below renaming refl → Ze1
open Go.AllReadyH renaming cons → Zf1, nil → Zg1
open Go.World renaming size_alloc → Zh1, cell?_of_block → Zi1, block_lt_of_cell? → Zj1
open Go renaming bodyPost_ret → Zk1, wp_region_held_drew → Zl1, wp_region_noPanic → Zm1, wpAnyH_done → Zn1, wpAnyH_ready → Zo1, World → Zp1
namespace Go.Proofs.YtimfcikmpllbpaaGreat
set_option maxHeartbeats 16000000
set_option maxRecDepth 20000
open Go.RowKit
theorem or_one (n:Int) (n0:0<=n) (n1:n*2<18446744073709551616):bits .or .u64 (n*2) 1=n*2+1:=or_two n 1 n0 oZ oZ oZ
namespace R1
def pre (X i:Nat):Nat:=X*4294967296 / 2 ^ i
theorem pre_start {X:Nat} (h:X<=9223372036854775808):pre X 96=0:=Nat.div_eq_of_lt (by
 have:(2:Nat) ^ 96=79228162514264337593543950336:=by decide
 omega)
theorem pre_zero (X:Nat):pre X 0=X*4294967296:=by simp [pre]
theorem pre_step (X i:Nat):pre X i=2*pre X (i+1)+pre X i % 2:=qda _ _
theorem pre_low {X i:Nat} (h:i<32):pre X i % 2=0:=bit_low h
theorem pre_high {X i:Nat} (h:32<=i):pre X i % 2=X / 2 ^ (i-32) % 2:=by
 have:=bit_high X (i-32)
 rwa [show i-32+32=i by omega] at this
end R1
theorem rnd_zero (d:Nat) (hd:0<d):Fx.rnd 0 d=0:=by
 unfold Fx.rnd;rw [Nat.zero_mod,Nat.zero_div,inZ oZ]
theorem r1_div (x y:Int) (w:Zp1) (hx:Fx.In x) (hy:Fx.In y):Calls Tryz.prog 145 #[nQ iQ x,nQ iQ y] w λe w'=>e=.returned (nQ iQ (Fx.div x y))/\Below w.heap.size w w':=by
 obtain ⟨HX,HY⟩:=zd2 hx hy;clear hx hy
 by_cases hm:x=0
 ·have HE:=zI (show Fx.div x y=0 by
   unfold Fx.div
   split
   ·rfl
   ·rw [hm];simp only [Int.natAbs_zero,Nat.zero_mul];rw [rnd_zero _ oZ];unfold Fx.sgn;split<;>exact Fx.clamp_id Fx.in_zero)
  subst hm;go_enter Tryz.func145,Tryz.ntmps145;go_wp2_with fail;go_ret;exact ⟨qa3 HE.out.symm,Ze1 _ _⟩
 have e0:(x==0)=false:=by simpa using hm
 by_cases ht:y=0
 ·have HE:=zI (show Fx.div x 0=Fx.edge (decide (x<0)) by unfold Fx.div;rw [ipZ rfl,inZ hm])
  subst ht;clear hm;go_enter Tryz.func145,Tryz.ntmps145;go_wp2_with fail;refine (qaI 0 true (decide (x<0)) w oZ oZ).mono ?_;rintro e w9 ⟨rfl,rfl⟩;rw [ipZ rfl,←HE.out];go_wp2_with fail;go_ret;exact ⟨rfl,Ze1 _ _⟩
 have hL:=zI (show Fx.div x y=Fx.clamp (Fx.sgn (Fx.neg2 x y) (Fx.rnd (x.natAbs*4294967296) y.natAbs)) by unfold Fx.div;rw [inZ ht]);have e1:(y==0)=false:=by simpa using ht
 have Hj:=qaR HX.out;have Hx:=qaR HY.out;have Hd:0<y.natAbs:=by omega
 obtain ⟨sx,hsx⟩:∃s,decide (x<0)=s:=⟨_,rfl⟩
 obtain ⟨sy,hsy⟩:∃s,decide (y<0)=s:=⟨_,rfl⟩
 have hq:Fx.neg2 x y=(!(sx==sy)):=by unfold Fx.neg2;rw [hsx,hsy];rfl
 have HM:=zI (hL.out.trans (by rw [hq]));clear hq hm ht hL;have hk:=Blk.new w 210 #[.int .u64 0,.int .u64 0];have hl:=(Later.refl w).alloc (.cells #[.int .u64 0,.int .u64 0] 210);have Hc:=zI λ(W:Zp1)=>qdw x W HX.out
 obtain ⟨Hk,Hl⟩:=zd2 hk hl;clear hk hl;go_enter Tryz.func145,Tryz.ntmps145;go_wp2_with fail;refine (qdw y _ HY.out).mono ?_;rintro e w1 ⟨rfl,rfl⟩;clear HX HY;generalize y.natAbs=d at *;generalize x.natAbs=X at *;have Ht:(d:Int)<=9223372036854775808:=by omega
 go_upto_region 8 with fail
 show Code.wp _ _ _ _ (w.alloc (.cells #[.int .u64 0,.int .u64 0] 210))
 generalize w.alloc (.cells #[.int .u64 0,.int .u64 0] 210)=w0 at *;go_wp2_with fail
 go_loopw [8,9,10] (λn ov i wx=>∃(k rest m:Nat) (o:Bool),k<=96/\i=nQ iQ ((k:Int)-1)/\n=.int .u64 (m:Int)/\ov=.bool o/\R1.Dv (R1.pre X k) d rest m o/\Blk wx w.heap.size 210 #[.int .u64 0,.int .u64 (rest:Int)]/\Later w wx) (λ_ _ i _=>(intOf i+1).toNat)
 case atStart=>exact ⟨96,0,0,false,lrZ _,rfl,rfl,rfl,by rw [R1.pre_start Hj];exact R1.Dv.start d,Hk.out,Hl.out⟩
 case round=>
  clear Hk Hl;obtain ⟨k,rest,m,o,Hg,rfl,rfl,rfl,hD,hn,hw⟩:=hrel;have Hw:=hD.restlt Hd;have Hu:m<18446744073709551616:=by rw [hD.q];exact Nat.mod_lt _ oZ
  have c0:wr.cell? ⟨w.heap.size,0,none⟩=some (.int .u64 0):=hn.cell 0;have c1:wr.cell? ⟨w.heap.size,1,none⟩=some (.int .u64 (rest:Int)):=hn.cell 1;have hY:(0:Int)=0*2+(rest:Int) / 9223372036854775808:=by omega
  have hZ:(rest:Int)*2=(rest:Int)*2 % 18446744073709551616:=by omega
  have hp:=zI λ(W:Zp1)=>qcF 0 (rest:Int) 0 ((rest:Int)*2) W oZ oZ oZ oZ hY hZ
  clear hY hZ;rcases k with _|j
  ·rw [R1.pre_zero] at hD
   have hR:=R1.round (b:=!(sx==sy)) hD.q hD.o;have h2:=hD.r;rw [←h2] at hR;have hd:=zI hR;clear hR h2 hD;obtain ⟨h5,hG⟩:=zd2 hn hw;clear hn hw;go_wp2_with fail;refine (hp.out wr).mono ?_;rintro e w4 ⟨rfl,h4⟩;have h3:Later wr w4:=h4;have hJ:=Blk.new w4 210 #[.int .u64 0,.int .u64 ((rest:Int)*2)];have hO:=(hG.out.trans h3).alloc (.cells #[.int .u64 0,.int .u64 ((rest:Int)*2)] 210);clear h4 h3 c0 c1;obtain ⟨hg,hb⟩:=zd2 hO hJ;clear hJ;clear hO;go_upto_region 25 with fail
   show Code.wp _ _ _ _ (w4.alloc (.cells #[.int .u64 0,.int .u64 ((rest:Int)*2)] 210))
   generalize w4.alloc (.cells #[.int .u64 0,.int .u64 ((rest:Int)*2)] 210)=w5 at *;generalize w4.heap.size=q at *;have c0:w5.cell? ⟨q,0,none⟩=some (.int .u64 0):=hb.out.cell 0;have c1:w5.cell? ⟨q,1,none⟩=some (.int .u64 ((rest:Int)*2)):=hb.out.cell 1;obtain ⟨n,rfl⟩:∃n:Nat,n=m:=⟨_,rfl⟩
   obtain ⟨ov,rfl⟩:∃ov:Bool,ov=o:=⟨_,rfl⟩
   have hs:(0:Int)<=(n:Int):=by omega
   have hr:(n:Int)<18446744073709551616:=by omega
   have h8:d<2*rest∨(2*rest=d/\n % 2=1)∨(2*rest=d/\n % 2=0)∨2*rest<d:=by omega
   rcases h8 with hc|⟨hc,ho⟩|⟨hc,ho⟩|hc
   ·have ha:R1.up rest d n=true:=by unfold R1.up;rw [decide_eq_true (show d<2*rest by omega)];rfl
    have d1:decide ((d:Int)<(rest:Int)*2)=true:=by simp;omega
    clear hc
    by_cases hz:n+1=18446744073709551616
    ·have e1:IntKind.u64.wrap ((n:Int)+1)=0:=by rw [IntKind.wrap_u64];omega
     have HF:=zI ((hd.out.1 ha).1 (.inr hz));clear hz;go_wp2_with fail;refine (qaI 0 true (!(sx==sy)) w5 oZ oZ).mono ?_;rintro e w9 ⟨rfl,rfl⟩;rw [ipZ rfl,←HF.out,←HM.out];go_wp2_with fail;go_ret;exact ⟨rfl,hg.out⟩
    ·have e1:IntKind.u64.wrap ((n:Int)+1)=(n:Int)+1:=IntWalk.u64_in _ oZ
     have hC:(n:Int)+1<18446744073709551616:=by omega
     have Ho:((n:Int)+1==0)=false:=by rw [beq_eq_false_iff_ne];omega
     have HF:RowKit.Hid ((if ov=true then Fx.edge (!(sx==sy)) else Fx.clamp (Fx.sgn (!(sx==sy)) ((n:Int)+1).toNat))=Fx.div x y):=by
      rw [HM.out];cases ov
      ·rw [inZ sZ,(hd.out.1 ha).2 rfl oZ,show ((n:Int)+1).toNat=n+1 by omega];exact zI rfl
      ·rw [ipZ rfl,(hd.out.1 ha).1 (.inl rfl)];exact zI rfl
     clear hz;go_wp2_with fail;refine (qaI ((n:Int)+1) ov (!(sx==sy)) w5 oZ hC).mono ?_;rintro e w9 ⟨rfl,rfl⟩;rw [HF.out];go_wp2_with fail;go_ret;exact ⟨rfl,hg.out⟩
   ·have ha:R1.up rest d n=true:=by unfold R1.up;rw [decide_eq_true (show 2*rest=d by omega),decide_eq_true ho,Bool.and_self,Bool.or_true]
    have d1:decide ((d:Int)<(rest:Int)*2)=false:=by simp;omega
    have d2:((rest:Int)*2==(d:Int))=true:=by simp;omega
    have d3:(n:Int).tmod 2=1:=by rw [Int.tmod_eq_emod_of_nonneg hs];omega
    clear hc ho
    by_cases hz:n+1=18446744073709551616
    ·have e1:IntKind.u64.wrap ((n:Int)+1)=0:=by rw [IntKind.wrap_u64];omega
     have HF:=zI ((hd.out.1 ha).1 (.inr hz));clear hz;go_wp2_with fail;refine (qaI 0 true (!(sx==sy)) w5 oZ oZ).mono ?_;rintro e w9 ⟨rfl,rfl⟩;rw [ipZ rfl,←HF.out,←HM.out];go_wp2_with fail;go_ret;exact ⟨rfl,hg.out⟩
    ·have e1:IntKind.u64.wrap ((n:Int)+1)=(n:Int)+1:=IntWalk.u64_in _ oZ
     have hC:(n:Int)+1<18446744073709551616:=by omega
     have Ho:((n:Int)+1==0)=false:=by rw [beq_eq_false_iff_ne];omega
     have HF:RowKit.Hid ((if ov=true then Fx.edge (!(sx==sy)) else Fx.clamp (Fx.sgn (!(sx==sy)) ((n:Int)+1).toNat))=Fx.div x y):=by
      rw [HM.out];cases ov
      ·rw [inZ sZ,(hd.out.1 ha).2 rfl oZ,show ((n:Int)+1).toNat=n+1 by omega];exact zI rfl
      ·rw [ipZ rfl,(hd.out.1 ha).1 (.inl rfl)];exact zI rfl
     clear hz;go_wp2_with fail;refine (qaI ((n:Int)+1) ov (!(sx==sy)) w5 oZ hC).mono ?_;rintro e w9 ⟨rfl,rfl⟩;rw [HF.out];go_wp2_with fail;go_ret;exact ⟨rfl,hg.out⟩
   ·have ha:R1.up rest d n=false:=by unfold R1.up;rw [decide_eq_false (show ¬d<2*rest by omega),decide_eq_false (show ¬n % 2=1 by omega),Bool.and_false];rfl
    have d1:decide ((d:Int)<(rest:Int)*2)=false:=by simp;omega
    have d2:((rest:Int)*2==(d:Int))=true:=by simp;omega
    have d3:(n:Int).tmod 2=0:=by rw [Int.tmod_eq_emod_of_nonneg hs];omega
    clear hc ho
    have HF:RowKit.Hid ((if ov=true then Fx.edge (!(sx==sy)) else Fx.clamp (Fx.sgn (!(sx==sy)) (n:Int).toNat))=Fx.div x y):=by
     rw [HM.out];cases ov
     ·rw [inZ sZ,(hd.out.2 ha).2 rfl,show (n:Int).toNat=n by omega];exact zI rfl
     ·rw [ipZ rfl,(hd.out.2 ha).1 rfl];exact zI rfl
    go_wp2_with fail;refine (qaI (n:Int) ov (!(sx==sy)) w5 hs hr).mono ?_;rintro e w9 ⟨rfl,rfl⟩;rw [HF.out];go_wp2_with fail;go_ret;exact ⟨rfl,hg.out⟩
   ·have ha:R1.up rest d n=false:=by unfold R1.up;rw [decide_eq_false (show ¬d<2*rest by omega),decide_eq_false (show ¬2*rest=d by omega)];rfl
    have d1:decide ((d:Int)<(rest:Int)*2)=false:=by simp;omega
    have d2:((rest:Int)*2==(d:Int))=false:=by rw [beq_eq_false_iff_ne];omega
    clear hc
    have HF:RowKit.Hid ((if ov=true then Fx.edge (!(sx==sy)) else Fx.clamp (Fx.sgn (!(sx==sy)) (n:Int).toNat))=Fx.div x y):=by
     rw [HM.out];cases ov
     ·rw [inZ sZ,(hd.out.2 ha).2 rfl,show (n:Int).toNat=n by omega];exact zI rfl
     ·rw [ipZ rfl,(hd.out.2 ha).1 rfl];exact zI rfl
    go_wp2_with fail;refine (qaI (n:Int) ov (!(sx==sy)) w5 hs hr).mono ?_;rintro e w9 ⟨rfl,rfl⟩;rw [HF.out];go_wp2_with fail;go_ret;exact ⟨rfl,hg.out⟩
  ·have hj:((j+1:Nat):Int)-1=(j:Int):=by omega
   rw [hj];obtain ⟨mi,hmi⟩:∃mi:Int,mi=(m:Int):=⟨_,rfl⟩
   rw [←hmi];have Hm:0<=mi:=by omega
   have Hf:mi<18446744073709551616:=by omega
   have hI:=zI hmi;clear hp HM hmi;have HD:=zI hD;have Hz:(0:Int)<=(j:Int):=by omega
   have Hq:j<=95:=by omega
   obtain ⟨R0,hR0⟩:∃R0:Int,R0=(rest:Int)*2:=⟨_,rfl⟩
   have Ha:0<=R0/\R0<18446744073709551615:=by omega
   have hu:=zI hR0;have hp:=zI λ(W:Zp1)=>qcF 0 (rest:Int) 0 R0 W oZ oZ oZ oZ oZ oZ
   have hU:bits .or .u64 R0 1=R0+1:=by rw [hR0];exact or_one _ oZ oZ
   clear hD hR0 hj;obtain ⟨h5,hG⟩:=zd2 hn hw;clear hn hw;go_wp2_with fail;refine (hp.out wr).mono ?_;rintro e w1 ⟨rfl,h1⟩;have hH:Later wr w1:=h1;have hh:=hH.blk h5.out;have g0:w1.cell? ⟨w.heap.size,0,none⟩=some (.int .u64 0):=hh.cell 0;have g1:w1.cell? ⟨w.heap.size,1,none⟩=some (.int .u64 (rest:Int)):=hh.cell 1;have f0:=hh.frozen 0;have f1:=hh.frozen 1;have h6:=(hh.set_ 0 (.int .u64 0)).set_ 1 (.int .u64 R0);have hT:=((hG.out.trans hH).set (p:=⟨w.heap.size,0,none⟩) (lrZ _) (.int .u64 0)).set (p:=⟨w.heap.size,1,none⟩) (lrZ _) (.int .u64 R0);clear c0 c1 h1 hH hh;obtain ⟨hV,hi⟩:=zd2 h6 hT;clear h6 hT;go_upto_region 14 with fail;generalize (w1.setCell ⟨w.heap.size,0,none⟩ (.int .u64 0)).setCell ⟨w.heap.size,1,none⟩ (.int .u64 R0)=w2 at *;have he:=zI (show Blk w2 w.heap.size 210 #[.int .u64 0,.int .u64 R0] from hV.out);clear g0 g1 f0 f1 hV
   by_cases h9:32<=j
   focus
    obtain ⟨i,hij⟩:∃i,j=i+32:=⟨j-32,by omega⟩
    have d0:decide ((32:Int)<=(j:Int))=true:=by rw [decide_eq_true_eq];omega
    have HA:(j:Int)-32=(i:Int):=by omega
    have Hr:IntKind.u64.wrap (i:Int)=(i:Int):=IntWalk.u64_in _ oZ;have Hv:(0:Int)<=(i:Int):=by omega
    have hF:=R1.pre_step X j;rw [R1.pre_high oZ,show j-32=i by omega] at hF;have hM:bits .and .u64 ((X:Int) / 2 ^ i) 1=((X / 2 ^ i % 2:Nat):Int):=by rw [qey (m:=X / 2 ^ i) rfl];exact qdk _ (Nat.lt_of_le_of_lt (Nat.div_le_self _ _) oZ)
    obtain ⟨hA,hB⟩:=zd2 hF hM;clear hF hM hij;go_wp2_with fail;refine (Hc.out w2).mono ?_;rintro e w4 ⟨rfl,rfl⟩
    by_cases hf:X / 2 ^ i % 2=1
    focus
     have Hb:bits .and .u64 ((X:Int) / 2 ^ i) 1=1:=by rw [hB.out,hf];rfl
     have g0:w2.cell? ⟨w.heap.size,0,none⟩=some (.int .u64 0):=he.out.cell 0;have g1:w2.cell? ⟨w.heap.size,1,none⟩=some (.int .u64 R0):=he.out.cell 1;have f1:=he.out.frozen 1;obtain ⟨R,hR⟩:∃R:Int,R=R0+1:=⟨_,rfl⟩
     rw [←hR] at hU;have hS:=he.out.set_ 1 (.int .u64 R);have h7:=hi.out.set (p:=⟨w.heap.size,1,none⟩) (lrZ _) (.int .u64 R);have HC:=zI (show (1<=1/\R1.pre X j=2*R1.pre X (j+1)+1)/\R=((2*rest+1:Nat):Int) from ⟨⟨lrZ _,by rw [hA.out,hf]⟩,by have:=hu.out;omega⟩);clear hf hA hB hR;obtain ⟨hW,hv⟩:=zd2 hS h7;clear hS h7;go_upto_region 16 with fail;generalize w2.setCell ⟨w.heap.size,1,none⟩ (.int .u64 R)=w3 at *;have hb:=zI (show Blk w3 w.heap.size 210 #[.int .u64 0,.int .u64 R] from hW.out);clear g0 g1 f1 hW hi he
    rotate_left
    have Hb:bits .and .u64 ((X:Int) / 2 ^ i) 1=0:=by rw [hB.out,show X / 2 ^ i % 2=0 by omega];rfl
    have HC:=zI (show (0<=1/\R1.pre X j=2*R1.pre X (j+1)+0)/\R0=((2*rest+0:Nat):Int) from ⟨⟨Zt _,by rw [hA.out,show X / 2 ^ i % 2=0 by omega]⟩,by have:=hu.out;omega⟩);clear hf hA hB;go_upto_region 16 with fail;obtain ⟨R,rfl⟩:∃R:Int,R=R0:=⟨_,rfl⟩
    have hb:=he;have hv:=hi;clear he hi;generalize w2=w3 at *
   rotate_left 2
   have d0:decide ((32:Int)<=(j:Int))=false:=by rw [decide_eq_false_iff_not];omega
   have HC:=zI (show (0<=1/\R1.pre X j=2*R1.pre X (j+1)+0)/\R0=((2*rest+0:Nat):Int) from ⟨⟨Zt _,by have:=R1.pre_step X j;rw [R1.pre_low oZ] at this;exact this⟩,by have:=hu.out;omega⟩);go_upto_region 16 with fail;obtain ⟨R,rfl⟩:∃R:Int,R=R0:=⟨_,rfl⟩
   have hb:=he;have hv:=hi;clear he hi;generalize w2=w3 at *
   all_goals
    obtain ⟨c,⟨⟨hc1,hpre⟩,hRc⟩⟩:∃c,(c<=1/\R1.pre X j=2*R1.pre X (j+1)+c)/\R=((2*rest+c:Nat):Int):=⟨_,HC.out⟩
    have Hy:0<=R/\R<18446744073709551616:=by omega
    have hQ:R.toNat=2*rest+c:=by omega
    have HR:=zI (show R=((2*rest+c:Nat):Int)/\R.toNat=2*rest+c from ⟨hRc,hQ⟩);have HP:=zI hpre;obtain ⟨M2,hM2⟩:∃M2:Int,M2=mi*2 % 18446744073709551616:=⟨_,rfl⟩
    have Hs:IntKind.u64.wrap (mi*2)=M2:=by rw [IntKind.wrap_u64,hM2]
    have Hn:0<=M2/\M2<18446744073709551615:=by omega
    have Hp:bits .or .u64 M2 1=M2+1:=by
     rw [show M2=(mi % 9223372036854775808)*2 by omega];exact or_one _ oZ oZ
    have h0:=zI (show M2=((m*2 % 18446744073709551616:Nat):Int) by have:=hI.out;omega);have g0:w3.cell? ⟨w.heap.size,0,none⟩=some (.int .u64 0):=hb.out.cell 0;have g1:w3.cell? ⟨w.heap.size,1,none⟩=some (.int .u64 R):=hb.out.cell 1;have f1:=hb.out.frozen 1;clear HC hpre hRc hQ hM2 hU hp hu Ha
    by_cases hP:9223372036854775808<=mi
    focus
     have d1:decide (9223372036854775808<=mi)=true:=decide_eq_true hP;have HO:=zI (show true=(o || decide (9223372036854775808<=m)) by rw [decide_eq_true (show 9223372036854775808<=m by have:=hI.out;omega),Bool.or_true]);go_upto_region 19 with fail
    rotate_left
    have d1:decide (9223372036854775808<=mi)=false:=decide_eq_false hP;have HO:=zI (show o=(o || decide (9223372036854775808<=m)) by rw [decide_eq_false (show ¬9223372036854775808<=m by have:=hI.out;omega),Bool.or_false]);go_upto_region 19 with fail
    all_goals
     by_cases hN:(d:Int)<=R
     focus
      have d2:decide ((d:Int)<=R)=true:=decide_eq_true hN;have d3:decide (R<(d:Int))=false:=decide_eq_false oZ;obtain ⟨D,hD⟩:∃D:Int,D=R-(d:Int):=⟨_,rfl⟩
      have d4:IntKind.u64.wrap (R-(d:Int))=D:=by rw [hD];exact IntWalk.u64_in _ oZ
      have He:=zI hD;have hK:=hb.out.set_ 1 (.int .u64 D);have hX:=hv.out.set (p:=⟨w.heap.size,1,none⟩) (lrZ _) (.int .u64 D);clear hD;obtain ⟨Hh,Hi⟩:=zd2 hK hX;clear hK hX;go_wp2_with fail;generalize w3.setCell ⟨w.heap.size,1,none⟩ (.int .u64 D)=w6 at *;have hE:=HD.out.more oZ hc1 (by have:=HR.out;omega);rw [←HP.out,←HO.out] at hE;go_roundw
      case rel=>exact ⟨j,(2*rest+c-d),(m*2 % 18446744073709551616+1),_,by omega,rfl,by rw [h0.out];rfl,rfl,hE.1,by rw [show (((2*rest+c-d:Nat):Int))=D by have:=He.out;have:=HR.out;omega];exact Hh.out,Hi.out⟩
      case measure=>simp [intOf]
     have d2:decide ((d:Int)<=R)=false:=decide_eq_false hN;have hE:=HD.out.less oZ hc1 (by have:=HR.out;omega);rw [←HP.out,←HO.out] at hE;have HE:=zI hE;clear hE;go_wp2_with fail;go_roundw
     case rel=>exact ⟨j,(2*rest+c),(m*2 % 18446744073709551616),_,by omega,rfl,by rw [h0.out],rfl,HE.out,by rw [←HR.out.1];exact hb.out,hv.out⟩
     case measure=>simp [intOf]
theorem qae {w w':Zp1} {B e s n:Nat} {v:Value} {xs:List Value} (h:w.ownsRow B e s v n xs) (hl:Later w w'):w'.ownsRow B e s v n xs:=qad h λg k=>hl.block g (h.lt g k).2
def NewR (zs:List Int) (w:Zp1) (e:Ending) (w':Zp1):Prop:=∃A c,e=.returned (sQ A zs.length c)/\Ints iQ w' A zs/\zs.length<=c/\c<=9223372036854775807/\Later w w'
def NewF (zs:List Int) (w:Zp1) (e:Ending) (w':Zp1):Prop:=∃A c,e=.returned (sQ A zs.length c)/\Ints iQ w' A zs/\zs.length<=c/\c<=9223372036854775807/\Later w w'/\∀a,A=some a->w.heap.size<=a.block
theorem qaM {w:Zp1} {B e s n m c:Nat} {A:Option Addr} {xs:List Value} (h:w.ownsRow B e s (sQ A n c) m xs):∀a,A=some a->B<=a.block:=λa ha=>by
 rcases h.2 with ⟨h1,-⟩|⟨g,cap,cur,h1,h2,-⟩
 ·injection h1 with h1;rw [h1] at ha;simp at ha
 ·injection h1 with h1;rw [h1] at ha;injection ha with ha;subst ha;exact h2
theorem qaD:(Tryz.prog.info? 2).map (λi=>(i.zero,i.size,i.bytes))=some (some (nQ iQ 0),1,8):=by kernel_rfl
theorem Ints.spot_ {w:Zp1} {A:Option Addr} {l:List Int} (h:Ints iQ w A l) {k:Nat} (hk:k<l.length):∃b off,A=some ⟨b,off,none⟩/\w.cell? ⟨b,off+k,none⟩=some (nQ iQ (Ly.at_ l k)):=by
 obtain ⟨b,off,e,-,hc⟩:=h k hk;exact ⟨b,off,e,hc⟩
theorem idx_bd {i j m n:Nat} (hi:i<m) (hj:j<n):i*n+j<m*n:=by
 have h1:(i+1)*n<=m*n:=mlZ _ hi;rw [Zu] at h1;omega
theorem Ly.row_dot {wt x:List Int} {m i k:Nat} (hw:wt.length=m*x.length) (hi:i<m) (hk:k<x.length):
  Fx.dot ((Ly.rowOf wt x.length i).take (k+1)) (x.take (k+1))=Fx.add (Fx.dot ((Ly.rowOf wt x.length i).take k) (x.take k)) (Fx.mul (Ly.at_ wt (i*x.length+k)) (Ly.at_ x k)):=by
 have hl:=Ly.row_len hw hi;have ha:k<(Ly.rowOf wt x.length i).length:=by omega
 rw [qf0 ha hk,←qbs ha,Ly.row_at hk,←qbs hk]
 rfl
theorem r6_go (W B X:Option Addr) (c d c2 m:Nat) (wt b x:List Int) (w:Zp1) (hm:b.length=m) (hw:wt.length=m*x.length) (hwl:wt.length<=65536) (hml:m<=65536) (hxl:x.length<=65536)
  (hW:Ints iQ w W wt) (hB:Ints iQ w B b) (hX:Ints iQ w X x) (iw:∀z∈wt,Fx.In z) (ib:∀z∈b,Fx.In z) (ix:∀z∈x,Fx.In z):
  Calls Tryz.prog 57 #[nQ iQ (m:Int),sQ W wt.length c,sQ B b.length d,sQ X x.length c2] w (NewR (Ly.tab m λi=>Fx.add (Fx.dot (Ly.rowOf wt x.length i) x) (Ly.at_ b i)) w):=by
 obtain ⟨i0,hi,He,h3,hQ⟩:=info_parts qaD;generalize hR:(Ly.tab m λi=>Fx.add (Fx.dot (Ly.rowOf wt x.length i) x) (Ly.at_ b i))=R at *;have hg:R.length=m:=by subst hR;exact Ly.tab_len _ _
 have hF:∀i (hi:i<R.length),R[i]=Fx.add (Fx.dot (Ly.rowOf wt x.length i) x) (Ly.at_ b i):=λi hi=>by subst hR;exact Ly.tab_get hi
 obtain ⟨HW,HB,HX,Hm,Hw,hT,h2,Hf,hD⟩:=zd9 hW hB hX hm hw iw ib ix hg;have hZ:=zI hF;clear hW hB hX hm hw iw ib ix hg hF;clear hR;go_enter Tryz.func57,Tryz.ntmps57;go_wp2_with fail
 go_loopw [10,11] (λo i wx=>∃k:Nat,k<=m/\i=nQ iQ (k:Int)/\wx.ownsRow w.heap.size 2 1 o k ((R.take k).map (Za1 iQ))/\Later w wx) (λ_ i _=>m-(intOf i).toNat)
 case atStart=>exact ⟨0,Zt _,rfl,by simpa using World.ownsRow_nil w w.heap.size 2 1,Later.refl _⟩
 case round=>
  obtain ⟨k,hk,rfl,hown,ht⟩:=hrel;obtain ⟨Ao,co,rfl⟩:=qa8 hown
  by_cases hC:k<m
  ·have k0:(k:Int)<(m:Int):=by omega
   obtain ⟨P,hP⟩:∃P:Nat,P=k*x.length:=⟨_,rfl⟩
   have Hl:(k:Int)*(x.length:Int)=(P:Int):=by rw [hP];simp
   have Hh:P+x.length<=wt.length:=by
    rw [Hw.out,hP,←Zu];exact mlZ _ hC
   have HP:=zI hP;clear hP;obtain ⟨wo,rfl⟩:∃wo,wo=wr:=⟨_,rfl⟩
   obtain ⟨hs,hv⟩:=zd2 hown ht;clear hown ht;go_upto_region 8 with fail
   go_loopw [12,13] (λs j wx=>∃j':Nat,j'<=x.length/\j=nQ iQ (j':Int)/\s=nQ iQ (Fx.dot ((Ly.rowOf wt x.length k).take j') (x.take j'))/\Later wo wx) (λ_ j _=>x.length-(intOf j).toNat)
   case atStart=>exact ⟨0,Zt _,rfl,rfl,Later.refl _⟩
   obtain ⟨j,hj,rfl,rfl,hn⟩:=hrel
   by_cases hL:j<x.length
   ·have he:=hv.out.trans hn
    obtain ⟨K,hK⟩:∃K:Nat,K=P+j:=⟨_,rfl⟩
    have Hc:K<wt.length:=by omega
    obtain ⟨bw,ow,rfl,hA⟩:=(HW.out.below he (lrZ _)).spot_ Hc;obtain ⟨bx,ox,rfl,hy⟩:=(HX.out.below he (lrZ _)).spot_ hL;have hd:=Ly.row_dot Hw.out hC hL;rw [←HP.out,←hK] at hd;have hM:=Fx.dot_in ((Ly.rowOf wt x.length k).take j) (x.take j);have hG:=λ(V:Zp1)=>qf7 (Ly.at_ wt K) (Ly.at_ x j) V (Ly.at_in hT.out K) (Ly.at_in Hf.out j)
    have hH:=λ(V:Zp1)=>qbu (Fx.dot ((Ly.rowOf wt x.length k).take j) (x.take j)) (Fx.mul (Ly.at_ wt K) (Ly.at_ x j)) V hM (Fx.mul_in _ _)
    have Hi:(P:Int)+(j:Int)=(K:Int):=by omega
    have Hk:iQ.wrap (P:Int)=(P:Int):=Zc1 _ oZ;have Hg:iQ.wrap (K:Int)=(K:Int):=Zc1 _ oZ;have j1:(j:Int)<(x.length:Int):=by omega
    have j2:(K:Int)<(wt.length:Int):=by omega
    have j3:(0:Int)<=(K:Int):=by omega
    have j4:(0:Int)<=(j:Int):=by omega
    generalize Fx.dot ((Ly.rowOf wt x.length k).take j) (x.take j)=s0 at *;generalize Ly.at_ wt K=a0 at *;generalize Ly.at_ x j=b0 at *;clear hM hK;obtain ⟨Hd,hE,hU,h4,h9⟩:=zd5 hd he hn hG hH;clear hd he hn hG hH;go_wp2_with fail
    go_region_held3 (λW=>W.cell? ⟨bw,ow+K,none⟩=some (nQ iQ a0)/\W.cell? ⟨bx,ox+j,none⟩=some (nQ iQ b0)) (first|(with_reducible exact ⟨hA,hy⟩)|exact ⟨Later.cell (Lau:Later wr _) hA,Later.cell (Lau:Later wr _) hy⟩)
     (first
      | (go_at_call 105;(with_reducible refine (h4.out _).mono ?_);rintro e wa ⟨rfl,hS⟩)
      | (go_at_call 63;(with_reducible refine (h9.out _).mono ?_);rintro e wb ⟨rfl,rfl⟩))
    have hp:=hU.out.trans (Lau:Later wr wa);clear hS hA hy;have hz:=zI hp;clear hp;go_wp2_with fail;go_roundw
    case rel=>exact ⟨j+1,by omega,by go_num,by rw [Hd.out],hz.out⟩
    case measure=>simp [intOf];omega
   ·obtain rfl:j=x.length:=by omega
    have hV:=Ly.row_len Hw.out hC;have hl:k<R.length:=by have:=hD.out;omega
    have h0:k<b.length:=by have:=Hm.out;omega
    have hx:(R.take (k+1)).map (Za1 iQ)=(R.take k).map (Za1 iQ)++[nQ iQ R[k]]:=by rw [Zb hl,List.map_append,List.map_singleton]
    rw [hZ.out k hl] at hx;rw [show (Ly.rowOf wt x.length k).take x.length=Ly.rowOf wt x.length k by rw [List.take_of_length_le oZ],Zg];have he:=hv.out.trans hn;obtain ⟨bb,ob,rfl,Hj⟩:=(HB.out.below he (lrZ _)).spot_ h0;have hJ:=Fx.dot_in (Ly.rowOf wt x.length k) x;have hq:=Ly.at_in h2.out k;have hc:=qae hs.out hn;generalize Fx.dot (Ly.rowOf wt x.length k) x=s0 at *;generalize Ly.at_ b k=b0 at *;generalize (R.take k).map (Za1 iQ)=vs at *;have hI:=λ(V:Zp1)=>qbu s0 b0 V hJ hq
    generalize Fx.add s0 b0=v0 at *;have j1:(k:Int)<(b.length:Int):=by omega
    have j2:(0:Int)<=(k:Int):=by omega
    clear hV hl hJ hq hn;obtain ⟨h5,hE,hf,h6⟩:=zd4 hx he hc hI;clear hx he hc hI;go_wp2_with fail;refine (h6.out _).mono ?_;rintro e w3 ⟨rfl,rfl⟩;have ho:=qa6 hf.out (.cells #[nQ iQ v0] 2);have hh:=hE.out.alloc (.cells #[nQ iQ v0] 2);have h1:=hh.size;rw [Zh1] at h1;have hO:=zI (λb (hb:(Zb1 Ao k co).ownBlock=some b)=>(hf.out.lt b hb).1);go_wp2_with (at_builtin;refine wpList_append_own_at _ rfl _ _ 48 rfl w.heap.size 2 i0 (nQ iQ 0) 1 8 Tryz.underlying48 hi He h3 hQ rfl dZ _ _ _ rfl ho ⟨wr.heap.size,0,none⟩ 1 1 [nQ iQ v0] rfl rfl ?c1 (by intro u hu;simp at hu;subst hu;rfl) (by unfold maxLen;omega) oZ ?c2 ?_)
    first|(case c1=>exact qap wr _ _)|skip
    case c2=>simp;omega
    intro v' w4 ha hgrow _ h8;have hN:Later w w4:=Below.grown hh hgrow soZ (λb hb=>hO.out b hb);rw [←h5.out] at ha;have hr:=zI ha;have Hb:=zI hN;clear ha hN;clear hgrow h8 ho hh hO;go_wp2_with fail;go_roundw
    case rel=>exact ⟨k+1,by omega,by go_num,hr.out,Hb.out⟩
    case measure=>simp [intOf];omega
  ·obtain rfl:k=m:=by omega
   have hg:=hD.out;rw [List.take_of_length_le oZ] at hown;rw [←hg] at hown;obtain ⟨q1,q2,q3⟩:=qal hown;rw [show (Zb1 Ao k co)=Zb1 Ao R.length co by rw [hg]];have e0:decide (((k:Nat):Int)<((k:Nat):Int))=false:=by simp
   obtain ⟨hs,hY,Ha,h7,hv,hD⟩:=zd6 hown q1 q2 q3 ht hg;clear hown q1 q2 q3 ht hg;go_wp2_with fail;go_ret;exact ⟨Ao,co,rfl,hY.out,Ha.out,h7.out,hv.out⟩
theorem r8_div (x n:Int) (w:Zp1) (hx:Fx.In x) (h0:1<=n) (h1:n<=1024):Calls Tryz.prog 106 #[nQ iQ x,nQ iQ n] w λe w'=>e=.returned (nQ iQ (Fx.div x (n*4294967296)))/\Below w.heap.size w w':=by
 have hw:iQ.wrap (n*4294967296)=n*4294967296:=Zc1 _ oZ;have hi:Fx.In (n*4294967296):=by unfold Fx.In;omega
 obtain ⟨Hx,Hi⟩:=zd2 hx hi;clear hx hi;go_enter Tryz.func106,Tryz.ntmps106;go_wp2_with fail;refine (r1_div x (n*4294967296) w Hx.out Hi.out).mono ?_;rintro e w1 ⟨rfl,hl⟩;have Hl:=zI hl;clear hl;go_wp2_with fail;go_ret;exact ⟨rfl,Hl.out⟩
namespace Ly
def mxv (l:List Int) (j:Nat):Int:=at_ l (best l j).toNat
theorem mxv_succ (l:List Int) (j:Nat):mxv l (j+1)=if mxv l j<at_ l j then at_ l j else mxv l j:=by
 unfold mxv;rw [best]
 by_cases h:best l j<0
 ·rw [ipZ (Or.inl h)]
  have hj:j=0:=by
   rcases j with _|j
   ·rfl
   ·have:=(qbD (l:=l) (k:=j+1) oZ).1;omega
  subst hj;have:(best l 0).toNat=0:=rfl;rw [this];simp
 ·by_cases h2:at_ l (best l j).toNat<at_ l j
  ·rw [ipZ (Or.inr h2),ipZ h2];simp
  ·rw [inZ (λq=>q.elim h h2),inZ h2]
def wrow (l:List Int) (wd st i:Nat):List Int:=(l.drop (i*st)).take wd
theorem wrow_len {l:List Int} {wd st i:Nat} (h:i*st+wd<=l.length):(wrow l wd st i).length=wd:=by unfold wrow;rw [Zo,Zq];omega
theorem wrow_at {l:List Int} {wd st i j:Nat} (hj:j<wd):at_ (wrow l wd st i) j=at_ l (i*st+j):=by
 unfold wrow at_;simp only [gdZ];rw [List.getElem?_take,ipZ hj,List.getElem?_drop]
theorem wrow_in {l:List Int} {wd st i:Nat} (h:∀z∈l,Fx.In z):∀z∈wrow l wd st i,Fx.In z:=λz hz=>h z (Zp (Zh hz))
def poolR2 (top:Bool) (l:List Int) (wd st n:Nat):List Int:=tab n λi=>poolCell top (wrow l wd st i) (wd:Int)
end Ly
theorem r8_row (X:Option Addr) (c n wd st:Nat) (top:Bool) (kd:Int) (l:List Int) (w:Zp1) (hkd:kd=if top=true then 1 else 2) (hl:l.length<=65536) (h1:1<=wd) (h2:wd<=1024) (h3:1<=st) (h4:st<=1024)
  (hn:∀k,k*st+wd<=l.length↔k<n) (hX:Ints iQ w X l) (ix:∀z∈l,Fx.In z):
  Calls Tryz.prog 58 #[nQ iQ kd,sQ X l.length c,nQ iQ (wd:Int),nQ iQ (st:Int)] w (NewR (Ly.poolR2 top l wd st n) w):=by
 obtain ⟨i0,hi,Ha,hZ,hS⟩:=info_parts qaD;have hf:(Ly.poolR2 top l wd st n).length=n:=Ly.tab_len _ _;have hU:∀i (hi:i<(Ly.poolR2 top l wd st n).length),(Ly.poolR2 top l wd st n)[i]=Ly.poolCell top (Ly.wrow l wd st i) (wd:Int):=λi hi=>Ly.tab_get hi
 generalize Ly.poolR2 top l wd st n=R at *
 have Hk:n<=l.length:=by
  rcases n with _|n
  ·omega
  ·have:=(hn n).2 oZ;have:=Nat.le_mul_of_pos_right n h3;omega
 obtain ⟨HX,Hj,hN,He,Hn,hR⟩:=zd6 hX ix hf hU hn hkd;clear hX ix hf hU hn hkd;go_enter Tryz.func58,Tryz.ntmps58;go_wp2_with fail
 go_loopw [9,10] (λo i wx=>∃k:Nat,k<=n/\i=nQ iQ ((k*st:Nat):Int)/\wx.ownsRow w.heap.size 2 1 o k ((R.take k).map (Za1 iQ))/\Later w wx) (λ_ i _=>l.length+1-(intOf i).toNat)
 case atStart=>exact ⟨0,Zt _,by simp,by simpa using World.ownsRow_nil w w.heap.size 2 1,Later.refl _⟩
 case round=>
  obtain ⟨k,hk,rfl,hown,hr⟩:=hrel;obtain ⟨Ao,co,rfl⟩:=qa8 hown;have hq:=Hn.out k;obtain ⟨A,hA⟩:∃A:Nat,A=k*st:=⟨_,rfl⟩
  have hT:=zI (show (k+1)*st=A+st by rw [Zu,hA]);rw [←hA] at hq;rw [←hA];have HA:=zI hA;clear hA
  by_cases hY:k<n
  ·have hL:=hq.2 hY
   have e1:iQ.wrap ((A:Int)+(wd:Int))=(A:Int)+(wd:Int):=Zc1 _ oZ;have e2:decide ((A:Int)+(wd:Int)<=(l.length:Int))=true:=by simp;omega
   obtain ⟨wo,rfl⟩:∃wo,wo=wr:=⟨_,rfl⟩
   have h9:(Ly.wrow l wd st k).length=wd:=Ly.wrow_len (by rw [←HA.out];exact hL);have h0:=Ly.wrow_in (wd:=wd) (st:=st) (i:=k) Hj.out;have hF:∀j,j<wd->Ly.at_ (Ly.wrow l wd st k) j=Ly.at_ l (A+j):=λj hj=>by rw [Ly.wrow_at hj,←HA.out]
   have ht:k<R.length:=by have:=hN.out;omega
   have hQ:=He.out k ht;generalize Ly.wrow l wd st k=win at *;obtain ⟨bx,ox,rfl,hy⟩:=(HX.out.below hr (lrZ _)).spot_ (show A<l.length by omega);have hI:Ly.mxv win 0=Ly.at_ l A:=by have:=hF 0 oZ;rw [Zx] at this;rw [←this];rfl
   have a1:(A:Int)<(l.length:Int):=by omega
   have a2:(0:Int)<=(A:Int):=by omega
   have hE:(R.take (k+1)).map (Za1 iQ)=(R.take k).map (Za1 iQ)++[nQ iQ R[k]]:=by rw [Zb ht,List.map_append,List.map_singleton]
   rw [hQ] at hE;generalize (R.take k).map (Za1 iQ)=vs at *;rw [←hI] at hy;obtain ⟨he,hs,hC,Hc,Hf,Hh,Hl,hB⟩:=zd8 hown hr h9 h0 hF hQ hI hE;clear hown hr h9 h0 hF hQ hI hE;clear hq;go_upto_region 8 with fail
   go_loopw [11,12,13] (λb s j wx=>∃(q j':Nat),j'<=wd/\j=nQ iQ ((A+j':Nat):Int)/\b=nQ iQ (Ly.mxv win j')/\s=nQ iQ (Fx.sum (win.take j'))/\wx=wo.drewN q) (λ_ _ j _=>A+wd-(intOf j).toNat)
   case atStart=>exact ⟨0,0,Zt _,rfl,rfl,rfl,rfl⟩
   obtain ⟨q,j,hj,rfl,rfl,rfl,rfl⟩:=hrel;clear hy;obtain ⟨K,hK⟩:∃K:Nat,K=A+j:=⟨_,rfl⟩
   rw [←hK];have k3:iQ.wrap ((K:Int)+1)=(K:Int)+1:=Zc1 _ oZ
   by_cases h8:j<wd
   ·obtain ⟨b2,o2,e,hy⟩:=((HX.out.below hs.out (lrZ _)).drewN q).spot_ (show K<l.length by omega)
    injection e with e;injection e with e3 e4;subst e3 e4
    have hG:=Hf.out j h8;rw [←hK] at hG;rw [←hG] at hy;have hm:=Ly.mxv_succ win j;have hJ:=qeZ (l:=win) (k:=j) (by have:=hC.out;omega);rw [←qbs (by have:=hC.out;omega)] at hJ;have hp:=Fx.sum_in (win.take j);have hz:=λ(V:Zp1)=>qbu (Fx.sum (win.take j)) (Ly.at_ win j) V hp (Ly.at_in Hc.out j)
    have k1:decide ((K:Int)<(A:Int)+(wd:Int))=true:=by simp;omega
    have k2:(K:Int)<(l.length:Int):=by omega
    have k4:(0:Int)<=(K:Int):=by omega
    have h7:=zI (show Fx.sum (win.take (j+1))=Fx.add (Fx.sum (win.take j)) (Ly.at_ win j) from hJ);generalize Fx.sum (win.take j)=s0 at *;have HK:=zI hK;clear hJ hK hG hp
    by_cases hg:Ly.mxv win j<Ly.at_ win j
    ·rw [ipZ hg] at hm
     generalize Ly.mxv win j=m0 at *;generalize Ly.at_ win j=x0 at *;have k5:decide (m0<x0)=true:=decide_eq_true hg;obtain ⟨hD,hM⟩:=zd2 hm hz;clear hm hz;clear hg;go_wp2_with fail;refine (hM.out _).mono ?_;rintro e w3 ⟨rfl,rfl⟩;go_wp2_with fail;go_roundw
     case rel=>exact ⟨q,j+1,by omega,congrArg (Za1 iQ) (by have:=HK.out;omega),by rw [hD.out],by rw [h7.out],rfl⟩
     case measure=>have:=HK.out;simp [intOf];omega
    ·rw [inZ hg] at hm
     generalize Ly.mxv win j=m0 at *;generalize Ly.at_ win j=x0 at *;have k5:decide (m0<x0)=false:=decide_eq_false hg;obtain ⟨hD,hM⟩:=zd2 hm hz;clear hm hz;clear hg;go_wp2_with fail;refine (hM.out _).mono ?_;rintro e w3 ⟨rfl,rfl⟩;go_wp2_with fail;go_roundw
     case rel=>exact ⟨q,j+1,by omega,congrArg (Za1 iQ) (by have:=HK.out;omega),by rw [hD.out],by rw [h7.out],rfl⟩
     case measure=>have:=HK.out;simp [intOf];omega
   ·obtain rfl:j=wd:=by omega
    have hV:Later wo (wo.drewN q):=(Later.refl wo).drewN q;have k1:decide ((K:Int)<(A:Int)+(j:Int))=false:=by simp;omega
    have k6:iQ.wrap ((A:Int)+(st:Int))=(A:Int)+(st:Int):=Zc1 _ oZ;generalize wo.drewN q=wx at *;rw [show win.take j=win by rw [List.take_of_length_le (by have:=hC.out;omega)]];have hp:=Fx.sum_in win;have hh:=zI hV;clear hV hK hj h8 Hh;cases top
    ·obtain rfl:kd=2:=hR.out
     have hv:Ly.poolCell false win j=Fx.div (Fx.sum win) ((j:Int)*4294967296):=by unfold Ly.poolCell;rw [inZ Bool.false_ne_true]
     rw [hv] at hB;have hW:=λ(V:Zp1)=>r8_div (Fx.sum win) (j:Int) V hp oZ oZ
     generalize Fx.sum win=s0 at *;generalize Fx.div s0 ((j:Int)*4294967296)=v0 at *;generalize Ly.mxv win j=m0 at *;have Hb:=zI hW;clear hW;clear hp hv;go_wp2_with fail;refine (Hb.out _).mono ?_;rintro e w3 ⟨rfl,h3⟩;obtain ⟨hh,-⟩:Hid (Later wo w3)/\True:=⟨zI (hh.out.trans h3),trivial⟩
     clear h3;obtain ⟨wx,rfl⟩:∃wx,wx=w3:=⟨_,rfl⟩
     have ho:=qa6 (qae he.out hh.out) (.cells #[nQ iQ v0] 2);have hc:=(hs.out.trans hh.out).alloc (.cells #[nQ iQ v0] 2);have hH:=hc.size;rw [Zh1] at hH;have hx:=zI (λb (hb:(Zb1 Ao k co).ownBlock=some b)=>(he.out.lt b hb).1);go_wp2_with (at_builtin;refine wpList_append_own_at _ rfl _ _ 48 rfl w.heap.size 2 i0 (nQ iQ 0) 1 8 Tryz.underlying48 hi Ha hZ hS rfl dZ _ _ _ rfl ho ⟨wx.heap.size,0,none⟩ 1 1 [nQ iQ v0] rfl rfl ?c1 (by intro u hu;simp at hu;subst hu;rfl) (by unfold maxLen;omega) oZ ?c2 ?_)
     first|(case c1=>exact qap wx _ _)|skip
     first|(case c2=>simp;omega)|skip
     intro v' w4 ha hgrow _ hO;have hw:Later w w4:=Below.grown hc hgrow soZ (λb hb=>hx.out b hb);rw [←hB.out] at ha;have hd:=zI ha;have hP:=zI hw;clear ha hw;clear hgrow hO ho hc hx;go_wp2_with fail;go_roundw
     case rel=>exact ⟨k+1,by omega,congrArg (Za1 iQ) (by have:=hT.out;omega),hd.out,hP.out⟩
     case measure=>simp [intOf];omega
    ·obtain rfl:kd=1:=hR.out
     have hv:Ly.poolCell true win j=Ly.mxv win j:=by unfold Ly.poolCell Ly.mxv;rw [ipZ rfl,hC.out]
     rw [hv] at hB;generalize Fx.sum win=s0 at *;generalize Ly.mxv win j=v0 at *;clear hp hv;have ho:=qa6 (qae he.out hh.out) (.cells #[nQ iQ v0] 2);have hc:=(hs.out.trans hh.out).alloc (.cells #[nQ iQ v0] 2);have hH:=hc.size;rw [Zh1] at hH;have hx:=zI (λb (hb:(Zb1 Ao k co).ownBlock=some b)=>(he.out.lt b hb).1);go_wp2_with (at_builtin;refine wpList_append_own_at _ rfl _ _ 48 rfl w.heap.size 2 i0 (nQ iQ 0) 1 8 Tryz.underlying48 hi Ha hZ hS rfl dZ _ _ _ rfl ho ⟨wx.heap.size,0,none⟩ 1 1 [nQ iQ v0] rfl rfl ?c1 (by intro u hu;simp at hu;subst hu;rfl) (by unfold maxLen;omega) oZ ?c2 ?_)
     first|(case c1=>exact qap wx _ _)|skip
     first|(case c2=>simp;omega)|skip
     intro v' w4 ha hgrow _ hO;have hw:Later w w4:=Below.grown hc hgrow soZ (λb hb=>hx.out b hb);rw [←hB.out] at ha;have hd:=zI ha;have hP:=zI hw;clear ha hw;clear hgrow hO ho hc hx;go_wp2_with fail;go_roundw
     case rel=>exact ⟨k+1,by omega,congrArg (Za1 iQ) (by have:=hT.out;omega),hd.out,hP.out⟩
     case measure=>simp [intOf];omega
  ·have hL:¬A+wd<=l.length:=λh=>hY (hq.1 h)
   obtain rfl:k=n:=by omega
   have e1:iQ.wrap ((A:Int)+(wd:Int))=(A:Int)+(wd:Int):=by
    have:A<=100000:=by
     have h5:=HA.out;rcases k with _|m
     ·simp at h5;omega
     ·have h6:=(Hn.out m).2 oZ
      rw [Zu] at h5;omega
    exact Zc1 _ oZ
   have e2:decide ((A:Int)+(wd:Int)<=(l.length:Int))=false:=by simp;omega
   have hf:=hN.out;rw [List.take_of_length_le oZ] at hown;rw [←hf] at hown;obtain ⟨q1,q2,q3⟩:=qal hown;rw [show (Zb1 Ao k co)=Zb1 Ao R.length co by rw [hf]];obtain ⟨he,Hd,Hi,Hg,hs,hN⟩:=zd6 hown q1 q2 q3 hr hf;clear hown q1 q2 q3 hr hf;clear hq hL;go_wp2_with fail;go_ret;exact ⟨Ao,co,rfl,Hd.out,Hi.out,Hg.out,hs.out⟩
namespace Ly
theorem tab_add (a b:Nat) (f:Nat->Int):tab (a+b) f=tab a f++tab b λj=>f (a+j):=by
 unfold tab;rw [List.range_add,List.map_append,List.map_map]
 rfl
theorem tab_rows (pre n:Nat) (f:Nat->Int):tab (pre*n) f=(List.range pre).flatMap λr=>tab n λj=>f (r*n+j):=by
 induction pre with
 | zero=>rw [Nat.zero_mul];rfl
 | succ pre ih=>rw [Zu,tab_add,ih,List.range_succ,Zj];simp
theorem qcG {n:Nat} {f g:Nat->Int} (h:∀i,i<n->f i=g i):tab n f=tab n g:=by
 unfold tab;exact List.map_congr_left λi hi=>h i (List.mem_range.1 hi)
theorem qgQ {sd n st r j:Nat} (hj:j<n):from_ sd n st (r*n+j)=r*sd+j*st:=by
 unfold from_;rw [show r*n+j=n*r+j by rw [Nat.mul_comm],Nat.mul_add_div oZ,Nat.div_eq_of_lt hj,Nat.mul_add_mod,Nat.mod_eq_of_lt hj,Zx]
theorem qeh {c:List Int} {sd n wd st r j:Nat} (hj:j<n) (hb:j*st+wd<=sd):win c sd n wd st (r*n+j)=wrow (rowOf c sd r) wd st j:=by
 unfold win wrow rowOf;rw [qgQ hj,List.drop_take,List.take_take,Nat.min_eq_left oZ,List.drop_drop]
theorem qgR (top:Bool) (c:List Int) (sd n wd st pre:Nat) (hb:∀j,j<n->j*st+wd<=sd):(tab (pre*n) λi=>poolCell top (win c sd n wd st i) (wd:Int))=(List.range pre).flatMap λr=>poolR2 top (rowOf c sd r) wd st n:=by
 rw [tab_rows]
 congr 1
 funext r
 unfold poolR2;exact qcG λj hj=>by rw [qeh hj (hb j hj)]
end Ly
namespace Ly
theorem bix_succ (l:List Int) (j:Nat):(best l (j+1)).toNat=if at_ l (best l j).toNat<at_ l j then j else (best l j).toNat:=by
 rw [best]
 by_cases h:best l j<0
 ·rw [ipZ (Or.inl h)]
  have hj:j=0:=by
   rcases j with _|j
   ·rfl
   ·have:=(qbD (l:=l) (k:=j+1) oZ).1;omega
  subst hj;have:(best l 0).toNat=0:=rfl;rw [this];simp
 ·by_cases h2:at_ l (best l j).toNat<at_ l j
  ·rw [ipZ (Or.inr h2),ipZ h2];simp
  ·rw [inZ (λq=>q.elim h h2),inZ h2]
theorem bix_lt (l:List Int) {j k:Nat} (h:j<=k) (hk:1<=k):(best l j).toNat<k:=by
 rcases j with _|j
 ·exact hk
 ·have:=(qbD (l:=l) (k:=j+1) oZ);omega
theorem from_row {sd n st i:Nat} (h:i<n):from_ sd n st i=i*st:=by unfold from_;rw [Nat.div_eq_of_lt h,Nat.mod_eq_of_lt h];omega
theorem win_row {l:List Int} {sd n wd st i:Nat} (h:i<n):win l sd n wd st i=wrow l wd st i:=by unfold win wrow;rw [from_row h]
def topMid (acc:List Int) (A B:Nat) (v:Int) (j:Nat):List Int:=if B<j then addAt acc (A+B) v else acc
end Ly
theorem r8_back (X G:Option Addr) (c d n wd st:Nat) (top:Bool) (kd:Int) (l g:List Int) (w:Zp1) (hkd:kd=if top=true then 1 else 2) (hl:l.length<=65536) (h1:1<=wd) (h2:wd<=1024) (h3:1<=st) (h4:st<=1024)
  (hn:∀k,k*st+wd<=l.length↔k<n) (hgn:g.length=n) (hX:Ints iQ w X l) (hG:Ints iQ w G g) (ix:∀z∈l,Fx.In z) (ig:∀z∈g,Fx.In z):
  Calls Tryz.prog 62 #[nQ iQ kd,sQ X l.length c,sQ G g.length d,nQ iQ (wd:Int),nQ iQ (st:Int)] w (NewR (Ly.poolX top l g l.length n (wd:Int) st n) w):=by
 obtain ⟨i0,hi,HT,HQ,HJ⟩:=info_parts qaD
 have HZ:n<=l.length:=by
  rcases n with _|n
  ·omega
  ·have:=(hn n).2 oZ;have:=Nat.le_mul_of_pos_right n h3;omega
 obtain ⟨HX,HG,H1,hU,Hn,Hi,Ha⟩:=zd7 hX hG ix ig hn hkd hgn;clear hX hG ix ig hn hkd hgn;go_enter Tryz.func62,Tryz.ntmps62;go_wp2_with (at_make;refine wpList_make_full _ rfl _ _ 48 rfl w.heap.size 2 i0 (nQ iQ 0) 1 Tryz.underlying48 hi HT HQ _ _ _ _ l.length rfl rfl (by first|rfl|simp|(go_simp;rfl)) (by first|rfl|simp|(go_simp;rfl)) ?b2 ?b3 ?b4 ?_)
 case b2=>rw [HJ];omega
 case b3=>unfold maxLen;omega
 case b4=>exact lrZ _
 intro w1 hown hgrow;have hp:=qau hown;rw [qax] at hp;have Hs:Later w w1:=(Ze1 _ w).grown hgrow (lrZ _) sZ;have Ho:Blk w1 w.heap.size 2 ((Ly.poolX top l g l.length n (wd:Int) st 0).map (Za1 iQ)).toArray:=by simpa [Ly.poolX,Ly.zeros,Blk] using hp
 obtain ⟨HF,HC⟩:=zd2 Ho Hs;clear Ho Hs;clear hp hown hgrow;go_wp2_with fail
 go_loopw [12,13] (λi at_ wx=>∃k:Nat,k<=n/\i=nQ iQ (k:Int)/\at_=nQ iQ ((k*st:Nat):Int)/\Blk wx w.heap.size 2 ((Ly.poolX top l g l.length n (wd:Int) st k).map (Za1 iQ)).toArray/\Later w wx) (λi _ _=>n-(intOf i).toNat)
 case atStart=>exact ⟨0,Zt _,rfl,by simp,HF.out,HC.out⟩
 clear HF HC;obtain ⟨k,hk,rfl,rfl,hm,hV⟩:=hrel;have hC:=Hn.out k;obtain ⟨A,hA⟩:∃A:Nat,A=k*st:=⟨_,rfl⟩
 have Hy:=zI (show (k+1)*st=A+st by rw [Zu,hA]);rw [←hA] at hC;rw [←hA];have HA:=zI hA;clear hA
 by_cases hS:k<n
 ·have Hc:=hC.2 hS
  have e1:iQ.wrap ((A:Int)+(wd:Int))=(A:Int)+(wd:Int):=Zc1 _ oZ;have e2:decide ((A:Int)+(wd:Int)<=(l.length:Int))=true:=by simp;omega
  have Hv:(Ly.wrow l wd st k).length=wd:=Ly.wrow_len (by rw [←HA.out];exact Hc);have Hz:∀j,j<wd->Ly.at_ (Ly.wrow l wd st k) j=Ly.at_ l (A+j):=λj hj=>by rw [Ly.wrow_at hj,←HA.out]
  obtain ⟨HB,Ht⟩:=Ly.poolX_facts (top:=top) (x:=l) hU.out l.length n (wd:Int) st k
  have Hr:Ly.poolX top l g l.length n (wd:Int) st (k+1)=if top then Ly.addAt (Ly.poolX top l g l.length n (wd:Int) st k) (A+(Ly.best (Ly.wrow l wd st k) wd).toNat) (Ly.at_ g k) else Ly.addRow (Ly.poolX top l g l.length n (wd:Int) st k) A (Fx.div (Ly.at_ g k) ((wd:Int)*4294967296)) wd:=by
   rw [Ly.poolX];unfold Ly.poolStep;rw [Ly.from_row hS,tnZ,Ly.win_row hS,←HA.out]
  generalize Ly.wrow l wd st k=win at *;generalize Ly.poolX top l g l.length n (wd:Int) st k=acc at *;obtain ⟨wo,rfl⟩:∃wo,wo=wr:=⟨_,rfl⟩
  obtain ⟨Hm,hs,HY,HH,h9,Hw,hW⟩:=zd7 hm hV Hv Hz HB Ht Hr;clear hm hV Hv Hz HB Ht Hr;clear hC;go_upto_region 8 with fail
  go_loopw [14,15] (λb j wx=>∃(q j':Nat),j'<=wd/\j=nQ iQ ((A+j':Nat):Int)/\b=nQ iQ ((A+(Ly.best win j').toNat:Nat):Int)/\wx=wo.drewN q) (λ_ j _=>A+wd-(intOf j).toNat)
  case atStart=>exact ⟨0,0,Zt _,rfl,rfl,rfl⟩
  obtain ⟨q,j,hj,rfl,rfl,rfl⟩:=hrel;obtain ⟨K,hK⟩:∃K:Nat,K=A+j:=⟨_,rfl⟩
  rw [←hK];have k3:iQ.wrap ((K:Int)+1)=(K:Int)+1:=Zc1 _ oZ
  by_cases He:j<wd
  ·have Hj:=Ly.bix_lt win (Nat.le_of_lt He) h1
   have hv:=Ly.bix_succ win j;have h8:=HH.out j He;have Hg:=HH.out _ Hj;obtain ⟨bx,ox,rfl,Hx⟩:=((HX.out.below hs.out (lrZ _)).drewN q).spot_ (show K<l.length by omega);generalize (Ly.best win j).toNat=B at *;obtain ⟨B2,hB2⟩:∃B2:Nat,B2=A+B:=⟨_,rfl⟩
   obtain ⟨b2,o2,e,HE⟩:=((HX.out.below hs.out (lrZ _)).drewN q).spot_ (show B2<l.length by omega);injection e with e;injection e with e3 e4;subst e3 e4
   rw [←hK] at h8;rw [←hB2] at Hg ⊢;rw [←h8] at Hx;rw [←Hg] at HE;have k1:decide ((K:Int)<(A:Int)+(wd:Int))=true:=by simp;omega
   have k2:(K:Int)<(l.length:Int):=by omega
   have k4:(0:Int)<=(K:Int):=by omega
   have k6:(B2:Int)<(l.length:Int):=by omega
   have k7:(0:Int)<=(B2:Int):=by omega
   obtain ⟨HK,hR⟩:=zd2 hK hB2;clear hK hB2 h8 Hg Hj;generalize Ly.at_ win j=x0 at *;generalize Ly.at_ win B=m0 at *;obtain ⟨wz,hwz⟩:∃wz,wz=wo.drewN q:=⟨_,rfl⟩
   rw [←hwz] at Hx HE ⊢;have Hl:=zI hwz;clear hwz
   by_cases hg:m0<x0
   ·rw [ipZ hg] at hv
    have k5:decide (m0<x0)=true:=decide_eq_true hg;have hY:=zI hv;clear hv;clear hg;go_wp2_with fail
    go_quiet (fail)
    go_wp2_with fail;go_roundw
    case rel=>exact ⟨q+nq,j+1,by omega,congrArg (Za1 iQ) (by have:=HK.out;omega),congrArg (Za1 iQ) (by rw [hY.out,HK.out]),by rw [Hl.out,World.drewN_drewN]⟩
    case measure=>have:=HK.out;simp [intOf];omega
   ·rw [inZ hg] at hv
    have k5:decide (m0<x0)=false:=decide_eq_false hg;have hY:=zI hv;clear hv;clear hg;go_wp2_with fail
    go_quiet (fail)
    go_wp2_with fail;go_roundw
    case rel=>exact ⟨q+nq,j+1,by omega,congrArg (Za1 iQ) (by have:=HK.out;omega),congrArg (Za1 iQ) (by rw [hY.out,hR.out]),by rw [Hl.out,World.drewN_drewN]⟩
    case measure=>have:=HK.out;simp [intOf];omega
  ·obtain rfl:j=wd:=by omega
   have hB:=Ly.bix_lt win (lrZ j) h1;have hP:Later w (wo.drewN q):=hs.out.drewN q;have hQ:Blk (wo.drewN q) w.heap.size 2 (acc.map (Za1 iQ)).toArray:=((Later.refl wo).drewN q).blk Hm.out;have k1:decide ((K:Int)<(A:Int)+(j:Int))=false:=by simp;omega
   have k6:iQ.wrap ((A:Int)+(st:Int))=(A:Int)+(st:Int):=Zc1 _ oZ;have k7:iQ.wrap ((k:Int)+1)=(k:Int)+1:=Zc1 _ oZ;have kg:(k:Int)<(g.length:Int):=by have:=Ha.out;omega
   have kg0:(0:Int)<=(k:Int):=by omega
   generalize wo.drewN q=wz at *;generalize (Ly.best win j).toNat=B at *;clear Hm hs hK hj He;cases top
   ·obtain rfl:kd=2:=Hi.out
    rw [inZ Bool.false_ne_true] at hW;have hu:=Ly.at_in hU.out k;have Hp:=λ(V:Zp1)=>r8_div (Ly.at_ g k) (j:Int) V hu oZ oZ
    have hL:=Fx.div_in (Ly.at_ g k) ((j:Int)*4294967296);generalize hdvq:Fx.div (Ly.at_ g k) ((j:Int)*4294967296)=dv at *;clear hu hdvq;obtain ⟨Hh,Hk,hD⟩:=zd3 Hp hQ hP;clear Hp hQ hP;go_upto_region 13 with fail
    go_loopw [16] (λi wx=>∃m:Nat,m<=j/\i=nQ iQ ((A+m:Nat):Int)/\Blk wx w.heap.size 2 ((Ly.addRow acc A dv m).map (Za1 iQ)).toArray/\Later w wx) (λi _=>A+j-(intOf i).toNat)
    case atStart=>exact ⟨0,Zt _,rfl,Hk.out,hD.out⟩
    obtain ⟨m,hm,rfl,ha,hb⟩:=hrel;clear Hk hD;have hr:=Ly.addRow_facts Hw.out A hL m;rw [h9.out] at hr
    by_cases HP:m<j
    ·obtain ⟨K2,hK2⟩:∃K2:Nat,K2=A+m:=⟨_,rfl⟩
     have hh:Ly.addRow acc A dv (m+1)=(Ly.addRow acc A dv m).set K2 (Fx.add (Ly.at_ (Ly.addRow acc A dv m) K2) dv):=by rw [hK2];rfl
     generalize Ly.addRow acc A dv m=row at *;have o1:=ha.row_get (k:=K2) (by rw [hr.1];omega);rw [←Ly.at_get (show K2<row.length by rw [hr.1];omega)] at o1;have hE:=Ly.at_in hr.2 K2;have hM:(row.map (Za1 iQ)).set K2 (nQ iQ (Fx.add (Ly.at_ row K2) dv))=(Ly.addRow acc A dv (m+1)).map (Za1 iQ):=by rw [hh,List.map_set]
     have hJ:=λ(wy:Zp1) (hy:Later wr wy)=>(hy.blk ha).set_ K2 (nQ iQ (Fx.add (Ly.at_ row K2) dv))
     have Hb:=λ(wy:Zp1) (hy:Later wr wy)=>(hy.blk ha).frozen K2
     obtain ⟨bg,og,rfl,g0⟩:=HG.out.spot_ (show k<g.length by have:=Ha.out;omega);have g1:wr.cell? ⟨bg,og+k,none⟩=some (nQ iQ (Ly.at_ g k)):=hb.cell g0;have HR:bg<w.heap.size:=Zj1 _ _ g0;clear g0;have ht:=λ(V:Zp1)=>qbu (Ly.at_ row K2) dv V hE hL
     generalize Ly.at_ row K2=av at *;generalize Ly.at_ g k=gv at *;generalize hsv:Fx.add av dv=sv at *;rw [←hK2];have j1:decide ((K2:Int)<(A:Int)+(j:Int))=true:=by simp;omega
     have j2:(K2:Int)<(l.length:Int):=by omega
     have j3:(0:Int)<=(K2:Int):=by omega
     have j4:iQ.wrap ((K2:Int)+1)=(K2:Int)+1:=Zc1 _ oZ;have he:=zI hK2;have h0:=hb.size;clear hK2 hh hr hE hsv;obtain ⟨hZ,hf,Hu,HD,Hq,hT,HV⟩:=zd7 ha hb hM hJ Hb ht hL;clear ha hb hM hJ Hb ht hL;go_wp2_with fail;have KF:=zI (show ∀Xw,Later wr Xw->Xw.cell? ⟨bg,og+k,none⟩=some (nQ iQ gv) from λXw h=>h.cell g1);refine Zm1 ?_;refine Zl1 (S:=λXw=>Xw.cell? ⟨bg,og+k,none⟩=some (nQ iQ gv)) krZ (KF.out _ Lau) (λhHeld=>?_);refine tk 0 ?_;refine tk 1 ?_;refine tk 2 ?_;refine tk 3 ?_;refine tk 4 ?_;refine tk 6 ?_;refine tk 7 ?_;refine tk 8 ?_;refine tk 9 ?_;refine tk 10 ?_;refine Zo1 (rs:=[5,11]) krZ sZ ?_;refine Zf1 (o:=_) rfl (λK hK=>?_) (Zf1 (o:=_) rfl (λK hK=>?_) (Zg1))
     ·simp only [ga,gs,gz]
      go_simp
      refine hK.out _ _ (KF.out _ Lau) (λhHeld=>?_);clear hK K
      try simp only [ga,gs,gz,Act.put,sa,sz,ss]
      refine rd 11 λK hK=>?_
      simp only [ga,gs,gz]
      go_simp
      go_at_call 106;(with_reducible refine (Hh.out _).mono ?_);rintro e wa ⟨rfl,Hf⟩
      try go_wp2_with fail
      refine hK.out _ _ (KF.out _ Lau) (λhHeld=>?_);clear hK K
      try simp only [ga,gs,gz,Act.put,sa,sz,ss]
      refine rd 12 λK hK=>?_
      simp only [ga,gs,gz]
      go_simp
      go_at_call 63;(with_reducible refine (hT.out _).mono ?_);rintro e wb ⟨rfl,rfl⟩;have HW:=Later.cell (Lau:Later wr wa) o1;have fu2:=Hq.out wa (Lau:Later wr wa)
      try go_wp2_with fail
      refine hK.out _ _ (KF.out _ Lau) (λhHeld=>?_);clear hK K
      try simp only [ga,gs,gz,Act.put,sa,sz,ss]
      refine tk 13 ?_;refine rd 14 λK hK=>?_
      simp only [ga,gs,gz]
      go_simp
      refine hK.out _ _ ?_ (λhHeld=>?_)
      ·(try dsimp only);((repeat (refine qa0 ?_ (by first|omega|(simp;done)|(simp;omega))))<;>(refine Later.cell (Lau:Later wr _) ?_)<;>assumption)
      clear hK K
      try simp only [ga,gs,gz,Act.put,sa,sz,ss]
      clear KF;refine Zn1 krZ ?_ _;refine Zd1 ?_;have ho:=(Lau:Later wr wa)
      have hw:=HD.out wa ho;have hN:=(hf.out.trans ho).set (p:=⟨w.heap.size,K2,none⟩) (lrZ _) (nQ iQ sv);have hd:Blk (wa.setCell ⟨w.heap.size,K2,none⟩ (nQ iQ sv)) w.heap.size 2 ((Ly.addRow acc A dv (m+1)).map (Za1 iQ)).toArray:=by rw [←Hu.out];simpa using hw
      obtain ⟨hH,Hd⟩:=zd2 hd hN;clear hw ho Hf hd hN;go_wp2_with fail;refine ⟨?_,?measure⟩;apply Exists.intro
      (repeat apply Exists.intro)
      refine ⟨?rel,rfl⟩
      case rel=>exact ⟨m+1,by omega,congrArg (Za1 iQ) (by have:=he.out;omega),hH.out,Hd.out⟩
      case measure=>have:=he.out;simp [intOf];omega
     ·simp only [ga,gs,gz]
      go_simp
      go_at_call 106;(with_reducible refine (Hh.out _).mono ?_);rintro e wa ⟨rfl,Hf⟩;have o2:=Later.cell (Lau:Later wr wa) o1
      try go_wp2_with fail
      refine hK.out _ _ (KF.out _ Lau) (λhHeld=>?_);clear hK K
      try simp only [ga,gs,gz,Act.put,sa,sz,ss]
      refine rd 5 λK hK=>?_
      simp only [ga,gs,gz]
      go_simp
      refine hK.out _ _ (KF.out _ Lau) (λhHeld=>?_);clear hK K
      try simp only [ga,gs,gz,Act.put,sa,sz,ss]
      refine rd 12 λK hK=>?_
      simp only [ga,gs,gz]
      go_simp
      go_at_call 63;(with_reducible refine (hT.out _).mono ?_);rintro e wb ⟨rfl,rfl⟩;have fu2:=Hq.out wa (Lau:Later wr wa)
      try go_wp2_with fail
      refine hK.out _ _ (KF.out _ Lau) (λhHeld=>?_);clear hK K
      try simp only [ga,gs,gz,Act.put,sa,sz,ss]
      refine tk 13 ?_;refine rd 14 λK hK=>?_
      simp only [ga,gs,gz]
      go_simp
      refine hK.out _ _ ?_ (λhHeld=>?_)
      ·(try dsimp only);((repeat (refine qa0 ?_ (by first|omega|(simp;done)|(simp;omega))))<;>(refine Later.cell (Lau:Later wr _) ?_)<;>assumption)
      clear hK K
      try simp only [ga,gs,gz,Act.put,sa,sz,ss]
      clear KF;refine Zn1 krZ ?_ _;refine Zd1 ?_;have ho:=(Lau:Later wr wa)
      have hw:=HD.out wa ho;have hN:=(hf.out.trans ho).set (p:=⟨w.heap.size,K2,none⟩) (lrZ _) (nQ iQ sv);have hd:Blk (wa.setCell ⟨w.heap.size,K2,none⟩ (nQ iQ sv)) w.heap.size 2 ((Ly.addRow acc A dv (m+1)).map (Za1 iQ)).toArray:=by rw [←Hu.out];simpa using hw
      obtain ⟨hH,Hd⟩:=zd2 hd hN;clear hw ho Hf hd hN;go_wp2_with fail;refine ⟨?_,?measure⟩;apply Exists.intro
      (repeat apply Exists.intro)
      refine ⟨?rel,rfl⟩
      case rel=>exact ⟨m+1,by omega,congrArg (Za1 iQ) (by have:=he.out;omega),hH.out,Hd.out⟩
      case measure=>have:=he.out;simp [intOf];omega
    ·obtain rfl:m=j:=by omega
     have hc:Blk wr w.heap.size 2 ((Ly.poolX false l g l.length n (m:Int) st (k+1)).map (Za1 iQ)).toArray:=by rw [hW.out];exact ha
     obtain ⟨K2,hK2⟩:∃K2:Nat,K2=A+m:=⟨_,rfl⟩
     rw [←hK2];have j1:decide ((K2:Int)<(A:Int)+(m:Int))=false:=by simp;omega
     clear hK2 ha hr hL;obtain ⟨hq,hf⟩:=zd2 hc hb;clear hc hb;go_wp2_with fail;go_roundw
     case rel=>exact ⟨k+1,by omega,by go_num,congrArg (Za1 iQ) (by have:=Hy.out;omega),hq.out,hf.out⟩
     case measure=>simp [intOf];omega
   ·obtain rfl:kd=1:=Hi.out
    rw [ipZ rfl] at hW;have hu:=Ly.at_in hU.out k;obtain ⟨B2,hB2⟩:∃B2:Nat,B2=A+B:=⟨_,rfl⟩
    rw [←hB2];have hR:=zI hB2;clear hB2;have hz:Blk wz w.heap.size 2 ((Ly.topMid acc A B (Ly.at_ g k) 0).map (Za1 iQ)).toArray:=by unfold Ly.topMid;rw [inZ oZ];exact hQ
    obtain ⟨hF,hD⟩:=zd2 hz hP;clear hz hP;clear hQ;go_upto_region 13 with fail
    go_loopw [16] (λi wx=>∃m:Nat,m<=j/\i=nQ iQ ((A+m:Nat):Int)/\Blk wx w.heap.size 2 ((Ly.topMid acc A B (Ly.at_ g k) m).map (Za1 iQ)).toArray/\Later w wx) (λi _=>A+j-(intOf i).toNat)
    case atStart=>exact ⟨0,Zt _,rfl,hF.out,hD.out⟩
    obtain ⟨m,hm,rfl,ha,hb⟩:=hrel;clear hF hD
    by_cases HP:m<j
    ·obtain ⟨K2,hK2⟩:∃K2:Nat,K2=A+m:=⟨_,rfl⟩
     rw [←hK2];have j1:decide ((K2:Int)<(A:Int)+(j:Int))=true:=by simp;omega
     have j4:iQ.wrap ((K2:Int)+1)=(K2:Int)+1:=Zc1 _ oZ
     by_cases HM:m=B
     ·subst HM
      obtain rfl:K2=B2:=by rw [hR.out,hK2]
      have hx:Ly.topMid acc A m (Ly.at_ g k) m=acc:=by unfold Ly.topMid;rw [inZ oZ]
      rw [hx] at ha;have hh:Ly.topMid acc A m (Ly.at_ g k) (m+1)=acc.set K2 (Fx.add (Ly.at_ acc K2) (Ly.at_ g k)):=by unfold Ly.topMid;rw [ipZ oZ,hK2];rfl
      have o1:=ha.row_get (k:=K2) (by rw [h9.out];omega);rw [←Ly.at_get (show K2<acc.length by rw [h9.out];omega)] at o1;have hE:=Ly.at_in Hw.out K2;have hM:(acc.map (Za1 iQ)).set K2 (nQ iQ (Fx.add (Ly.at_ acc K2) (Ly.at_ g k)))=(Ly.topMid acc A m (Ly.at_ g k) (m+1)).map (Za1 iQ):=by rw [hh,List.map_set]
      have hJ:=ha.set_ K2 (nQ iQ (Fx.add (Ly.at_ acc K2) (Ly.at_ g k)));have Hb:=ha.frozen K2;have h7:=hb.set (p:=⟨w.heap.size,K2,none⟩) (lrZ _) (nQ iQ (Fx.add (Ly.at_ acc K2) (Ly.at_ g k)));obtain ⟨bg,og,rfl,g0⟩:=HG.out.spot_ (show k<g.length by have:=Ha.out;omega);have g1:wr.cell? ⟨bg,og+k,none⟩=some (nQ iQ (Ly.at_ g k)):=hb.cell g0;have HR:bg<w.heap.size:=Zj1 _ _ g0;clear g0;have ht:=λ(V:Zp1)=>qbu (Ly.at_ acc K2) (Ly.at_ g k) V hE hu
      have hd:Blk (wr.setCell ⟨w.heap.size,K2,none⟩ (nQ iQ (Fx.add (Ly.at_ acc K2) (Ly.at_ g k)))) w.heap.size 2 ((Ly.topMid acc A m (Ly.at_ g k) (m+1)).map (Za1 iQ)).toArray:=by rw [←hM];simpa using hJ
      have HO:=zI (show ∃v,v=Ly.at_ g k/\Blk (wr.setCell ⟨w.heap.size,K2,none⟩ (nQ iQ (Fx.add (Ly.at_ acc K2) v))) w.heap.size 2 ((Ly.topMid acc A m (Ly.at_ g k) (m+1)).map (Za1 iQ)).toArray from ⟨_,rfl,hd⟩);generalize Ly.at_ acc K2=av at *;obtain ⟨gv,hgq⟩:∃gv,gv=Ly.at_ g k:=⟨_,rfl⟩
      rw [←hgq] at ht g1 h7 hd;generalize hsv:Fx.add av gv=sv at *;have j2:(K2:Int)<(l.length:Int):=by omega
      have j3:(0:Int)<=(K2:Int):=by omega
      obtain ⟨he,HN⟩:=zd2 hK2 hgq;have h0:=hb.size;clear hK2 hh hE hsv hM hJ hx hgq HO;obtain ⟨hZ,hf,hT,hH,HL,HU⟩:=zd6 ha hb ht hd h7 hu;clear ha hb ht hd h7 hu;go_wp2_with fail;have KF:=zI (show ∀Xw,Later wr Xw->Xw.cell? ⟨bg,og+k,none⟩=some (nQ iQ gv) from λXw h=>h.cell g1);refine Zm1 ?_;refine Zl1 (S:=λXw=>Xw.cell? ⟨bg,og+k,none⟩=some (nQ iQ gv)) krZ (KF.out _ Lau) (λhHeld=>?_);refine tk 0 ?_;refine tk 1 ?_;refine tk 2 ?_;refine tk 3 ?_;refine tk 4 ?_;refine tk 6 ?_;refine tk 7 ?_;refine tk 8 ?_;refine tk 9 ?_;refine rd 5 λK hK=>?_
      simp only [ga,gs,gz]
      go_simp
      refine hK.out _ _ (KF.out _ Lau) (λhHeld=>?_);clear hK K
      try simp only [ga,gs,gz,Act.put,sa,sz,ss]
      refine rd 10 λK hK=>?_
      simp only [ga,gs,gz]
      go_simp
      go_at_call 63;(with_reducible refine (hT.out _).mono ?_);rintro e wb ⟨rfl,rfl⟩
      try go_wp2_with fail
      refine hK.out _ _ (KF.out _ Lau) (λhHeld=>?_);clear hK K
      try simp only [ga,gs,gz,Act.put,sa,sz,ss]
      refine tk 11 ?_;refine rd 12 λK hK=>?_
      simp only [ga,gs,gz]
      go_simp
      refine hK.out _ _ ?_ (λhHeld=>?_)
      ·(try dsimp only);((repeat (refine qa0 ?_ (by first|omega|(simp;done)|(simp;omega))))<;>(refine Later.cell (Lau:Later wr _) ?_)<;>assumption)
      clear hK K
      try simp only [ga,gs,gz,Act.put,sa,sz,ss]
      clear KF;refine Zn1 krZ ?_ _;refine Zd1 ?_;go_wp2_with fail;go_roundw
      case rel=>exact ⟨m+1,by omega,congrArg (Za1 iQ) (by have:=he.out;omega),by rw [←HN.out];exact hH.out,by exact HL.out.drew⟩
      case measure=>have:=he.out;simp [intOf];omega
     ·have hh:Ly.topMid acc A B (Ly.at_ g k) (m+1)=Ly.topMid acc A B (Ly.at_ g k) m:=by
       unfold Ly.topMid
       by_cases h:B<m
       ·rw [ipZ h,ipZ oZ]
       ·rw [inZ h,inZ oZ]
      rw [←hh] at ha;have j5:((K2:Int)==(B2:Int))=false:=by rw [beq_eq_false_iff_ne];have:=hR.out;omega
      have he:=zI hK2;clear hK2 hh;obtain ⟨hZ,hf⟩:=zd2 ha hb;clear ha hb;go_wp2_with fail;go_roundw
      case rel=>exact ⟨m+1,by omega,congrArg (Za1 iQ) (by have:=he.out;omega),hZ.out,hf.out⟩
      case measure=>have:=he.out;simp [intOf];omega
    ·obtain rfl:m=j:=by omega
     have hc:Blk wr w.heap.size 2 ((Ly.poolX true l g l.length n (m:Int) st (k+1)).map (Za1 iQ)).toArray:=by rw [hW.out];unfold Ly.topMid at ha;rw [ipZ hB] at ha;exact ha
     obtain ⟨K2,hK2⟩:∃K2:Nat,K2=A+m:=⟨_,rfl⟩
     rw [←hK2];have j1:decide ((K2:Int)<(A:Int)+(m:Int))=false:=by simp;omega
     clear hK2 ha;obtain ⟨hq,hf⟩:=zd2 hc hb;clear hc hb;go_wp2_with fail;go_roundw
     case rel=>exact ⟨k+1,by omega,by go_num,congrArg (Za1 iQ) (by have:=Hy.out;omega),hq.out,hf.out⟩
     case measure=>simp [intOf];omega
 ·have Hc:¬A+wd<=l.length:=λh=>hS (hC.1 h)
  obtain rfl:k=n:=by omega
  have e1:iQ.wrap ((A:Int)+(wd:Int))=(A:Int)+(wd:Int):=by
   have:A<=100000:=by
    have h5:=HA.out;rcases k with _|m
    ·simp at h5;omega
    ·have h6:=(Hn.out m).2 oZ
     rw [Zu] at h5;omega
   exact Zc1 _ oZ
  have e2:decide ((A:Int)+(wd:Int)<=(l.length:Int))=false:=by simp;omega
  have hO:=(Ly.poolX_facts (top:=top) (x:=l) hU.out l.length k (wd:Int) st k).1;generalize Ly.poolX top l g l.length k (wd:Int) st k=R at *
  have hI:Ints iQ wr (some ⟨w.heap.size,0,none⟩) R:=Ints.of_row λj hj=>by
   rw [Zw,hm.row_get hj,qbs hj]
  rw [←hO];have HS:=zI hO;have H0:=e2;rw [←hO] at e2;clear hO hm hC Hc;obtain ⟨HI,hs⟩:=zd2 hI hV;clear hI hV;go_wp2_with fail;go_ret;exact ⟨some ⟨w.heap.size,0,none⟩,_,rfl,HI.out,lrZ _,by have:=HS.out;omega,hs.out⟩
namespace Ly
theorem qei {A B Z:List Int} {a i:Nat} {v:Int} (ha:A.length=a) (hi:i<B.length):addAt (A++(B++Z)) (a+i) v=A++(addAt B i v++Z):=by
 unfold addAt at_;subst ha
 have h1:(A++(B++Z)).getD (A.length+i) 0=B.getD i 0:=by
  simp only [gdZ];rw [Zl oZ,Nat.add_sub_cancel_left,Zm hi]
 rw [h1,List.set_append_right _ _ oZ,Nat.add_sub_cancel_left,List.set_append_left _ _ hi]
theorem qcH (l:List Int) (a:Nat) (v:Int) (j:Nat):(addRow l a v j).length=l.length:=by
 induction j with
 | zero=>rfl
 | succ j ih=>unfold addRow;rw [qaU,ih]
theorem qdb {A Z:List Int} {a b:Nat} {v:Int} (ha:A.length=a):∀(B:List Int) (j:Nat),b+j<=B.length->addRow (A++(B++Z)) (a+b) v j=A++(addRow B b v j++Z)
 | _,0,_=>rfl
 | B,j+1,h=>by
  unfold addRow;rw [qdb ha B j oZ,Nat.add_assoc,qei ha (by rw [qcH];omega)]
theorem rowOf_at {g:List Int} {n r j:Nat} (hj:j<n):at_ (rowOf g n r) j=at_ g (r*n+j):=row_at hj
theorem qgS (a b:Nat):zeros (a+b)=zeros a++zeros b:=List.replicate_append_replicate.symm
theorem poolX_long (top:Bool) (x g:List Int) (sd n:Nat) (wd:Int) (st k:Nat):(poolX top x g sd n wd st k).length=x.length:=by
 induction k with
 | zero=>simp [poolX,zeros]
 | succ k ih=>
  rw [poolX];unfold poolStep
  split
  ·rw [qaU,ih]
  ·rw [qcH,ih]
def backRow (top:Bool) (x g:List Int) (sd n wd st r:Nat):List Int:=poolX top (rowOf x sd r) (rowOf g n r) sd n (wd:Int) st n
theorem qej {top:Bool} {x g:List Int} {sd n wd st pre R:Nat} {A:List Int} (hx:x.length=pre*sd) (hR:R<pre) (hw:1<=wd) (hb:∀j,j<n->j*st+wd<=sd) (hA:A.length=R*sd)
  (h0:poolX top x g sd n (wd:Int) st (R*n)=A++zeros ((pre-R)*sd)):
  ∀k,k<=n->poolX top x g sd n (wd:Int) st (R*n+k)=A++(poolX top (rowOf x sd R) (rowOf g n R) sd n (wd:Int) st k++zeros ((pre-(R+1))*sd))
 | 0,_=>by
  rw [Zx,h0,show poolX top (rowOf x sd R) (rowOf g n R) sd n (wd:Int) st 0=zeros (rowOf x sd R).length from rfl,row_len hx hR,←qgS];rw [show (pre-R)*sd=sd+(pre-(R+1))*sd by rw [show pre-R=(pre-(R+1))+1 by omega,Zu];omega]
 | k+1,hk=>by
  have ih:=qej (top:=top) (g:=g) hx hR hw hb hA h0 k oZ;have hl:(poolX top (rowOf x sd R) (rowOf g n R) sd n (wd:Int) st k).length=sd:=by rw [poolX_long,row_len hx hR]
  have ha:=hb k oZ;rw [←Nat.add_assoc,poolX,ih,poolX];unfold poolStep;rw [tnZ,qgQ oZ,from_row oZ,qeh oZ ha,win_row oZ,rowOf_at oZ];have hm:=bix_lt (wrow (rowOf x sd R) wd st k) (lrZ wd) hw
  split
  ·rw [Nat.add_assoc,qei hA oZ]
  ·exact qdb hA _ _ oZ
theorem qdc {top:Bool} {x g:List Int} {sd n wd st pre:Nat} (hx:x.length=pre*sd) (hw:1<=wd) (hb:∀j,j<n->j*st+wd<=sd):
  ∀R,R<=pre->poolX top x g sd n (wd:Int) st (R*n)=((List.range R).flatMap λr=>backRow top x g sd n wd st r)++zeros ((pre-R)*sd)/\((List.range R).flatMap λr=>backRow top x g sd n wd st r).length=R*sd
 | 0,_=>by
  rw [Nat.zero_mul,Nat.zero_mul];exact ⟨by show zeros x.length=_;rw [hx];rfl,rfl⟩
 | R+1,hR=>by
  obtain ⟨h1,h2⟩:=qdc (top:=top) (g:=g) hx hw hb R oZ;have h3:=qej hx (show R<pre by omega) hw hb h2 h1 n (lrZ _);rw [Zu,h3,List.range_succ,Zj];refine ⟨by simp [backRow],?_⟩;rw [Ze,h2];simp only [List.flatMap_cons,List.flatMap_nil,List.append_nil];unfold backRow;rw [poolX_long,row_len hx (show R<pre by omega),Zu]
end Ly
namespace Ly
def colX (w g:List Int) (n j:Nat):Nat->Int
 | 0=>0
 | i+1=>Fx.add (colX w g n j i) (Fx.mul (at_ w (i*n+j)) (at_ g i))
theorem colX_in (w g:List Int) (n j i:Nat):Fx.In (colX w g n j i):=by
 cases i with
 | zero=>exact Fx.in_zero
 | succ i=>exact Fx.add_in _ _
theorem denseX_col (w g x:List Int) (i:Nat):denseX w g x i=tab x.length λj=>colX w g x.length j i:=by
 induction i with
 | zero=>unfold denseX zeros tab colX;rw [List.map_const'];simp
 | succ i ih=>
  unfold denseX;rw [ih];refine List.ext_getElem (by simp [tab]) λj h1 h2=>?_
  rw [tab_get h1,tab_get h2,at_get (by rw [tab_len] at h1 ⊢;exact h1),tab_get]
  rfl
end Ly
theorem r6_backX (W G:Option Addr) (c d n:Nat) (wt g:List Int) (w:Zp1) (hw:wt.length=g.length*n) (hwl:wt.length<=65536) (hml:g.length<=65536) (hnl:n<=65536)
  (hW:Ints iQ w W wt) (hG:Ints iQ w G g) (iw:∀z∈wt,Fx.In z) (ig:∀z∈g,Fx.In z):
  Calls Tryz.prog 61 #[nQ iQ (n:Int),sQ W wt.length c,sQ G g.length d] w (NewF (Ly.tab n λj=>Ly.colX wt g n j g.length) w):=by
 obtain ⟨i0,hi,h5,hU,hJ⟩:=info_parts qaD;generalize hR:(Ly.tab n λj=>Ly.colX wt g n j g.length)=R at *;have hf:R.length=n:=by subst hR;exact Ly.tab_len _ _
 have hz:∀i (hi:i<R.length),R[i]=Ly.colX wt g n i g.length:=λi hi=>by subst hR;exact Ly.tab_get hi
 obtain ⟨HW,HG,Hw,hM,hZ,hy,hQ⟩:=zd7 hW hG hw iw ig hf hz;clear hW hG hw iw ig hf hz;clear hR;go_enter Tryz.func61,Tryz.ntmps61;go_wp2_with fail
 go_loopw [7,8] (λo i wx=>∃k:Nat,k<=n/\i=nQ iQ (k:Int)/\wx.ownsRow w.heap.size 2 1 o k ((R.take k).map (Za1 iQ))/\Later w wx) (λ_ i _=>n-(intOf i).toNat)
 case atStart=>exact ⟨0,Zt _,rfl,by simpa using World.ownsRow_nil w w.heap.size 2 1,Later.refl _⟩
 case round=>
  obtain ⟨k,hk,rfl,hown,hq⟩:=hrel;obtain ⟨Ao,co,rfl⟩:=qa8 hown
  by_cases hT:k<n
  ·have k0:(k:Int)<(n:Int):=by omega
   obtain ⟨wo,rfl⟩:∃wo,wo=wr:=⟨_,rfl⟩
   obtain ⟨hl,hr⟩:=zd2 hown hq;clear hown hq;go_upto_region 7 with fail
   go_loopw [9,10] (λs j wx=>∃j':Nat,j'<=g.length/\j=nQ iQ (j':Int)/\s=nQ iQ (Ly.colX wt g n k j')/\Later wo wx) (λ_ j _=>g.length-(intOf j).toNat)
   case atStart=>exact ⟨0,Zt _,rfl,rfl,Later.refl _⟩
   obtain ⟨j,hj,rfl,rfl,hm⟩:=hrel
   by_cases hC:j<g.length
   ·have he:=hr.out.trans hm
    obtain ⟨P,hP⟩:∃P:Nat,P=j*n:=⟨_,rfl⟩
    obtain ⟨K,hK⟩:∃K:Nat,K=P+k:=⟨_,rfl⟩
    have h4:K<wt.length:=by rw [Hw.out,hK,hP];exact idx_bd hC hT
    have h9:(j:Int)*(n:Int)=(P:Int):=by rw [hP];simp
    obtain ⟨bw,ow,rfl,hx⟩:=(HW.out.below he (lrZ _)).spot_ h4;obtain ⟨bx,ox,rfl,ht⟩:=(HG.out.below he (lrZ _)).spot_ hC;have hd:Ly.colX wt g n k (j+1)=Fx.add (Ly.colX wt g n k j) (Fx.mul (Ly.at_ wt K) (Ly.at_ g j)):=by rw [hK,hP];rfl
    have hE:=Ly.colX_in wt g n k j;have hA:=λ(V:Zp1)=>qf7 (Ly.at_ wt K) (Ly.at_ g j) V (Ly.at_in hM.out K) (Ly.at_in hZ.out j)
    have hB:=λ(V:Zp1)=>qbu (Ly.colX wt g n k j) (Fx.mul (Ly.at_ wt K) (Ly.at_ g j)) V hE (Fx.mul_in _ _)
    have h7:(P:Int)+(k:Int)=(K:Int):=by omega
    have h8:iQ.wrap (P:Int)=(P:Int):=Zc1 _ oZ;have h6:iQ.wrap (K:Int)=(K:Int):=Zc1 _ oZ;have j1:(j:Int)<(g.length:Int):=by omega
    have j2:(K:Int)<(wt.length:Int):=by omega
    have j3:(0:Int)<=(K:Int):=by omega
    have j4:(0:Int)<=(j:Int):=by omega
    generalize Ly.colX wt g n k j=s0 at *;generalize Ly.at_ wt K=a0 at *;generalize Ly.at_ g j=b0 at *;clear hE hK hP;obtain ⟨Hd,hI,hN,hV,h1⟩:=zd5 hd he hm hA hB;clear hd he hm hA hB;go_wp2_with fail
    go_region_held3 (λW=>W.cell? ⟨bw,ow+K,none⟩=some (nQ iQ a0)/\W.cell? ⟨bx,ox+j,none⟩=some (nQ iQ b0)) (first|(with_reducible exact ⟨hx,ht⟩)|exact ⟨Later.cell (Lau:Later wr _) hx,Later.cell (Lau:Later wr _) ht⟩)
     (first
      | (go_at_call 105;(with_reducible refine (hV.out _).mono ?_);rintro e wa ⟨rfl,hL⟩)
      | (go_at_call 63;(with_reducible refine (h1.out _).mono ?_);rintro e wb ⟨rfl,rfl⟩))
    have hn:=hN.out.trans (Lau:Later wr wa);clear hL hx ht;have hv:=zI hn;clear hn;go_wp2_with fail;go_roundw
    case rel=>exact ⟨j+1,by omega,by go_num,by rw [Hd.out],hv.out⟩
    case measure=>simp [intOf];omega
   ·obtain rfl:j=g.length:=by omega
    have hh:k<R.length:=by have:=hy.out;omega
    have hs:(R.take (k+1)).map (Za1 iQ)=(R.take k).map (Za1 iQ)++[nQ iQ R[k]]:=by rw [Zb hh,List.map_append,List.map_singleton]
    rw [hQ.out k hh] at hs;have he:=hr.out.trans hm;have ha:=qae hl.out hm;generalize Ly.colX wt g n k g.length=v0 at *;generalize (R.take k).map (Za1 iQ)=vs at *;clear hh hm;have ho:=qa6 ha (.cells #[nQ iQ v0] 2);have hg:=he.alloc (.cells #[nQ iQ v0] 2);have hS:=hg.size;rw [Zh1] at hS;have hH:=zI (λb (hb:(Zb1 Ao k co).ownBlock=some b)=>(ha.lt b hb).1);obtain ⟨hX,hI,hD⟩:=zd3 hs he ha;clear hs he ha;go_wp2_with (at_builtin;refine wpList_append_own_at _ rfl _ _ 48 rfl w.heap.size 2 i0 (nQ iQ 0) 1 8 Tryz.underlying48 hi h5 hU hJ rfl dZ _ _ _ rfl ho ⟨wr.heap.size,0,none⟩ 1 1 [nQ iQ v0] rfl rfl ?c1 (by intro u hu;simp at hu;subst hu;rfl) (by unfold maxLen;omega) oZ ?c2 ?_)
    first|(case c1=>exact qap wr _ _)|skip
    case c2=>simp;omega
    intro v' w4 hc hgrow _ h0;have hF:Later w w4:=Below.grown hg hgrow soZ (λb hb=>hH.out b hb);rw [←hX.out] at hc;have hp:=zI hc;have h3:=zI hF;clear hc hF;clear hgrow h0 ho hg hH;go_wp2_with fail;go_roundw
    case rel=>exact ⟨k+1,by omega,by go_num,hp.out,h3.out⟩
    case measure=>simp [intOf];omega
  ·obtain rfl:k=n:=by omega
   have hf:=hy.out;rw [List.take_of_length_le oZ] at hown;rw [←hf] at hown;obtain ⟨q1,q2,q3⟩:=qal hown;rw [show (Zb1 Ao k co)=Zb1 Ao R.length co by rw [hf]];have e0:decide (((k:Nat):Int)<((k:Nat):Int))=false:=by simp
   obtain ⟨hl,hO,h2,hY,hr,hy⟩:=zd6 hown q1 q2 q3 hq hf;clear hown q1 q2 q3 hq hf;go_wp2_with fail;go_ret;exact ⟨Ao,co,rfl,hO.out,h2.out,hY.out,hr.out,qaM hl.out⟩
theorem Ly.denseW_at6 {g x:List Int} {i j:Nat} (hj:j<x.length) (h:i*x.length+j<(Ly.denseW g x).length):(Ly.denseW g x)[i*x.length+j]=Fx.mul (Ly.at_ g i) (Ly.at_ x j):=by
 unfold Ly.denseW at h ⊢;rw [Ly.tab_get h,Nat.mul_comm,Nat.mul_add_div oZ,Nat.div_eq_of_lt hj,Zx,Nat.mul_add_mod,Nat.mod_eq_of_lt hj]
theorem Ly.denseW_len6 (g x:List Int):(Ly.denseW g x).length=g.length*x.length:=Ly.tab_len _ _
theorem r6_backW (G X:Option Addr) (c d:Nat) (g x:List Int) (w:Zp1) (hml:g.length<=65536) (hxl:x.length<=65536) (hgx:g.length*x.length<=65536)
  (hG:Ints iQ w G g) (hX:Ints iQ w X x) (ig:∀z∈g,Fx.In z) (ix:∀z∈x,Fx.In z):
  Calls Tryz.prog 60 #[sQ G g.length c,sQ X x.length d] w (NewF (Ly.denseW g x) w):=by
 obtain ⟨i0,hi,hO,hz,hv⟩:=info_parts qaD;have hf:=Ly.denseW_len6 g x;have hr:∀i j (hj:j<x.length) (h:i*x.length+j<(Ly.denseW g x).length),(Ly.denseW g x)[i*x.length+j]=Fx.mul (Ly.at_ g i) (Ly.at_ x j):=λi j hj h=>Ly.denseW_at6 hj h
 generalize Ly.denseW g x=R at *;obtain ⟨HG,HX,hH,hP,hp,hy⟩:=zd6 hG hX ig ix hf hr;clear hG hX ig ix hf hr;go_enter Tryz.func60,Tryz.ntmps60;go_wp2_with fail
 go_loopw [5,6] (λo i wx=>∃k:Nat,k<=g.length/\i=nQ iQ (k:Int)/\wx.ownsRow w.heap.size 2 1 o (k*x.length) ((R.take (k*x.length)).map (Za1 iQ))/\Later w wx) (λ_ i _=>g.length-(intOf i).toNat)
 case atStart=>exact ⟨0,Zt _,rfl,by simpa using World.ownsRow_nil w w.heap.size 2 1,Later.refl _⟩
 case round=>
  obtain ⟨k,hk,rfl,hown,hc⟩:=hrel
  by_cases ht:k<g.length
  ·have k0:(k:Int)<(g.length:Int):=by omega
   have k1:(0:Int)<=(k:Int):=by omega
   obtain ⟨ha,he⟩:=zd2 hown hc;clear hown hc;go_upto_region 6 with fail
   go_loopw [5,7] (λo j wx=>∃j':Nat,j'<=x.length/\j=nQ iQ (j':Int)/\wx.ownsRow w.heap.size 2 1 o (k*x.length+j') ((R.take (k*x.length+j')).map (Za1 iQ))/\Later w wx) (λ_ j _=>x.length-(intOf j).toNat)
   case atStart=>exact ⟨0,Zt _,rfl,ha.out,he.out⟩
   clear ha he;obtain ⟨j,hj,rfl,hown,hc⟩:=hrel
   by_cases hq:j<x.length
   ·obtain ⟨Ao,co,rfl⟩:=qa8 hown
    have hA:=idx_bd ht hq;have hg:k*x.length+j<R.length:=by have:=hp.out;omega
    have hl:(R.take (k*x.length+(j+1))).map (Za1 iQ)=(R.take (k*x.length+j)).map (Za1 iQ)++[nQ iQ R[k*x.length+j]]:=by rw [←Nat.add_assoc,Zb hg,List.map_append,List.map_singleton]
    rw [hy.out k j hq hg] at hl;obtain ⟨bw,ow,rfl,ho⟩:=HG.out.spot_ ht;obtain ⟨bx,ox,rfl,hn⟩:=HX.out.spot_ hq;have hR:wr.cell? ⟨bw,ow+k,none⟩=some (nQ iQ (Ly.at_ g k)):=hc.cell ho;have hQ:wr.cell? ⟨bx,ox+j,none⟩=some (nQ iQ (Ly.at_ x j)):=hc.cell hn;have hs:=λ(V:Zp1)=>qf7 (Ly.at_ g k) (Ly.at_ x j) V (Ly.at_in hH.out k) (Ly.at_in hP.out j)
    have j1:(j:Int)<(x.length:Int):=by omega
    have j4:(0:Int)<=(j:Int):=by omega
    rw [show k*x.length+(j+1)=k*x.length+j+1 by omega] at hl;have HS:=zI (show k*x.length+(j+1)=k*x.length+j+1 by omega);have hS:k*x.length+j<65536:=by omega
    generalize k*x.length+j=Kn at *;generalize (R.take Kn).map (Za1 iQ)=vs at *;generalize Ly.at_ g k=a0 at *;generalize Ly.at_ x j=b0 at *;have hJ:=hc.size;have hN:Below w.heap.size w wr:=hc;clear hg hA;obtain ⟨hD,he,hB,ha⟩:=zd4 hl hc hs hown;clear hl hc hs hown;go_wp2_with fail;have KF:=zI (show ∀Xw,Later w Xw->Xw.cell? ⟨bw,ow+k,none⟩=some (nQ iQ a0)/\Xw.cell? ⟨bx,ox+j,none⟩=some (nQ iQ b0) from λXw h=>⟨h.cell ho,h.cell hn⟩);refine Zm1 ?_;refine Zl1 (S:=λXw=>Xw.cell? ⟨bw,ow+k,none⟩=some (nQ iQ a0)/\Xw.cell? ⟨bx,ox+j,none⟩=some (nQ iQ b0)) krZ (KF.out _ Lau) (λhHeld=>?_);refine tk 0 ?_;refine tk 1 ?_;refine tk 2 ?_;refine tk 3 ?_;refine tk 4 ?_;refine tk 5 ?_;refine tk 6 ?_;refine tk 7 ?_;refine tk 8 ?_;refine rd 9 λK hK=>?_
    simp only [ga,gs,gz]
    go_simp
    go_at_call 105;(with_reducible refine (hB.out _).mono ?_);rintro e wa ⟨rfl,hw⟩;have hm:=(Lau:Later wr wa);have hE:=hm.size
    try go_wp2_with fail
    refine hK.out _ _ (KF.out _ Lau) (λhHeld=>?_);clear hK K
    try simp only [ga,gs,gz,Act.put,sa,sz,ss]
    refine rd 10 λK hK=>?_
    simp only [ga,gs,gz]
    go_simp
    refine hK.out _ _ (KF.out _ Lau) (λhHeld=>?_);clear hK K
    try simp only [ga,gs,gz,Act.put,sa,sz,ss]
    refine rd 11 λK hK=>?_
    refine step_append_lies _ (by rfl) _ _ 48 (by rfl) w.heap.size 2 i0 (nQ iQ 0) 1 8 Tryz.underlying48 hi hO hz hv rfl oZ (sQ Ao Kn co) Kn vs (by rfl) (qa6 (qae ha.out hm) (.cells #[nQ iQ (Fx.mul a0 b0)] 2)) ⟨wa.heap.size,0,none⟩ 1 1 [nQ iQ (Fx.mul a0 b0)] (by rfl) (by rfl) (qap wa _ _) (by simp [Value.oneCell']) oZ (by unfold maxLen;omega) oZ soZ (wa.heap.size+1) sZ ?_;intro gg cap w4 hd hgrow hI hC;have hu:Below w.heap.size w w4:=Below.grown ((he.out.trans hm).alloc (.cells #[nQ iQ (Fx.mul a0 b0)] 2)) hgrow soZ (λb hb=>(ha.out.lt b hb).1);refine hK.out _ _ (KF.out _ Lau) (λhHeld=>?_);clear hK K
    try simp only [ga,gs,gz,Act.put,sa,sz,ss]
    refine tk 12 ?_;clear KF;refine Zn1 krZ ?_ _;refine Zd1 ?_;rw [←hD.out] at hd;obtain ⟨hh,hL⟩:=zd2 hd hu;clear hd hu;clear hgrow hI hw hN hm ho hn;go_wp2_with fail;go_roundw
    case rel=>exact ⟨j+1,by omega,by go_num,by rw [HS.out];exact hh.out,hL.out⟩
    case measure=>simp [intOf];omega
   ·obtain rfl:j=x.length:=by omega
    rw [←Zu] at hown;obtain ⟨ha,he⟩:=zd2 hown hc;clear hown hc;go_wp2_with fail;go_roundw
    case rel=>exact ⟨k+1,by omega,by go_num,ha.out,he.out⟩
    case measure=>simp [intOf];omega
  ·obtain rfl:k=g.length:=by omega
   obtain ⟨Ao,co,rfl⟩:=qa8 hown;have hf:=hp.out;rw [←hf,List.take_of_length_le (lrZ _)] at hown;rw [←hf];obtain ⟨q1,q2,q3⟩:=qal hown;have e0:decide (((g.length:Nat):Int)<((g.length:Nat):Int))=false:=by simp
   obtain ⟨ha,hx,hM,hF,he,hp⟩:=zd6 hown q1 q2 q3 hc hf;clear hown q1 q2 q3 hc hf;go_wp2_with fail;go_ret;exact ⟨Ao,co,rfl,hx.out,hM.out,hF.out,he.out,qaM ha.out⟩
def Ly.sumC (a b:List Int):List Int:=Ly.tab a.length λi=>Fx.add (Ly.at_ a i) (Ly.at_ b i)
theorem qgT (G X:Option Addr) (c d:Nat) (g x:List Int) (w:Zp1) (hml:g.length<=65536) (hxl:x.length=g.length)
  (hG:Ints iQ w G g) (hX:Ints iQ w X x) (ig:∀z∈g,Fx.In z) (ix:∀z∈x,Fx.In z):
  Calls Tryz.prog 30 #[sQ G g.length c,sQ X x.length d] w (NewF (Ly.sumC g x) w):=by
 obtain ⟨i0,hi,hI,hw,hs⟩:=info_parts qaD;have he:(Ly.sumC g x).length=g.length:=Ly.tab_len _ _;have hp:∀i (h:i<(Ly.sumC g x).length),(Ly.sumC g x)[i]=Fx.add (Ly.at_ g i) (Ly.at_ x i):=λi h=>Ly.tab_get h
 generalize Ly.sumC g x=R at *;obtain ⟨HG,HX,hB,hJ,hm,hu,ho⟩:=zd7 hG hX ig ix he hp hxl;clear hG hX ig ix he hp hxl;go_enter Tryz.func30,Tryz.ntmps30;go_wp2_with fail
 go_loopw [5,6] (λo j wx=>∃k:Nat,k<=g.length/\j=nQ iQ (k:Int)/\wx.ownsRow w.heap.size 2 1 o k ((R.take k).map (Za1 iQ))/\Later w wx) (λ_ j _=>g.length-(intOf j).toNat)
 case atStart=>exact ⟨0,Zt _,rfl,by simpa using World.ownsRow_nil w w.heap.size 2 1,Later.refl _⟩
 obtain ⟨k,hk,rfl,hown,hd⟩:=hrel;obtain ⟨Ao,co,rfl⟩:=qa8 hown
 by_cases hv:k<g.length
 ·have hf:k<R.length:=by have:=hm.out;omega
  have hh:(R.take (k+1)).map (Za1 iQ)=(R.take k).map (Za1 iQ)++[nQ iQ R[k]]:=by rw [Zb hf,List.map_append,List.map_singleton]
  rw [hu.out k hf] at hh;obtain ⟨bw,ow,rfl,hl⟩:=HG.out.spot_ hv;obtain ⟨bx,ox,rfl,hj⟩:=HX.out.spot_ (show k<x.length by have:=ho.out;omega);have hM:wr.cell? ⟨bw,ow+k,none⟩=some (nQ iQ (Ly.at_ g k)):=hd.cell hl;have hL:wr.cell? ⟨bx,ox+k,none⟩=some (nQ iQ (Ly.at_ x k)):=hd.cell hj;have hq:=λ(V:Zp1)=>qbu (Ly.at_ g k) (Ly.at_ x k) V (Ly.at_in hB.out k) (Ly.at_in hJ.out k)
  have j1:(k:Int)<(g.length:Int):=by omega
  have j2:(k:Int)<(x.length:Int):=by have:=ho.out;omega
  have j4:(0:Int)<=(k:Int):=by omega
  generalize (R.take k).map (Za1 iQ)=vs at *;generalize Ly.at_ g k=a0 at *;generalize Ly.at_ x k=b0 at *;have hD:=hd.size;have hH:Below w.heap.size w wr:=hd;clear hf;obtain ⟨hz,hn,hx,hc⟩:=zd4 hh hd hq hown;clear hh hd hq hown;go_wp2_with fail;have KF:=zI (show ∀Xw,Later w Xw->Xw.cell? ⟨bw,ow+k,none⟩=some (nQ iQ a0)/\Xw.cell? ⟨bx,ox+k,none⟩=some (nQ iQ b0) from λXw h=>⟨h.cell hl,h.cell hj⟩);refine Zm1 ?_;refine Zl1 (S:=λXw=>Xw.cell? ⟨bw,ow+k,none⟩=some (nQ iQ a0)/\Xw.cell? ⟨bx,ox+k,none⟩=some (nQ iQ b0)) krZ (KF.out _ Lau) (λhHeld=>?_);refine tk 0 ?_;refine tk 1 ?_;refine tk 2 ?_;refine tk 3 ?_;refine tk 4 ?_;refine tk 5 ?_;refine tk 6 ?_;refine tk 7 ?_;refine tk 8 ?_;refine rd 9 λK hK=>?_
  simp only [ga,gs,gz]
  go_simp
  go_at_call 63;(with_reducible refine (hx.out _).mono ?_);rintro e wb ⟨rfl,rfl⟩
  try go_wp2_with fail
  refine hK.out _ _ (KF.out _ Lau) (λhHeld=>?_);clear hK K
  try simp only [ga,gs,gz,Act.put,sa,sz,ss]
  refine rd 10 λK hK=>?_
  simp only [ga,gs,gz]
  go_simp
  refine hK.out _ _ (KF.out _ Lau) (λhHeld=>?_);clear hK K
  try simp only [ga,gs,gz,Act.put,sa,sz,ss]
  refine rd 11 λK hK=>?_
  refine step_append_lies _ (by rfl) _ _ 48 (by rfl) w.heap.size 2 i0 (nQ iQ 0) 1 8 Tryz.underlying48 hi hI hw hs rfl oZ (sQ Ao k co) k vs (by rfl) (qa6 hc.out (.cells #[nQ iQ (Fx.add a0 b0)] 2)) ⟨wr.heap.size,0,none⟩ 1 1 [nQ iQ (Fx.add a0 b0)] (by rfl) (by rfl) (qap wr _ _) (by simp [Value.oneCell']) oZ (by unfold maxLen;omega) oZ soZ (wr.heap.size+1) sZ ?_;intro gg cap w4 ha hgrow hC hy;have hr:Below w.heap.size w w4:=Below.grown (hn.out.alloc (.cells #[nQ iQ (Fx.add a0 b0)] 2)).drew hgrow soZ (λb hb=>(hc.out.lt b hb).1);refine hK.out _ _ (KF.out _ Lau) (λhHeld=>?_);clear hK K
  try simp only [ga,gs,gz,Act.put,sa,sz,ss]
  refine tk 12 ?_;clear KF;refine Zn1 krZ ?_ _;refine Zd1 ?_;rw [←hz.out] at ha;obtain ⟨hg,hF⟩:=zd2 ha hr;clear ha hr;clear hgrow hC hH hl hj;go_wp2_with fail;go_roundw
  case rel=>exact ⟨k+1,by omega,by go_num,hg.out,hF.out⟩
  case measure=>simp [intOf];omega
 ·obtain rfl:k=g.length:=by omega
  have he:=hm.out;rw [←he,List.take_of_length_le (lrZ _)] at hown;rw [←he];obtain ⟨q1,q2,q3⟩:=qal hown;have e0:decide (((g.length:Nat):Int)<((g.length:Nat):Int))=false:=by simp
  obtain ⟨hc,ht,hE,hA,hn,hm⟩:=zd6 hown q1 q2 q3 hd he;clear hown q1 q2 q3 hd he;go_wp2_with fail;go_ret;exact ⟨Ao,co,rfl,ht.out,hE.out,hA.out,hn.out,qaM hc.out⟩
namespace Ly
theorem cell_y {kind k x:Int} (y z:Int) (h:kind<=5):cell kind k x y=cell kind k x z:=by
 have h6:¬kind=6:=by omega
 have h7:¬kind=7:=by omega
 unfold cell;simp only [inZ h6,inZ h7]
theorem slope_y {kind k x g:Int} (y z:Int) (h:kind<=5):slope kind k x y g=slope kind k x z g:=by
 have h6:¬kind=6:=by omega
 have h7:¬kind=7:=by omega
 unfold slope;simp only [inZ h6,inZ h7]
theorem qgU {x:Ten} {width step:Int} (h:poolErr x width step=0):lastOf x.s<lastOf (poolS x width step)*step.toNat+width.toNat:=by
 obtain ⟨sd,n,wd,st,pre,e1,e2,e3,e4,rfl,rfl,h1,h2,h3,h4,h5,-⟩:=pool_facts h;rw [e1,e3,tnZ,tnZ];unfold poolErr at h
 by_cases hr:Tn.right x=true
 case neg=>rw [inZ hr] at h;omega
 rw [ipZ hr] at h;have hs:=(right_s hr).1;have hl:=(Sh.right_mul hs).2.2.1;unfold poolS Od.pool at e4;unfold Od.pool at h;rw [ipZ hs] at h e4
 by_cases hw:(Od.window (x.s.getD (x.s.length-1) 0) (wd:Int) (st:Int)).2=0
 case neg=>rw [inZ hw] at h;simp at h
 rw [ipZ hw] at e4
 have e5:(x.s.set (x.s.length-1) (Od.window (x.s.getD (x.s.length-1) 0) (wd:Int) (st:Int)).1).getD (x.s.length-1) 0=(Od.window (x.s.getD (x.s.length-1) 0) (wd:Int) (st:Int)).1:=by
  rw [gdZ,Zr oZ];rfl
 have e4:(Od.window (x.s.getD (x.s.length-1) 0) (wd:Int) (st:Int)).1=(n:Int):=by rw [←e5];exact e4
 rw [e2] at hw e4;unfold Od.window at hw e4
 by_cases hc:Sh.side (sd:Int)/\Sh.side (wd:Int)/\Sh.side (st:Int)/\(wd:Int)<=(sd:Int)
 case neg=>rw [inZ hc] at hw;simp at hw
 rw [ipZ hc] at e4;have e4:1+((sd:Int)-(wd:Int)).tdiv (st:Int)=(n:Int):=e4;rw [Int.tdiv_eq_ediv_of_nonneg oZ] at e4;have h6:=Int.lt_ediv_add_one_mul_self ((sd:Int)-(wd:Int)) (show (0:Int)<(st:Int) by omega);rw [show ((sd:Int)-(wd:Int)) / (st:Int)+1=(n:Int) by omega,←Int.natCast_mul] at h6;omega
theorem win_iff {sd n wd st:Nat} (hn:1<=n) (h1:(n-1)*st+wd<=sd) (h2:sd<n*st+wd) (k:Nat):k*st+wd<=sd↔k<n:=by
 constructor
 ·intro h
  rcases Nat.lt_or_ge k n with h3|h3
  ·exact h3
  ·have:=mlZ st h3
   omega
 ·intro h
  have:=mlZ st (show k<=n-1 by omega);omega
theorem right_long {t:Ten} (h:Tn.right t=true):1<=t.c.length/\t.c.length<=65536:=by
 obtain ⟨h1,h2⟩:=right_s h;have:=(Sh.right_mul h1).2.2.2.2;omega
theorem right_same {t u:Ten} (h:Tn.right t=true) (h2:Tn.right u=true) (hs:t.s=u.s):t.c.length=u.c.length:=by
 have e1:=(right_s h).2;have e2:=(right_s h2).2;rw [hs] at e1;omega
inductive Form:OpD->List Ten->List Ten->Ten->Prop
 | one {o:OpD} {t y:Ten} (h1:1<=o.kind) (h5:o.kind<=5) (hy:y.c=tab t.c.length λi=>cell o.kind o.k (at_ t.c i) (at_ t.c i))
   (hb:∀g,Tn.right g=true->g.s=y.s->g.c.length=t.c.length/\back o [] [t] g=(⟨[],[⟨t.s,tab t.c.length λi=>(slope o.kind o.k (at_ t.c i) (at_ t.c i) (at_ g.c i)).1⟩]⟩,0)):Form o [] [t] y
 | two {o:OpD} {t u y:Ten} (h6:6<=o.kind) (h7:o.kind<=7) (hl:u.c.length=t.c.length) (hy:y.c=tab t.c.length λi=>cell o.kind o.k (at_ t.c i) (at_ u.c i))
   (hb:∀g,Tn.right g=true->g.s=y.s->g.c.length=t.c.length/\back o [] [t,u] g=(⟨[],[⟨t.s,tab t.c.length λi=>(slope o.kind o.k (at_ t.c i) (at_ u.c i) (at_ g.c i)).1⟩,⟨u.s,tab t.c.length λi=>(slope o.kind o.k (at_ t.c i) (at_ u.c i) (at_ g.c i)).2⟩]⟩,0)):Form o [] [t,u] y
 | dense {o:OpD} {a b t y:Ten} (h8:o.kind=8) (hw:a.c.length=b.c.length*t.c.length) (hy:y.c=tab b.c.length λi=>Fx.add (Fx.dot (rowOf a.c t.c.length i) t.c) (at_ b.c i))
   (hb:∀g,Tn.right g=true->g.s=y.s->g.c.length=b.c.length/\back o [a,b] [t] g=(⟨[⟨a.s,denseW g.c t.c⟩,g],[⟨t.s,denseX a.c g.c t.c g.c.length⟩]⟩,0)):Form o [a,b] [t] y
 | bias {o:OpD} {b t y:Ten} (h9:o.kind=9) (hl:b.c.length=t.c.length) (hy:y.c=sumC t.c b.c) (hb:∀g,Tn.right g=true->g.s=y.s->back o [b] [t] g=(⟨[g],[g]⟩,0)):Form o [b] [t] y
 | pool {o:OpD} {t y:Ten} {top:Bool} {sd n wd st pre:Nat} (hk:o.kind=if top=true then 11 else 12) (hwd:o.width=wd) (hst:o.step=st) (w1:1<=wd) (w2:wd<=1024) (s1:1<=st) (s2:st<=1024) (d1:1<=sd) (n1:1<=n) (hn:∀k,k*st+wd<=sd↔k<n)
   (hl:t.c.length=pre*sd) (hsd:lastOf t.s=sd) (hy:y.c=(List.range pre).flatMap λr=>poolR2 top (rowOf t.c sd r) wd st n) (hyl:pre*n<=65536)
   (hb:∀g,Tn.right g=true->g.s=y.s->g.c.length=pre*n/\back o [] [t] g=(⟨[],[⟨t.s,(List.range pre).flatMap λr=>backRow top t.c g.c sd n wd st r⟩]⟩,0)):Form o [] [t] y
 | turn {o:OpD} {t y:Ten} (h15:o.kind=15) (hy:y.c=t.c) (hb:∀g,Tn.right g=true->g.s=y.s->back o [] [t] g=(⟨[],[⟨t.s,g.c⟩]⟩,0)):Form o [] [t] y
theorem qek {o:OpD} {t y:Ten} {top:Bool} (hk:o.kind=if top=true then 11 else 12) (ht:Tn.right t=true) (hc:Od.counts o 0 1=0) (hy:pool top t o.width o.step=(y,0)):Form o [] [t] y:=by
 by_cases he:poolErr t o.width o.step=0
 case neg=>rw [pool_err he] at hy;exact absurd (congrArg Prod.snd hy) he
 have ho:=qgU he;have hi:=λg (hg:Tn.right g=true) (hs:g.s=poolS t o.width o.step)=>pback_ok (top:=top) he (show (Tn.right g&&decide (g.s=poolS t o.width o.step))=true by rw [hg,hs];simp)
 rw [pool_ok he] at hy;have hy:_=y:=congrArg Prod.fst hy;obtain ⟨sd,n,wd,st,pre,e1,-,e3,-,e5,e6,h1,h2,h3,h4,h5,h6,h7,-,-,-,h8,h9,hd,hl,hn,hf,-,hh⟩:=pool_facts he;rw [e1,e3,e5,e6,tnZ,tnZ] at ho;rw [e1,e3,h7] at hy;have ha:=win_iff h4 h5 ho;have hm:pre*n=y.c.length:=by rw [←hy];exact (tab_len _ _).symm
 subst hy;refine Form.pool (top:=top) (sd:=sd) (n:=n) (wd:=wd) (st:=st) (pre:=pre) hk e5 e6 h1 oZ h3 hf oZ h4 ha h6 e1 ?_ hd λg hg hs=>?_
 ·show (tab (pre*n) λi=>poolCell top (win t.c sd n o.width.toNat o.step.toNat i) o.width)=_
  rw [e5,e6,tnZ,tnZ];exact qgR top t.c sd n wd st pre λj hj=>(ha j).2 hj
 ·have hs:g.s=poolS t o.width o.step:=hs
  have hb:g.c.length=pre*n:=by
   have q:=(right_s hg).2;rw [hs,hh] at q;exact Int.ofNat.inj q
  refine ⟨hb,?_⟩
  have e:back o [] [t] g=bsingle (poolBack top t g o.width o.step):=by
   rw [back_lay hc];unfold layBack;cases top
   ·have hk:o.kind=12:=hk
    rw [inZ oZ,inZ oZ,inZ oZ,inZ oZ,ipZ hk];rfl
   ·have hk:o.kind=11:=hk
    rw [inZ oZ,inZ oZ,inZ oZ,ipZ hk];rfl
  rw [e,hi g hg hs,e1,e3];unfold bsingle;rw [ipZ rfl,hb];have hr:=(qdc (top:=top) (g:=g.c) h6 h1 (λj hj=>(ha j).2 hj) pre (lrZ _)).1;rw [Nat.sub_self,Nat.zero_mul,show zeros 0=[] from rfl,List.append_nil] at hr;rw [e5,e6,tnZ,hr]
theorem form_of {o:OpD} {p x:List Ten} {y:Ten} (hkn:o.kind≠10/\o.kind≠13/\o.kind≠14) (hc:Od.counts o p.length x.length=0) (hp:∀t∈p,Tn.right t=true) (hx:∀t∈x,Tn.right t=true) (hy:lay o p x=(y,0)):Form o p x y:=by
 obtain ⟨hr,h1,h2,h3⟩:=counts_ok hc;have hk:=Od.right_kind hr;have hl:=Od.least_pos hr;unfold Od.least Od.most at *;unfold Od.params at h3;rw [ipZ hr] at h1 h2 h3;have hh:o.kind<=7∨o.kind=8∨o.kind=9∨o.kind=11∨o.kind=12∨o.kind=15:=by omega
 rcases hh with hb|hb|hb|hb|hb|hb
 ·have e:lay o p x=point o.kind o.k x:=by unfold lay;rw [inZ oZ,inZ oZ,inZ oZ,inZ oZ,inZ oZ,inZ oZ,inZ oZ,inZ oZ]
  obtain rfl:=qaq (l:=p) (by rw [inZ oZ,inZ oZ] at h3;omega);rw [e] at hy
  by_cases ha:ptAgree o.kind x=0
  case neg=>unfold point at hy;rw [inZ ha] at hy;exact absurd (congrArg Prod.snd hy) ha
  obtain ⟨hn,hf⟩:=qd9 ha;unfold point at hy;rw [ipZ ha] at hy;have hy:_=y:=congrArg Prod.fst hy
  have hm:∀g,Tn.right g=true->g.s=(got x 0).s->back o [] x g=bseveral (if x.length<2 then [⟨(got x 0).s,tab (got x 0).c.length λi=>(slopes o.kind o.k x g i).1⟩] else [⟨(got x 0).s,tab (got x 0).c.length λi=>(slopes o.kind o.k x g i).1⟩,⟨(got x 1).s,tab (got x 0).c.length λi=>(slopes o.kind o.k x g i).2⟩],0):=λg hg hs=>by
   rw [back_lay hc,layBack7 hb];unfold pointBack;rw [ipZ ha,ipZ (by rw [hg,hs];simp)]
  subst hy
  by_cases h5:o.kind<=5
  ·have hi:Od.ptIns o.kind=1:=by unfold Od.ptIns;repeat' split<;>omega
   obtain ⟨t,rfl⟩:=qai (l:=x) oZ;refine Form.one hk.1 h5 ?_ λg hg hs=>⟨right_same hg (hx t sZ) hs,?_⟩
   ·exact qcG λi hi=>cell_y _ _ h5
   ·rw [hm g hg hs]
    unfold bseveral;rw [ipZ rfl,ipZ sZ]
    have e1:(tab t.c.length λi=>(slopes o.kind o.k [t] g i).1)=tab t.c.length λi=>(slope o.kind o.k (at_ t.c i) (at_ t.c i) (at_ g.c i)).1:=qcG λi hi=>by
     show (slope o.kind o.k (at_ t.c i) (second [t] i) (at_ g.c i)).1=_
     rw [slope_y _ (at_ t.c i) h5]
    rw [←e1]
    rfl
  ·have hi:Od.ptIns o.kind=2:=by unfold Od.ptIns;repeat' split<;>omega
   obtain ⟨t,u,rfl⟩:=qe3 (l:=x) oZ;have ht:=right_same (hf u sZ).1 (hf t sZ).1 (hf u sZ).2;refine Form.two oZ hb ht rfl λg hg hs=>⟨right_same hg (hx t sZ) hs,?_⟩
   rw [hm g hg hs]
   rfl
 ·obtain ⟨a,b,rfl⟩:=qe3 (l:=p) (by simp [hb] at h3;omega)
  obtain ⟨t,rfl⟩:=qai (l:=x) (by simp [hb] at h1 h2;omega);have e:lay o [a,b] [t]=dense a b t:=by unfold lay;rw [ipZ hb];rfl
  rw [e] at hy
  by_cases hd:denseOk a b t=true
  case neg=>unfold dense at hy;rw [inZ hd] at hy;simp at hy
  unfold dense at hy;rw [ipZ hd] at hy;have hy:_=y:=congrArg Prod.fst hy;have hq:=hd;simp only [denseOk,Zz,decide_eq_true_eq] at hd;obtain ⟨⟨⟨⟨⟨ra,la⟩,rb⟩,rt⟩,sb⟩,st⟩:=hd;subst hy;refine Form.dense hb ?_ rfl λg hg hs=>⟨right_same hg rb hs,?_⟩
  ·have q1:=(right_s ra).2
   have q2:=(right_s rb).2;rw [sb] at q2
   match hw:a.s,la with
   | [u,v],_=>
    rw [hw] at q1 q2 st;simp only [at_,List.getD_cons_zero,List.getD_cons_succ] at q2 st;have e3:Safe.prod [u,v]=u*v:=by simp [Safe.prod]
    have e4:Safe.prod [u]=u:=by simp [Safe.prod]
    rw [e3] at q1;rw [e4] at q2;have:((b.c.length*t.c.length:Nat):Int)=a.c.length:=by rw [Int.natCast_mul,q2,st,q1]
    exact (Int.ofNat.inj this).symm
  ·have hs:g.s=b.s:=hs
   rw [back_lay hc,layBack8 hb];have e0:denseBack (got [a,b] 0) (got [a,b] 1) (got [t] 0) g=denseBack a b t g:=rfl;rw [e0,dback_ok (w:=a) (b:=b) (x:=t) (g:=g) (by rw [hq,hg,hs];simp),ipZ rfl]
 ·obtain ⟨b,rfl⟩:=qai (l:=p) (by simp [hb] at h3;omega)
  obtain ⟨t,rfl⟩:=qai (l:=x) (by simp [hb] at h1 h2;omega);have e:lay o [b] [t]=add t b:=by unfold lay;rw [inZ oZ,ipZ hb];rfl
  rw [e] at hy
  by_cases ha:alike t b=true
  case neg=>unfold add at hy;rw [inZ ha] at hy;simp at hy
  have he:(add t b).2=0:=by rw [hy]
  unfold add at hy;rw [ipZ ha] at hy;have hy:_=y:=congrArg Prod.fst hy;have hu:=ha;simp only [alike,Zz,decide_eq_true_eq] at ha;subst hy;refine Form.bias hb (right_same ha.1.2 ha.1.1 ha.2.symm) rfl λg hg hs=>?_
  rw [back_lay hc,layBack9 hb]
  show bbias b t g=_
  unfold bbias;rw [ipZ he,ipZ (by rw [hg,show (add t b).1.s=t.s by unfold add;rw [ipZ hu],hs];simp)]
 ·obtain rfl:=qaq (l:=p) (by rw [inZ oZ,inZ oZ] at h3;omega)
  obtain ⟨t,rfl⟩:=qai (l:=x) (by simp [hb] at h1 h2;omega);have e:lay o [] [t]=pool true t o.width o.step:=by unfold lay;rw [inZ oZ,inZ oZ,inZ oZ,ipZ hb];rfl
  rw [e] at hy;exact qek (top:=true) hb (hx t sZ) hc hy
 ·obtain rfl:=qaq (l:=p) (by rw [inZ oZ,inZ oZ] at h3;omega)
  obtain ⟨t,rfl⟩:=qai (l:=x) (by simp [hb] at h1 h2;omega);have e:lay o [] [t]=pool false t o.width o.step:=by unfold lay;rw [inZ oZ,inZ oZ,inZ oZ,inZ oZ,ipZ hb];rfl
  rw [e] at hy;exact qek (top:=false) hb (hx t sZ) hc hy
 ·obtain rfl:=qaq (l:=p) (by rw [inZ oZ,inZ oZ] at h3;omega)
  obtain ⟨t,rfl⟩:=qai (l:=x) (by simp [hb] at h1 h2;omega);have e:lay o [] [t]=turn t o.s:=by unfold lay;rw [inZ oZ,inZ oZ,inZ oZ,inZ oZ,inZ oZ,inZ oZ,inZ oZ,ipZ hb];rfl
  rw [e] at hy;have rt:=hx t sZ;have he:(turn t o.s).2=0:=by rw [hy]
  have hj:Tn.right ⟨o.s,t.c⟩=true:=by
   unfold turn of_ at he;rw [ipZ rt] at he
   split at he
   ·assumption
   ·simp at he
  unfold turn of_ at hy;rw [ipZ rt,ipZ hj] at hy;have hy:_=y:=congrArg Prod.fst hy;subst hy;refine Form.turn hb rfl λg hg hs=>?_
  have hs:g.s=o.s:=hs
  have ho:Tn.right ⟨t.s,g.c⟩=true:=by
   refine right_like rt ?_;have e1:=(right_s hg).2;have e2:(t.c.length:Int)=Safe.prod o.s:=(right_s hj).2;rw [hs] at e1;omega
  rw [back_lay hc,layBack15 hb]
  show bturn t g o.s=_
  unfold bturn;rw [ipZ he,ipZ (by rw [hg,hs];simp)]
  have e2:turnBack t g=(⟨t.s,g.c⟩,0):=by
   unfold turnBack of_;rw [ipZ (by rw [rt,hg];rfl),ipZ ho]
  rw [e2]
  rfl
theorem Form.in_ {o:OpD} {p x:List Ten} {y:Ten} (h:Form o p x y) (hx:∀t∈x,In t):In y:=by
 intro z hz;cases h with
 | one h1 h5 hy hb=>rw [hy] at hz;exact tab_in (λi _=>cell_in (at_in (hx _ sZ) i)) z hz
 | two h6 h7 hl hy hb=>rw [hy] at hz;exact tab_in (λi _=>cell_in (at_in (hx _ sZ) i)) z hz
 | dense h8 hw hy hb=>rw [hy] at hz;exact tab_in (λi _=>Fx.add_in _ _) z hz
 | bias h9 hl hy hb=>rw [hy] at hz;exact tab_in (λi _=>Fx.add_in _ _) z hz
 | pool hk hwd hst w1 w2 s1 s2 d1 n1 hn hl hsd hy hyl hb=>
  rw [hy] at hz;obtain ⟨r,-,hz⟩:=List.mem_flatMap.1 hz;exact tab_in (λi _=>poolCell_in (wrow_in (row_in (hx _ sZ)))) z hz
 | turn h15 hy hb=>rw [hy] at hz;exact hx _ sZ z hz
theorem Form.back_in {o:OpD} {p x:List Ten} {y g:Ten} (h:Form o p x y) (hg:Tn.right g=true) (hs:g.s=y.s) (ig:In g):(∀t∈(back o p x g).1.p,In t)/\∀t∈(back o p x g).1.x,In t:=by
 cases h with
 | one h1 h5 hy hb=>
  rw [(hb g hg hs).2];refine ⟨by simp,λt ht=>?_⟩;simp at ht;subst ht;exact tab_in λi _=>(slope_in (at_in ig i)).1
 | two h6 h7 hl hy hb=>
  rw [(hb g hg hs).2];refine ⟨by simp,λt ht=>?_⟩;simp at ht;rcases ht with rfl|rfl
  ·exact tab_in λi _=>(slope_in (at_in ig i)).1
  ·exact tab_in λi _=>(slope_in (at_in ig i)).2
 | dense h8 hw hy hb=>
  rw [(hb g hg hs).2];refine ⟨λt ht=>?_,λt ht=>?_⟩
  ·simp at ht
   rcases ht with rfl|rfl
   ·exact denseW_in _ _
   ·exact ig
  ·simp at ht;subst ht
   exact denseX_in _ _ _ _
 | bias h9 hl hy hb=>
  rw [hb g hg hs];exact ⟨λt ht=>by simp at ht;subst ht;exact ig,λt ht=>by simp at ht;subst ht;exact ig⟩
 | pool hk hwd hst w1 w2 s1 s2 d1 n1 hn hl hsd hy hyl hb=>
  rw [(hb g hg hs).2];refine ⟨by simp,λt ht z hz=>?_⟩;simp at ht;subst ht;obtain ⟨r,-,hz⟩:=List.mem_flatMap.1 hz;exact (poolX_facts (row_in ig) _ _ _ _ _).2 z hz
 | turn h15 hy hb=>
  rw [hb g hg hs];exact ⟨by simp,λt ht=>by simp at ht;subst ht;exact ig⟩
end Ly
def NodeD.knownK (v:NodeD):Bool:=!(v.op.kind==10 || v.op.kind==13 || v.op.kind==14)
def Nt.known (ns:List NodeD):Bool:=ns.all NodeD.knownK
theorem Nt.known_take {ns:List NodeD} {k:Nat} (h:Nt.known (ns.take k)=true) (hk:k<ns.length):Nt.known (ns.take (k+1))=ns[k].knownK:=by
 unfold Nt.known at *;rw [Zb hk,List.all_append,h];simp
theorem Nt.known_false {ns:List NodeD} {k:Nat} (h:Nt.known (ns.take k)=false):Nt.known ns=false:=by
 unfold Nt.known at *;rw [←Zn k ns,List.all_append,h,Bool.false_and]
theorem qgV (A N:Option Addr) (c d:Nat) (n:NetD) (w:Zp1) (hl:n.nodes.length<=1048576) (hR:NetR w A N n):
  Calls Tryz.prog 6 #[.agg #[sQ A n.inn.length c,sQ N n.nodes.length d]] w λe w'=>e=.returned (.bool (Nt.known n.nodes))/\Below w.heap.size w w':=by
 have hi:=Blk.new w 39 #[sQ A n.inn.length c,sQ N n.nodes.length d];have hh:Later w (w.alloc (.cells #[sQ A n.inn.length c,sQ N n.nodes.length d] 39)):=(Later.refl w).alloc _;obtain ⟨HR,hd,hn⟩:=zd3 hR hh hi;clear hR hh hi;go_enter Tryz.func6,Tryz.ntmps6;go_wp2_with fail;generalize w.alloc (.cells #[sQ A n.inn.length c,sQ N n.nodes.length d] 39)=w1 at *
 go_loopw [3] (λi wx=>∃k:Nat,k<=n.nodes.length/\i=nQ iQ (k:Int)/\Nt.known (n.nodes.take k)=true/\Later w1 wx) (λi _=>n.nodes.length-(intOf i).toNat)
 case atStart=>exact ⟨0,Zt _,rfl,rfl,Later.refl _⟩
 case round=>
  obtain ⟨k,hk,rfl,hc,ha⟩:=hrel;have x1:wr.cell? ⟨w.heap.size,1,none⟩=some (sQ N n.nodes.length d):=by rw [(ha.blk hn.out).cell];rfl
  by_cases hj:k<n.nodes.length
  ·obtain ⟨b1,off1,S,sc,I,ic,Q,qc,rfl,-,y0,-⟩:=(HR.out.below (hd.out.trans ha) (lrZ _)).2 k hj
   have hs:=Nt.known_take hc hj;unfold NodeD.knownK at hs;generalize n.nodes[k].op.kind=kd at *;have k0:(0:Int)<=(k:Int):=by omega
   have k1:(k:Int)<(n.nodes.length:Int):=by omega
   by_cases hg:kd=10
   ·have HF:=zI (Nt.known_false (k:=k+1) (by rw [hs,hg];rfl))
    subst hg;have hb:=zI ha;clear ha;clear hs hc;go_wp2_with fail;go_ret;exact ⟨by rw [HF.out];rfl,hd.out.trans hb.out⟩
   ·by_cases he:kd=13
    ·have HF:=zI (Nt.known_false (k:=k+1) (by rw [hs,he];rfl))
     subst he;have hb:=zI ha;clear ha;clear hs hc;go_wp2_with fail;go_ret;exact ⟨by rw [HF.out];rfl,hd.out.trans hb.out⟩
    ·by_cases hf:kd=14
     ·have HF:=zI (Nt.known_false (k:=k+1) (by rw [hs,hf];rfl))
      subst hf;have hb:=zI ha;clear ha;clear hs hc;go_wp2_with fail;go_ret;exact ⟨by rw [HF.out];rfl,hd.out.trans hb.out⟩
     ·have e1:(kd==10)=false:=by simpa using hg
      have e2:(kd==13)=false:=by simpa using he
      have e3:(kd==14)=false:=by simpa using hf
      rw [e1,e2,e3] at hs;obtain ⟨hb,Hs⟩:=zd2 ha hs;clear ha hs;clear hc hg he hf;go_wp2_with fail;go_roundw
      case rel=>exact ⟨k+1,by omega,by go_num,by rw [Hs.out];rfl,hb.out⟩
      case measure=>simp [intOf];omega
  ·obtain rfl:k=n.nodes.length:=by omega
   rw [Zg] at hc;obtain ⟨hm,hb⟩:=zd2 hc ha;clear hc ha;go_wp2_with fail;go_ret;exact ⟨by rw [hm.out];rfl,hd.out.trans hb.out⟩
def NewRs (zs:List (List Int)) (w:Zp1) (e:Ending) (w':Zp1):Prop:=∃A c,e=.returned (sQ A zs.length c)/\Shps w' A zs/\zs.length<=c/\c<=9223372036854775807/\Later w w'
theorem qcI:(Tryz.prog.info? 48).map (λi=>(i.zero,i.size,i.bytes))=some (some (sQ none 0 0),1,24):=by kernel_rfl
theorem qf8 (L I:Option Addr) (c d:Nat) (ls:List (List Int)) (ids:List Int) (w:Zp1) (hil:ids.length<=65536) (hid:∀i∈ids,0<=i/\i<(ls.length:Int)) (hL:Shps w L ls) (hI:Ints iQ w I ids):
  Calls Tryz.prog 28 #[sQ L ls.length c,sQ I ids.length d] w (NewRs (Nt.pick ls ids) w):=by
 obtain ⟨i1,hj,hD,hx,hw⟩:=info_parts qcI;obtain ⟨hB,HL,HI⟩:=zd3 hid hL hI;clear hid hL hI;go_enter Tryz.func28,Tryz.ntmps28;go_wp2_with fail
 go_loopw [5,6] (λo j wx=>∃(k:Nat) (vs:List Value),k<=ids.length/\j=nQ iQ (k:Int)/\wx.ownsRow w.heap.size 48 1 o k vs/\RowOf w vs (Nt.pick ls (ids.take k))/\Later w wx) (λ_ j _=>ids.length-(intOf j).toNat)
 case atStart=>exact ⟨0,[],Zt _,rfl,World.ownsRow_nil _ _ _ _,RowOf.nil _,Later.refl _⟩
 case round=>
  obtain ⟨k,vs,hk,rfl,hown,ha,hf⟩:=hrel;obtain ⟨Ao,co,rfl⟩:=qa8 hown
  by_cases hi:k<ids.length
  ·have hv:=hB.out _ (gmZ hi)
   have hm:=qdV ls ids hi;obtain ⟨bi,oi,rfl,hA⟩:=(HI.out.below hf (lrZ _)).spot_ hi;rw [Ly.at_get hi] at hA;generalize ids[k]=q at *;obtain ⟨b,off,S,sc,rfl,-,hp,hS,s1,s2⟩:=HL.out q.toNat oZ;have hr:ls.getD q.toNat []=ls[q.toNat]'oZ:=by rw [gdZ,geZ oZ];rfl
   rw [hr] at hm;have hc:=ha.push hS s1 s2;rw [←hm] at hc;have hG:=hf.cell hp;generalize ls[q.toNat]'oZ=z at *;have j1:(k:Int)<(ids.length:Int):=by omega
   have j2:(0:Int)<=(k:Int):=by omega
   obtain ⟨q0,q1⟩:=hv;have ho:=qa6 hown (.cells #[sQ S z.length sc] 48);have he:=hf.alloc (.cells #[sQ S z.length sc] 48);have hE:=he.size;rw [Zh1] at hE;have hs:=zI (λb (hb:(Zb1 Ao k co).ownBlock=some b)=>(hown.lt b hb).1);obtain ⟨hn,hl,hh⟩:=zd3 hown ha hc;clear hown ha hc;clear hS s1 s2 hm hr hp;go_wp2_with (at_builtin;refine wpList_append_own_at _ rfl _ _ 47 rfl w.heap.size 48 i1 (sQ none 0 0) 1 24 Tryz.underlying47 hj hD hx hw rfl dZ _ _ _ rfl ho ⟨wr.heap.size,0,none⟩ 1 1 [sQ S z.length sc] rfl rfl ?c1 (by intro u hu;simp at hu;subst hu;rfl) (by unfold maxLen;omega) oZ ?c2 ?_)
   first|(case c1=>exact qap wr _ _)|skip
   first|(case c2=>simp;omega)|skip
   intro v' w4 hd hgrow _ hy;have hq:Later w w4:=Below.grown he hgrow soZ (λb hb=>hs.out b hb);have hg:=zI hd;have hz:=zI hq;clear hd hq;clear hgrow hy ho he hs;go_wp2_with fail;go_roundw
   case rel=>exact ⟨k+1,_,by omega,by go_num,hg.out,hh.out,hz.out⟩
   case measure=>simp [intOf];omega
  ·obtain rfl:k=ids.length:=by omega
   rw [Zg] at ha;obtain ⟨A',c',e1,e2,e3,e4,e5⟩:=ha.shps hown hf;injection e1 with e1 e6 e7
   subst e1 e7;rw [e6];obtain ⟨hn,hl,ht,hF,hH,hC⟩:=zd6 hown ha e3 e6 e2 hf;clear hown ha e3 e6 e2 hf;go_wp2_with fail;go_ret;exact ⟨Ao,co,rfl,ht.out,e4,e5,hC.out⟩
theorem qbv (x y:Int) (w:Zp1) (hx:Fx.In x) (hy:Fx.In y):Calls Tryz.prog 104 #[nQ iQ x,nQ iQ y] w λe w'=>e=.returned (nQ iQ (Fx.mul x y))/\Below w.heap.size w w':=by
 go_enter Tryz.func104,Tryz.ntmps104;go_wp2_with fail;refine (qf7 x y w hx hy).mono ?_;rintro e w1 ⟨rfl,h1⟩;go_wp2_with fail;go_ret;exact ⟨rfl,h1⟩
theorem Ly.cell_eq {kind k x y v:Int} (h:Ly.cell kind k x y=v):RowKit.Hid (v=Ly.cell kind k x y):=zI h.symm
theorem r5_cell (kind k x y:Int) (w:Zp1) (hk:1<=kind/\kind<=7) (ik:Fx.In k) (ix:Fx.In x) (iy:Fx.In y):Calls Tryz.prog 56 #[nQ iQ kind,nQ iQ k,nQ iQ x,nQ iQ y] w λe w'=>e=.returned (nQ iQ (Ly.cell kind k x y))/\Below w.heap.size w w':=by
 obtain ⟨HK,HX,HY⟩:=zd3 ik ix iy;clear ik ix iy;have h7:kind=1∨kind=2∨kind=3∨kind=4∨kind=5∨kind=6∨kind=7:=by omega
 clear hk;rcases h7 with rfl|rfl|rfl|rfl|rfl|rfl|rfl
 ·by_cases h0:0<x
  ·have E:=Ly.cell_eq (show Ly.cell 1 k x y=x by unfold Ly.cell;rw [ipZ rfl,inZ oZ])
   go_enter Tryz.func56,Tryz.ntmps56;go_wp2_with fail;go_ret;exact ⟨qa3 E.out,Ze1 _ _⟩
  ·have E:=Ly.cell_eq (show Ly.cell 1 k x y=0 by unfold Ly.cell;rw [ipZ rfl];split<;>omega)
   go_enter Tryz.func56,Tryz.ntmps56;go_wp2_with fail;go_ret;exact ⟨qa3 E.out,Ze1 _ _⟩
 ·by_cases h0:0<x
  ·have E:=Ly.cell_eq (show Ly.cell 2 k x y=x by unfold Ly.cell;rw [inZ oZ,ipZ rfl,ipZ h0])
   go_enter Tryz.func56,Tryz.ntmps56;go_wp2_with fail;go_ret;exact ⟨qa3 E.out,Ze1 _ _⟩
  ·have E:=Ly.cell_eq (show Ly.cell 2 k x y=Fx.mul x k by unfold Ly.cell;rw [inZ oZ,ipZ rfl,inZ h0])
   go_enter Tryz.func56,Tryz.ntmps56;go_wp2_with fail;refine (qbv x k w HX.out HK.out).mono ?_;rintro e w1 ⟨rfl,h1⟩;have H1:=zI h1;clear h1;go_wp2_with fail;go_ret;exact ⟨qa3 E.out,H1.out⟩
 ·by_cases h1:4294967296<x
  ·have E:=Ly.cell_eq (show Ly.cell 3 k x y=4294967296 by unfold Ly.cell Fx.held;rw [inZ oZ,inZ oZ,ipZ rfl,ipZ h1])
   go_enter Tryz.func56,Tryz.ntmps56;go_wp2_with fail;go_ret;exact ⟨qa3 E.out,Ze1 _ _⟩
  ·by_cases h2:x < -4294967296
   ·have E:=Ly.cell_eq (show Ly.cell 3 k x y = -4294967296 by unfold Ly.cell Fx.held;rw [inZ oZ,inZ oZ,ipZ rfl,inZ h1,ipZ h2])
    go_enter Tryz.func56,Tryz.ntmps56;go_wp2_with fail;go_ret;exact ⟨qa3 E.out,Ze1 _ _⟩
   ·have E:=Ly.cell_eq (show Ly.cell 3 k x y=x by unfold Ly.cell Fx.held;rw [inZ oZ,inZ oZ,ipZ rfl,inZ h1,inZ h2])
    go_enter Tryz.func56,Tryz.ntmps56;go_wp2_with fail;go_ret;exact ⟨qa3 E.out,Ze1 _ _⟩
 ·have HF:=zI (show Ly.cell 4 k x y=Fx.held (Fx.add (Fx.mul x 1073741824) 2147483648) 0 4294967296 by unfold Ly.cell Ly.line;rw [inZ oZ,inZ oZ,inZ oZ,ipZ rfl])
  have HM:=zI (Fx.mul_in x 1073741824);go_enter Tryz.func56,Tryz.ntmps56;go_wp2_with fail;refine (qbv x 1073741824 w HX.out (by unfold Fx.In;omega)).mono ?_;rintro e w1 ⟨rfl,h1⟩;have H1:=zI h1;clear h1;generalize Fx.mul x 1073741824=m at *;go_wp2_with fail;refine (qbu m 2147483648 w1 HM.out (by unfold Fx.In;omega)).mono ?_;rintro e w2 ⟨rfl,rfl⟩;generalize Fx.add m 2147483648=v at *
  by_cases h1:4294967296<v
  ·have E:=Ly.cell_eq (show Ly.cell 4 k x y=4294967296 by rw [HF.out];unfold Fx.held;rw [ipZ h1])
   clear HF;go_wp2_with fail;go_ret;exact ⟨qa3 E.out,H1.out⟩
  ·by_cases h2:v<0
   ·have E:=Ly.cell_eq (show Ly.cell 4 k x y=0 by rw [HF.out];unfold Fx.held;rw [inZ h1,ipZ h2])
    clear HF;go_wp2_with fail;go_ret;exact ⟨qa3 E.out,H1.out⟩
   ·have E:=Ly.cell_eq (show Ly.cell 4 k x y=v by rw [HF.out];unfold Fx.held;rw [inZ h1,inZ h2])
    clear HF;go_wp2_with fail;go_ret;exact ⟨qa3 E.out,H1.out⟩
 ·have E:=Ly.cell_eq (show Ly.cell 5 k x y=Fx.mul x k from rfl)
  go_enter Tryz.func56,Tryz.ntmps56;go_wp2_with fail;refine (qbv x k w HX.out HK.out).mono ?_;rintro e w1 ⟨rfl,h1⟩;have H1:=zI h1;clear h1;go_wp2_with fail;go_ret;exact ⟨qa3 E.out,H1.out⟩
 ·have E:=Ly.cell_eq (show Ly.cell 6 k x y=Fx.add x y from rfl)
  go_enter Tryz.func56,Tryz.ntmps56;go_wp2_with fail;refine (qbu x y w HX.out HY.out).mono ?_;rintro e w1 ⟨rfl,rfl⟩;go_wp2_with fail;go_ret;exact ⟨qa3 E.out,Ze1 _ _⟩
 ·have E:=Ly.cell_eq (show Ly.cell 7 k x y=Fx.mul x y from rfl)
  go_enter Tryz.func56,Tryz.ntmps56;go_wp2_with fail;refine (qbv x y w HX.out HY.out).mono ?_;rintro e w1 ⟨rfl,h1⟩;have H1:=zI h1;clear h1;go_wp2_with fail;go_ret;exact ⟨qa3 E.out,H1.out⟩
theorem qb6 (w:Zp1) (v:NodeD) (S J Q:Option Addr) (sc ic qc:Nat):∃w1,w.alloc (.cells #[nQ iQ v.op.kind,nQ iQ v.op.k,nQ iQ v.op.width,nQ iQ v.op.step,nQ iQ v.op.side,nQ iQ v.op.frm,nQ iQ v.op.to,sQ S v.op.s.length sc,sQ J v.ins.length ic,sQ Q v.p.length qc] 67)=w1/\Later w w1/\
  w1.cell? ⟨w.heap.size,0,none⟩=some (nQ iQ v.op.kind)/\w1.cell? ⟨w.heap.size,1,none⟩=some (nQ iQ v.op.k)/\w1.cell? ⟨w.heap.size,2,none⟩=some (nQ iQ v.op.width)/\w1.cell? ⟨w.heap.size,3,none⟩=some (nQ iQ v.op.step)/\w1.cell? ⟨w.heap.size,4,none⟩=some (nQ iQ v.op.side)/\w1.cell? ⟨w.heap.size,5,none⟩=some (nQ iQ v.op.frm)/\w1.cell? ⟨w.heap.size,6,none⟩=some (nQ iQ v.op.to)/\w1.cell? ⟨w.heap.size,7,none⟩=some (sQ S v.op.s.length sc)/\w1.cell? ⟨w.heap.size,8,none⟩=some (sQ J v.ins.length ic)/\w1.cell? ⟨w.heap.size,9,none⟩=some (sQ Q v.p.length qc):=
 ⟨_,rfl,(Later.refl w).alloc _,qbb (Blk.new w _ _)⟩
theorem qgW (v:NodeD) (S J Q P I:Option Addr) (sc ic qc pc xc:Nat) (ps is:List (List Int)) (sd:Int) (w:Zp1) (hk:v.op.kind=9) (hP:Shps w P ps) (hI:Shps w I is) (hp:0<ps.length) (hi:0<is.length)
  (hl:is[0].length<=65536) (hpl:ps[0].length=is[0].length) (i1:∀z∈is[0],Fx.In z) (i2:∀z∈ps[0],Fx.In z):
  Calls Tryz.prog 27 #[.agg #[nQ iQ v.op.kind,nQ iQ v.op.k,nQ iQ v.op.width,nQ iQ v.op.step,nQ iQ v.op.side,nQ iQ v.op.frm,nQ iQ v.op.to,sQ S v.op.s.length sc,sQ J v.ins.length ic,sQ Q v.p.length qc],sQ P ps.length pc,sQ I is.length xc,nQ iQ sd] w (NewR (Ly.sumC is[0] ps[0]) w):=by
 obtain ⟨w1,hm,ha,y0,y1,y2,y3,y4,y5,y6,y7,y8,y9⟩:=qb6 w v S J Q sc ic qc;obtain ⟨b1,o1,A1,c1,rfl,-,g1,h1,-⟩:=(hI.below ha (lrZ _)) 0 hi;obtain ⟨b2,o2,A2,c2,rfl,-,g2,h2,-⟩:=(hP.below ha (lrZ _)) 0 hp;rw [Zx] at g1 g2;have q1:(0:Int)<(is.length:Int):=by omega
 have q2:(0:Int)<(ps.length:Int):=by omega
 generalize is[0]=x at *;generalize ps[0]=p at *;have hc:=λ(V:Zp1) (hV:Later w1 V)=>qgT A1 A2 c1 c2 x p V hl hpl (h1.below hV (lrZ _)) (h2.below hV (lrZ _)) i1 i2
 rw [hk] at y0;clear hk;obtain ⟨Hc,hg,hn⟩:=zd3 hc ha hpl;clear hc ha hpl;clear hP hI h1 h2 i1 i2;go_enter Tryz.func27,Tryz.ntmps27;go_upto_region 1 with fail;clear hm;go_wp2_with fail
 go_region_held3 (λW=>W.cell? ⟨b1,o1,none⟩=some (sQ A1 x.length c1)/\W.cell? ⟨b2,o2,none⟩=some (sQ A2 p.length c2)) (first|(with_reducible exact ⟨g1,g2⟩)|exact ⟨Later.cell (Lau:Later w1 _) g1,Later.cell (Lau:Later w1 _) g2⟩)
  (first
   | (go_at_call 30;(with_reducible refine (Hc.out _ (Lau:Later w1 _)).mono ?_);rintro e wa ⟨A,ca,rfl,hR,r1,r2,hd,-⟩;have he:Below _ _ wa:=hd))
 have hb:=hg.out.trans (Lau:Later w1 wa);obtain ⟨HR,hj,hh,hf⟩:=zd4 hR r1 r2 hb;clear hR r1 r2 hb;clear hd he g1 g2;go_wp2_with fail;go_ret;exact ⟨A,ca,rfl,HR.out,hj.out,hh.out,hf.out⟩
theorem qfJ (v:NodeD) (S J Q P I:Option Addr) (sc ic qc pc xc:Nat) (ps is:List (List Int)) (sd:Int) (w:Zp1) (hk:v.op.kind=15) (hI:Shps w I is) (hi:0<is.length):
  Calls Tryz.prog 27 #[.agg #[nQ iQ v.op.kind,nQ iQ v.op.k,nQ iQ v.op.width,nQ iQ v.op.step,nQ iQ v.op.side,nQ iQ v.op.frm,nQ iQ v.op.to,sQ S v.op.s.length sc,sQ J v.ins.length ic,sQ Q v.p.length qc],sQ P ps.length pc,sQ I is.length xc,nQ iQ sd] w (NewR is[0] w):=by
 obtain ⟨w1,hd,ha,y0,y1,y2,y3,y4,y5,y6,y7,y8,y9⟩:=qb6 w v S J Q sc ic qc;obtain ⟨b1,o1,A1,c1,rfl,-,g1,h1,r1,r2⟩:=(hI.below ha (lrZ _)) 0 hi;rw [Zx] at g1;have q1:(0:Int)<(is.length:Int):=by omega
 generalize is[0]=x at *;rw [hk] at y0;clear hk;obtain ⟨he,H1,hc,hb⟩:=zd4 ha h1 r1 r2;clear ha h1 r1 r2;clear hI;go_enter Tryz.func27,Tryz.ntmps27;go_upto_region 1 with fail;clear hd;go_wp2_with fail;go_ret;exact ⟨A1,c1,rfl,H1.out,hc.out,hb.out,he.out⟩
theorem qgX (v:NodeD) (S J Q P I:Option Addr) (sc ic qc pc xc:Nat) (ps is:List (List Int)) (sd:Int) (w:Zp1) (hk:v.op.kind=8) (hP:Shps w P ps) (hI:Shps w I is) (hp:1<ps.length) (hi:0<is.length)
  (hw:ps[0].length=ps[1].length*is[0].length) (hwl:ps[0].length<=65536) (hml:ps[1].length<=65536) (hxl:is[0].length<=65536) (i1:∀z∈is[0],Fx.In z) (i2:∀z∈ps[0],Fx.In z) (i3:∀z∈ps[1],Fx.In z):
  Calls Tryz.prog 27 #[.agg #[nQ iQ v.op.kind,nQ iQ v.op.k,nQ iQ v.op.width,nQ iQ v.op.step,nQ iQ v.op.side,nQ iQ v.op.frm,nQ iQ v.op.to,sQ S v.op.s.length sc,sQ J v.ins.length ic,sQ Q v.p.length qc],sQ P ps.length pc,sQ I is.length xc,nQ iQ sd] w (NewR (Ly.tab ps[1].length λi=>Fx.add (Fx.dot (Ly.rowOf ps[0] is[0].length i) is[0]) (Ly.at_ ps[1] i)) w):=by
 obtain ⟨w1,hl,ha,y0,y1,y2,y3,y4,y5,y6,y7,y8,y9⟩:=qb6 w v S J Q sc ic qc;obtain ⟨b1,o1,A1,c1,rfl,-,g1,h1,-⟩:=(hI.below ha (lrZ _)) 0 hi;obtain ⟨b2,o2,A2,c2,rfl,-,g2,h2,-⟩:=(hP.below ha (lrZ _)) 0 oZ;obtain ⟨b3,o3,A3,c3,e,-,g3,h3,-⟩:=(hP.below ha (lrZ _)) 1 hp;injection e with e;injection e with e3 e4;subst e3 e4
 rw [Zx] at g1 g2;have q1:(0:Int)<(is.length:Int):=by omega
 have q2:(0:Int)<(ps.length:Int):=by omega
 have q3:(1:Int)<(ps.length:Int):=by omega
 have hm:0<ps.length:=by omega
 generalize is[0]=x at *;generalize ps[0]=p at *;generalize ps[1]=b at *;have hc:=λ(V:Zp1) (hV:Later w1 V)=>r6_go A2 A3 A1 c2 c3 c1 b.length p b x V rfl hw hwl hml hxl (h2.below hV (lrZ _)) (h3.below hV (lrZ _)) (h1.below hV (lrZ _)) i2 i3 i1
 rw [hk] at y0;clear hk;obtain ⟨Hc,hg,Hw⟩:=zd3 hc ha hw;clear hc ha hw;clear hP hI h1 h2 h3 i1 i2 i3;go_enter Tryz.func27,Tryz.ntmps27;go_upto_region 1 with fail;clear hl;go_wp2_with fail
 go_region_held3 (λW=>W.cell? ⟨b1,o1,none⟩=some (sQ A1 x.length c1)/\W.cell? ⟨b2,o2,none⟩=some (sQ A2 p.length c2)/\W.cell? ⟨b2,o2+1,none⟩=some (sQ A3 b.length c3)) (first|(with_reducible exact ⟨g1,g2,g3⟩)|exact ⟨Later.cell (Lau:Later w1 _) g1,Later.cell (Lau:Later w1 _) g2,Later.cell (Lau:Later w1 _) g3⟩)
  (first
   | (go_at_call 57;(with_reducible refine (Hc.out _ (Lau:Later w1 _)).mono ?_);rintro e wa ⟨A,ca,rfl,hR,r1,r2,hd⟩;have he:Below _ _ wa:=hd))
 have hb:=hg.out.trans (Lau:Later w1 wa);obtain ⟨HR,hj,hh,hf⟩:=zd4 hR r1 r2 hb;clear hR r1 r2 hb;clear hd he g1 g2 g3;go_wp2_with fail;go_ret;exact ⟨A,ca,rfl,HR.out,hj.out,hh.out,hf.out⟩
theorem qel (v:NodeD) (S J Q P I:Option Addr) (sc ic qc pc xc m:Nat) (ps is:List (List Int)) (sd:Int) (w:Zp1) (hk1:1<=v.op.kind) (hk7:v.op.kind<=7) (hkI:Fx.In v.op.k) (hI:Shps w I is) (hi:0<is.length) (hm:m<is.length) (hm1:m+1=is.length)
  (hl:is[0].length<=65536) (hlm:is[m].length=is[0].length) (i1:∀z∈is[0],Fx.In z) (i2:∀z∈is[m],Fx.In z) (hil:is.length<=65536):
  Calls Tryz.prog 27 #[.agg #[nQ iQ v.op.kind,nQ iQ v.op.k,nQ iQ v.op.width,nQ iQ v.op.step,nQ iQ v.op.side,nQ iQ v.op.frm,nQ iQ v.op.to,sQ S v.op.s.length sc,sQ J v.ins.length ic,sQ Q v.p.length qc],sQ P ps.length pc,sQ I is.length xc,nQ iQ sd] w (NewR (Ly.tab is[0].length λi=>Ly.cell v.op.kind v.op.k (Ly.at_ is[0] i) (Ly.at_ is[m] i)) w):=by
 obtain ⟨i0,hU,hW,hH,hz⟩:=info_parts qaD;obtain ⟨w1,hT,hj,y0,y1,-⟩:=qb6 w v S J Q sc ic qc;obtain ⟨b1,o1,A1,c1,rfl,-,g1,h1,-⟩:=(hI.below hj (lrZ _)) 0 hi;obtain ⟨b2,o2,A2,c2,e,-,g2,h2,-⟩:=(hI.below hj (lrZ _)) m hm;injection e with e;injection e with e3 e4;subst e3 e4
 rw [Zx] at g1;have q1:(0:Int)<(is.length:Int):=by omega
 have q2:iQ.wrap ((is.length:Int)-1)=(m:Int):=by rw [show (is.length:Int)-1=(m:Int) by omega];exact Zc1 _ oZ
 have q3:(m:Int)<(is.length:Int):=by omega
 have q4:(0:Int)<=(m:Int):=by omega
 generalize is[0]=x at *;generalize is[m]=y at *;have hd:(Ly.tab x.length λi=>Ly.cell v.op.kind v.op.k (Ly.at_ x i) (Ly.at_ y i)).length=x.length:=Ly.tab_len _ _;have hs:∀i (h:i<(Ly.tab x.length λi=>Ly.cell v.op.kind v.op.k (Ly.at_ x i) (Ly.at_ y i)).length),(Ly.tab x.length λi=>Ly.cell v.op.kind v.op.k (Ly.at_ x i) (Ly.at_ y i))[i]=Ly.cell v.op.kind v.op.k (Ly.at_ x i) (Ly.at_ y i):=λi h=>Ly.tab_get h
 generalize (Ly.tab x.length λi=>Ly.cell v.op.kind v.op.k (Ly.at_ x i) (Ly.at_ y i))=R at *;generalize v.op.kind=kd at *;generalize v.op.k=kk at *;obtain ⟨hP,hp,hh,hC,H1,H2,hV,hD,hx⟩:=zd9 hj hlm hd hs h1 h2 i1 i2 hkI;have hX:=zI hm1;clear hj hlm hd hs h1 h2 i1 i2 hkI hm1;clear hI;go_enter Tryz.func27,Tryz.ntmps27;go_upto_region 1 with fail;clear hT;go_wp2_with fail
 go_loopw [10,11] (λo j wx=>∃k:Nat,k<=x.length/\j=nQ iQ (k:Int)/\wx.ownsRow w1.heap.size 2 1 o k ((R.take k).map (Za1 iQ))/\Later w1 wx) (λ_ j _=>x.length-(intOf j).toNat)
 case atStart=>exact ⟨0,Zt _,rfl,by simpa using World.ownsRow_nil w1 w1.heap.size 2 1,Later.refl _⟩
 obtain ⟨k,hk,rfl,hown,hc⟩:=hrel;obtain ⟨Ao,co,rfl⟩:=qa8 hown;have d1:=hc.cell g1
 by_cases hG:k<x.length
 ·have he:k<R.length:=by have:=hh.out;omega
  have ho:(R.take (k+1)).map (Za1 iQ)=(R.take k).map (Za1 iQ)++[nQ iQ R[k]]:=by rw [Zb he,List.map_append,List.map_singleton]
  rw [hC.out k he] at ho;obtain ⟨bw,ow,rfl,ht⟩:=H1.out.spot_ hG;obtain ⟨bx,ox,rfl,hq⟩:=H2.out.spot_ (show k<y.length by have:=hp.out;omega);have hu:=λ(V:Zp1)=>r5_cell kd kk (Ly.at_ x k) (Ly.at_ y k) V ⟨hk1,hk7⟩ hx.out (Ly.at_in hV.out k) (Ly.at_in hD.out k)
  have j1:(k:Int)<(x.length:Int):=by omega
  have j2:(k:Int)<(y.length:Int):=by have:=hp.out;omega
  have j4:(0:Int)<=(k:Int):=by omega
  generalize (R.take k).map (Za1 iQ)=vs at *;generalize Ly.cell kd kk (Ly.at_ x k) (Ly.at_ y k)=v0 at *;generalize Ly.at_ x k=a0 at *;generalize Ly.at_ y k=b0 at *;have hQ:=hc.size;have hS:Below w1.heap.size w1 wr:=hc;clear he;obtain ⟨hM,hv,hJ,hf⟩:=zd4 ho hc hu hown;clear ho hc hu hown;go_wp2_with fail;have KF:=zI (show ∀Xw,Later w1 Xw->Xw.cell? ⟨w.heap.size,1,none⟩=some (nQ iQ kk)/\Xw.cell? ⟨b1,o1,none⟩=some (sQ (some ⟨bw,ow,none⟩) x.length c1)/\Xw.cell? ⟨b1,o1+m,none⟩=some (sQ (some ⟨bx,ox,none⟩) y.length c2)/\Xw.cell? ⟨bw,ow+k,none⟩=some (nQ iQ a0)/\Xw.cell? ⟨bx,ox+k,none⟩=some (nQ iQ b0) from λXw h=>⟨h.cell y1,h.cell g1,h.cell g2,h.cell ht,h.cell hq⟩);refine Zm1 ?_;refine Zl1 (S:=λXw=>Xw.cell? ⟨w.heap.size,1,none⟩=some (nQ iQ kk)/\Xw.cell? ⟨b1,o1,none⟩=some (sQ (some ⟨bw,ow,none⟩) x.length c1)/\Xw.cell? ⟨b1,o1+m,none⟩=some (sQ (some ⟨bx,ox,none⟩) y.length c2)/\Xw.cell? ⟨bw,ow+k,none⟩=some (nQ iQ a0)/\Xw.cell? ⟨bx,ox+k,none⟩=some (nQ iQ b0)) krZ (KF.out _ Lau) (λhHeld=>?_);refine tk 0 ?_;refine tk 1 ?_;refine tk 2 ?_;refine tk 3 ?_;refine tk 4 ?_;refine tk 5 ?_;refine tk 6 ?_;refine tk 7 ?_;refine tk 8 ?_;refine tk 9 ?_;refine tk 10 ?_;refine tk 11 ?_;refine tk 12 ?_;refine tk 13 ?_;refine tk 14 ?_;refine tk 15 ?_;refine tk 16 ?_;refine tk 17 ?_;refine tk 18 ?_;refine tk 19 ?_;refine rd 20 λK hK=>?_
  simp only [ga,gs,gz]
  go_simp
  go_at_call 56;(with_reducible refine (hJ.out _).mono ?_);rintro e wa ⟨rfl,hB⟩;have hn:=(Lau:Later wr wa);have hN:=hn.size
  try go_wp2_with fail
  refine hK.out _ _ (KF.out _ Lau) (λhHeld=>?_);clear hK K
  try simp only [ga,gs,gz,Act.put,sa,sz,ss]
  refine rd 21 λK hK=>?_
  simp only [ga,gs,gz]
  go_simp
  refine hK.out _ _ (KF.out _ Lau) (λhHeld=>?_);clear hK K
  try simp only [ga,gs,gz,Act.put,sa,sz,ss]
  refine rd 22 λK hK=>?_
  refine step_append_lies _ (by rfl) _ _ 48 (by rfl) w1.heap.size 2 i0 (nQ iQ 0) 1 8 Tryz.underlying48 hU hW hH hz rfl oZ (sQ Ao k co) k vs (by rfl) (qa6 (qae hf.out hn) (.cells #[nQ iQ v0] 2)) ⟨wa.heap.size,0,none⟩ 1 1 [nQ iQ v0] (by rfl) (by rfl) (qap wa _ _) (by simp [Value.oneCell']) oZ (by unfold maxLen;omega) oZ soZ (wa.heap.size+1) sZ ?_;intro gg cap w4 ha hgrow hO hL;have hw:Below w1.heap.size w1 w4:=Below.grown ((hv.out.trans hn).alloc (.cells #[nQ iQ v0] 2)) hgrow soZ (λb hb=>(hf.out.lt b hb).1);refine hK.out _ _ (KF.out _ Lau) (λhHeld=>?_);clear hK K
  try simp only [ga,gs,gz,Act.put,sa,sz,ss]
  refine tk 23 ?_;clear KF;refine Zn1 krZ ?_ _;refine Zd1 ?_;rw [←hM.out] at ha;obtain ⟨hg,hR⟩:=zd2 ha hw;clear ha hw;clear hgrow hO hB hS hn ht hq;go_wp2_with fail;go_roundw
  case rel=>exact ⟨k+1,by omega,by go_num,hg.out,hR.out⟩
  case measure=>simp [intOf];omega
 ·obtain rfl:k=x.length:=by omega
  have hd:=hh.out;rw [←hd,List.take_of_length_le (lrZ _)] at hown;obtain ⟨r1,r2,r3⟩:=qal hown;have hr:=hP.out.trans hc;rw [hd] at r2;obtain ⟨hf,hF,hE,hA,hv,hh,hy⟩:=zd7 hown r1 r2 r3 hc hd hr;clear hown r1 r2 r3 hc hd hr;go_wp2_with fail;rw [←hh.out];go_ret;exact ⟨Ao,co,rfl,hF.out,by rw [hh.out];exact hE.out,hA.out,hy.out⟩
theorem Ints.piece {w:Zp1} {b off:Nat} {l:List Int} (h:Ints iQ w (some ⟨b,off,none⟩) l) (a n:Nat):Ints iQ w (some ⟨b,off+a,none⟩) ((l.drop a).take n):=λj hj=>by
 have ha:j<n/\a+j<l.length:=by simp at hj;omega
 obtain ⟨b2,o2,e,hl,hc⟩:=h (a+j) ha.2;injection e with e;injection e with e3 e4;subst e3 e4
 refine ⟨b,off+a,rfl,hl,?_⟩;rw [Nat.add_assoc,hc];simp only [gdZ];rw [List.getElem?_take,ipZ ha.1,List.getElem?_drop]
theorem Ints.lies_ {w:Zp1} {A:Option Addr} {l:List Int} (h:Ints iQ w A l) (hl:0<l.length):∃b off,A=some ⟨b,off,none⟩/\b<w.heap.size/\∀j u,(l.map (Za1 iQ))[j]? = some u->w.cell? (Addr.add ⟨b,off,none⟩ j)=some u:=by
 obtain ⟨b,off,e,hb,-⟩:=h 0 hl;refine ⟨b,off,e,hb,λj u hu=>?_⟩;obtain ⟨hj,rfl⟩:=List.getElem?_eq_some_iff.1 hu;rw [List.length_map] at hj;obtain ⟨b2,o2,e2,-,hc⟩:=h j hj;rw [e] at e2;injection e2 with e2;injection e2 with e3 e4;subst e3 e4
 rw [List.getElem_map,←qa2 hj];rw [show Addr.add ⟨b,off,none⟩ j=⟨b,off+j,none⟩ by simp [Addr.add]];exact hc
theorem qaX {P:Program} {ρ:Operand->Value} {o:Oper} {w:Zp1} {t e:TypeId} {x lo hi:Operand} {A:Option Addr} {n c l m:Nat} (ho:o.op=.slice t x (some lo) (some hi) none)
  (hu:P.underlying t=some (.slice e)) (hs:(P.info? e).map (·.size)=some 1) (hx:ρ x=sQ A n c) (hl:ρ lo=nQ iQ (l:Int)) (hh:ρ hi=nQ iQ ((l:Int)+(m:Int))) (hc:l+m<=c):
  (execOp ρ o).run P w=.ok (.value (.slice (if c=l then A else A.map λa=>a.add l) m (c-l))) w:=by
 cases hq:P.info? e with
 | none=>simp [hq] at hs
 | some i=>
  have hb:i.size=1:=by simpa [hq] using hs
  have e1:(0:Int)<=(l:Int):=by omega
  have e2:(0:Int)<=(l:Int)+(m:Int):=by omega
  have e3:(l:Int)+(m:Int)<=(c:Int):=by omega
  have e5:((l:Int)+(m:Int)).toNat-l=m:=by omega
  have he:P.elem t=e:=by simp [Program.elem,hu]
  have ha:P.underlying t=some (.slice (P.elem t)):=by rw [he];exact hu
  have hr:(Instr.sliceAt t (Zb1 A n c) (some (Za1 iQ (l:Int))) (some (Za1 iQ ((l:Int)+(m:Int)))) none).run P w=.ok (.slice (if c=l then A else A.map λa=>a.add l) m (c-l)) w:=by
   rw [run_sliceAt_slice (h:=ha),run_slice_lh (ht:=ha) (h0:=e1) (h1:=by omega) (h2:=e3),he];simp [sizeOf,typeInfo,hq,hb,sliced,Result.andThen,e5]
  unfold execOp;simp [ho,hx,hl,hh,hr,Result.andThen]
theorem qb4 {P:Program} {ρ:Operand->Value} {o:Oper} {w:Zp1} {t e:TypeId} {x lo hi:Operand} {b off n c l m:Nat} (ho:o.op=.slice t x (some lo) (some hi) none)
  (hu:P.underlying t=some (.slice e)) (hs:(P.info? e).map (·.size)=some 1) (hx:ρ x=sQ (some ⟨b,off,none⟩) n c) (hl:ρ lo=nQ iQ (l:Int)) (hh:ρ hi=nQ iQ ((l:Int)+(m:Int))) (hc:l+m<=c) (hlc:l<c):
  (execOp ρ o).run P w=.ok (.value (sQ (some ⟨b,off+l,none⟩) m (c-l))) w:=by
 rw [qaX ho hu hs hx hl hh hc,inZ oZ];simp [Addr.add]
theorem qgY (f:Nat->List Int) (n:Nat) (hf:∀r,(f r).length=n):∃F:Nat->List Int,(∀k,(List.range k).flatMap f=F k)/\F 0=[]/\(∀k,F (k+1)=F k++f k)/\∀k,(F k).length=k*n:=by
 have hs:∀k,(List.range (k+1)).flatMap f=(List.range k).flatMap f++f k:=λk=>by rw [List.range_succ,Zj];simp
 refine ⟨λk=>(List.range k).flatMap f,λ_=>rfl,rfl,hs,λk=>?_⟩
 induction k with
 | zero=>simp
 | succ k ih=>show ((List.range (k+1)).flatMap f).length=_;rw [hs,Ze,hf,Zu];congr 1
theorem qgZ (top:Bool) (v:NodeD) (S J Q P I:Option Addr) (sc ic qc np pc xc:Nat) (is:List (List Int)) (sd n wd st pre:Nat) (w:Zp1) (hk:v.op.kind=if top=true then 11 else 12) (hwd:v.op.width=(wd:Int)) (hst:v.op.step=(st:Int)) (l1:1<=wd) (l2:wd<=1024) (s1:1<=st) (s2:st<=1024) (d1:1<=sd) (n1:1<=n)
  (hn:∀k,k*st+wd<=sd↔k<n) (hI:Shps w I is) (hi:0<is.length) (hl:is[0].length=pre*sd) (hll:is[0].length<=65536) (hpn:pre*n<=65536) (i1:∀z∈is[0],Fx.In z):
  Calls Tryz.prog 27 #[.agg #[nQ iQ v.op.kind,nQ iQ v.op.k,nQ iQ v.op.width,nQ iQ v.op.step,nQ iQ v.op.side,nQ iQ v.op.frm,nQ iQ v.op.to,sQ S v.op.s.length sc,sQ J v.ins.length ic,sQ Q v.p.length qc],sQ P np pc,sQ I is.length xc,nQ iQ (sd:Int)] w (NewR ((List.range pre).flatMap λr=>Ly.poolR2 top (Ly.rowOf is[0] sd r) wd st n) w):=by
 obtain ⟨i0,Ho,Hp,h7,hP⟩:=info_parts qaD;obtain ⟨w1,Hn,ht,y0,-,y2,y3,-⟩:=qb6 w v S J Q sc ic qc;obtain ⟨b1,o1,A1,c1,rfl,-,g1,h1,z1,z2⟩:=(hI.below ht (lrZ _)) 0 hi;rw [Zx] at g1;have q1:(0:Int)<(is.length:Int):=by omega
 generalize is[0]=x at *;obtain ⟨F,hF,hE,hr,he⟩:=qgY (λr=>Ly.poolR2 top (Ly.rowOf x sd r) wd st n) n (λr=>Ly.tab_len _ _);rw [hF]
 have hc:∀(V:Zp1) (c' k:Nat) (kd:Int),k<pre->(kd=if top=true then 1 else 2)->Later w1 V->∀b o,A1=some ⟨b,o,none⟩->
   Calls Tryz.prog 58 #[nQ iQ kd,sQ (some ⟨b,o+k*sd,none⟩) sd c',nQ iQ (wd:Int),nQ iQ (st:Int)] V λe w'=>∃b2 o2 c2,e=.returned (sQ (some ⟨b2,o2,none⟩) n c2)/\Later V w'/\(∀j u,((Ly.poolR2 top (Ly.rowOf x sd k) wd st n).map (Za1 iQ))[j]? = some u->w'.cell? (Addr.add ⟨b2,o2,none⟩ j)=some u):=λV c' k kd hp hv hV b o e=>by
  subst e;have hB:=Ly.row_len hl hp;have:=r8_row (some ⟨b,o+k*sd,none⟩) c' n wd st top kd (Ly.rowOf x sd k) V hv (by have:=Ly.row_len hl hp;have:sd<=pre*sd:=Nat.le_mul_of_pos_left _ oZ;omega) l1 l2 s1 s2 (by rw [hB];exact hn) ((h1.below hV (lrZ _)).piece _ _) (Ly.row_in i1);rw [hB] at this;refine this.mono ?_;rintro e w' ⟨A,c,rfl,hR,-,-,hg⟩;have Hq:(Ly.poolR2 top (Ly.rowOf x sd k) wd st n).length=n:=Ly.tab_len _ _;obtain ⟨b2,o2,rfl,-,ho⟩:=hR.lies_ oZ;exact ⟨b2,o2,c,by rw [Hq],hg,ho⟩
 rw [hwd] at y2;rw [hst] at y3
 have hH:∀k,k<pre->∃b o,A1=some ⟨b,o,none⟩:=λk hp=>by
  have:0<x.length:=by rw [hl];exact Nat.mul_pos oZ d1
  obtain ⟨b,o,e,-⟩:=h1 0 this;exact ⟨b,o,e⟩
 have hs:∀k,(Ly.poolR2 top (Ly.rowOf x sd k) wd st n).length=n:=λk=>Ly.tab_len _ _
 generalize hfr:(λr=>Ly.poolR2 top (Ly.rowOf x sd r) wd st n)=fr at *;have hh:∀k,Ly.poolR2 top (Ly.rowOf x sd k) wd st n=fr k:=λk=>by rw [←hfr]
 simp only [hh] at hc hs hr;obtain ⟨Hc,Hf,Hl,hO,hX,hC,h8,hZ⟩:=zd8 hc ht hl hE hr he hH hs;clear hc ht hl hE hr he hH hs;clear hI h1 i1 hn hF hfr hh hwd hst;cases top
 all_goals
  simp at hk;rw [hk] at y0;clear hk;go_enter Tryz.func27,Tryz.ntmps27;go_upto_region 1 with fail;clear Hn;go_wp2_with fail
  go_loopw [12,13] (λo j wx=>∃k:Nat,k<=pre/\j=nQ iQ ((k*sd:Nat):Int)/\wx.ownsRow w1.heap.size 2 1 o (k*n) ((F k).map (Za1 iQ))/\Later w1 wx) (λ_ j _=>x.length+1-(intOf j).toNat)
  case atStart=>exact ⟨0,Zt _,by simp,by simpa [hO.out] using World.ownsRow_nil w1 w1.heap.size 2 1,Later.refl _⟩
  obtain ⟨k,hk,rfl,hown,hd⟩:=hrel;obtain ⟨Ao,co,rfl⟩:=qa8 hown;have d1':=hd.cell g1;have d2:=hd.cell y2;have d3:=hd.cell y3;have hU:=zI (show (k+1)*sd=k*sd+sd from Zu _ _);have Hi:=zI (show (k+1)*n=k*n+n from Zu _ _)
  by_cases hm:k<pre
  ·obtain ⟨bx,ox,rfl⟩:=h8.out k hm
   have Ha:k*sd+sd<=x.length:=by rw [Hl.out,←Zu];exact mlZ _ hm
   have h5:k*n+n<=65536:=by have:(k+1)*n<=pre*n:=mlZ _ hm;rw [Zu] at this;omega
   have hq:=λV c' kd hv hV=>Hc.out V c' k kd hm hv hV bx ox rfl
   have hw:(F (k+1)).map (Za1 iQ)=(F k).map (Za1 iQ)++(fr k).map (Za1 iQ):=by rw [hX.out,List.map_append]
   have hz:((fr k).map (Za1 iQ)).length=n:=by rw [List.length_map];exact hZ.out k
   have hL:∀u∈(fr k).map (Za1 iQ),u.oneCell'=true:=λu hu=>by
    obtain ⟨z,-,rfl⟩:=List.mem_map.1 hu
    rfl
   generalize (F k).map (Za1 iQ)=vs at *;generalize (fr k).map (Za1 iQ)=ns at *;obtain ⟨A,hA⟩:∃A:Nat,A=k*sd:=⟨_,rfl⟩
   obtain ⟨KK,hK⟩:∃KK:Nat,KK=k*n:=⟨_,rfl⟩
   rw [←hA] at Ha hq ⊢;rw [←hK] at h5 hown ⊢;obtain ⟨HA,h6⟩:=zd2 hA hK;have j1:(A:Int)<(x.length:Int):=by omega
   have j2:(0:Int)<=(A:Int):=by omega
   have j3:iQ.wrap ((A:Int)+(sd:Int))=(A:Int)+(sd:Int):=Zc1 _ oZ;have j4:(A:Int)<=(A:Int)+(sd:Int):=by omega
   have j5:(A:Int)+(sd:Int)<=(c1:Int):=by omega
   have j6:(0:Int)<=(A:Int)+(sd:Int):=by omega
   have j7:((A:Int)+(sd:Int)).toNat=A+sd:=by omega
   have j8:A<c1:=by omega
   have j9:A+sd<=c1:=by omega
   have jx:¬c1=A:=by omega
   have hG:=λ(ρ:Operand->Value) (W:Zp1) (o:Oper) (z lo hi:Operand) (h1:o.op=.slice 48 z (some lo) (some hi) none) (h2:ρ z=sQ (some ⟨bx,ox,none⟩) x.length c1) (h3:ρ lo=nQ iQ (A:Int)) (h4:ρ hi=nQ iQ ((A:Int)+(sd:Int)))=>qb4 (P:=Tryz.prog) (w:=W) h1 Tryz.underlying48 krZ h2 h3 h4 oZ j8
   have Hg:=hd.size;have Hm:Below w1.heap.size w1 wr:=hd;clear hA hK;obtain ⟨Hb,hJ,h0,hf,hT,Hk,Hj⟩:=zd7 hw hd hq hown hz hL hG;clear hw hd hq hown hz hL hG;go_wp2_with fail;have KF:=zI (show ∀Xw,Later w1 Xw->Xw.cell? ⟨b1,o1,none⟩=some (sQ (some ⟨bx,ox,none⟩) x.length c1)/\Xw.cell? ⟨w.heap.size,2,none⟩=some (nQ iQ (wd:Int))/\Xw.cell? ⟨w.heap.size,3,none⟩=some (nQ iQ (st:Int)) from λXw h=>⟨h.cell g1,h.cell y2,h.cell y3⟩);refine Zm1 ?_;refine Zl1 (S:=λXw=>Xw.cell? ⟨b1,o1,none⟩=some (sQ (some ⟨bx,ox,none⟩) x.length c1)/\Xw.cell? ⟨w.heap.size,2,none⟩=some (nQ iQ (wd:Int))/\Xw.cell? ⟨w.heap.size,3,none⟩=some (nQ iQ (st:Int))) krZ (KF.out _ Lau) (λhHeld=>?_);refine tk 0 ?_;refine tk 1 ?_;refine tk 2 ?_;refine tk 3 ?_;refine tk 4 ?_;refine tk 5 ?_;refine tk 6 ?_;refine tk 7 ?_;refine tk 8 ?_;refine tk 9 ?_;refine tk 10 ?_ (hy:=λW _=>Hj.out _ _ _ _ _ _ rfl rfl rfl rfl)
   try simp only [ga,gs,gz,Act.put,sa,sz,ss]
   refine tk 11 ?_;refine tk 12 ?_;refine tk 13 ?_;refine tk 14 ?_;refine tk 15 ?_;refine tk 16 ?_;refine rd 17 λK hK=>?_
   simp only [ga,gs,gz]
   go_simp
   go_at_call 58;(with_reducible refine (h0.out _ _ _ dZ (Lau:Later w1 _)).mono ?_);rintro e wa ⟨b2,o2,c2,rfl,hD,ho⟩;have hS:Below _ _ wa:=hD;have hg:=(Lau:Later wr wa);have Hd:=hg.size
   try go_wp2_with fail
   refine hK.out _ _ (KF.out _ Lau) (λhHeld=>?_);clear hK K
   try simp only [ga,gs,gz,Act.put,sa,sz,ss]
   refine rd 18 λK hK=>?_
   refine step_append_lies _ (by rfl) _ _ 48 (by rfl) w1.heap.size 2 i0 (nQ iQ 0) 1 8 Tryz.underlying48 Ho Hp h7 hP rfl oZ (sQ Ao KK co) KK vs (by rfl) (qae hf.out hg) ⟨b2,o2,none⟩ n c2 ns (by rfl) (by rw [hT.out,Nat.mul_one]) ho Hk.out oZ (by unfold maxLen;omega) oZ oZ wa.heap.size rfl ?_;intro gg cap w4 ha hgrow He h9;have hM:Below w1.heap.size w1 w4:=Below.grown (hJ.out.trans hg) hgrow oZ (λb hb=>(hf.out.lt b hb).1);refine hK.out _ _ (KF.out _ Lau) (λhHeld=>?_);clear hK K
   try simp only [ga,gs,gz,Act.put,sa,sz,ss]
   refine tk 19 ?_;clear KF;refine Zn1 krZ ?_ _;refine Zd1 ?_;rw [←Hb.out] at ha;obtain ⟨hj,Hh⟩:=zd2 ha hM;clear ha hM;clear hgrow He hS hg hD ho Hm;go_wp2_with fail;go_roundw
   case rel=>exact ⟨k+1,by omega,congrArg (Za1 iQ) (by have:=HA.out;have:=hU.out;omega),by rw [Hi.out,←h6.out];exact hj.out,Hh.out⟩
   case measure=>have:=HA.out;simp [intOf];omega
  ·obtain rfl:k=pre:=by omega
   have he:=hC.out k;rw [←he] at hown;obtain ⟨r1,r2,r3⟩:=qal hown;have hx:=Hf.out.trans hd;rw [show (Zb1 Ao (k*n) co)=Zb1 Ao (F k).length co by rw [he]];rw [show k*sd=x.length from Hl.out.symm];have j1:¬((x.length:Int)<(x.length:Int)):=by omega
   obtain ⟨hf,hY,hW,hQ,hJ,hC,hN⟩:=zd7 hown r1 r2 r3 hd he hx;clear hown r1 r2 r3 hd he hx;go_wp2_with fail;go_ret;exact ⟨Ao,co,rfl,hY.out,hW.out,hQ.out,hN.out⟩
def ApC (Z:Nat->Prop) (w:Zp1) (A:Option Addr) (n:Nat):Prop:=∀j,j<n->∀b off S m c,A=some ⟨b,off,none⟩->w.cell? ⟨b,off+j,none⟩=some (sQ S m c)->∀a,S=some a->¬Z a.block
theorem ApC.nil (Z:Nat->Prop) (w:Zp1) (A:Option Addr):ApC Z w A 0:=λj hj=>absurd hj oZ
theorem ApC.one {Z:Nat->Prop} {w:Zp1} {g n c:Nat} {T:TypeId} {S:Option Addr} (hb:Blk w g T #[sQ S n c]) (h:∀a,S=some a->¬Z a.block):ApC Z w (some ⟨g,0,none⟩) 1:=λj hj b off S' m c' e hc=>by
 obtain rfl:j=0:=by omega
 injection e with e;injection e with e1 e2;subst e1 e2
 rw [hb.cell] at hc;injection hc with hc;injection hc with hc;subst hc
 exact h
theorem ApC.two {Z:Nat->Prop} {w:Zp1} {g n c m d:Nat} {T:TypeId} {S R:Option Addr} (hb:Blk w g T #[sQ S n c,sQ R m d]) (h:∀a,S=some a->¬Z a.block) (h2:∀a,R=some a->¬Z a.block):ApC Z w (some ⟨g,0,none⟩) 2:=λj hj b off S' m c' e hc=>by
 injection e with e;injection e with e1 e2;subst e1 e2
 rw [hb.cell] at hc
 match j,hj with
 | 0,_=>injection hc with hc;injection hc with hc;subst hc;exact h
 | 1,_=>injection hc with hc;injection hc with hc;subst hc;exact h2
theorem qb5 {A:Option Addr} {B:Nat} {Z:Nat->Prop} (h:∀a,A=some a->B<=a.block) (hz:∀z,Z z->z<B):∀a,A=some a->¬Z a.block:=λa e h2=>by have:=h a e;have:=hz _ h2;omega
theorem qcg {A:Option Addr} {B z:Nat} (h:∀a,A=some a->B<=a.block) (hz:z<B):∀a,A=some a->a.block≠z:=λa e=>by have:=h a e;omega
def BackR (G:Option Addr) (pa pb:List (List Int)) (w:Zp1) (e:Ending) (w':Zp1):Prop:=
 ∃A ca B cb,e=.returned (.tuple #[sQ A pa.length ca,sQ B pb.length cb])/\Shps w' A pa/\Shps w' B pb/\(∀a,A=some a->w.heap.size<=a.block)/\(∀a,B=some a->w.heap.size<=a.block)/\(∀Z:Nat->Prop,(∀z,Z z->z<w.heap.size)->(∀a,G=some a->¬Z a.block)->ApC Z w' A pa.length/\ApC Z w' B pb.length)/\Later w w'
theorem Shps.blk {w:Zp1} {g:Nat} {T:TypeId} {vs:Array Value} {ls:List (List Int)} (hb:Blk w g T vs) (h:∀j (hj:j<ls.length),∃S c,vs[j]? = some (sQ S ls[j].length c)/\Ints iQ w S ls[j]/\ls[j].length<=c/\c<=9223372036854775807):Shps w (some ⟨g,0,none⟩) ls:=λj hj=>by
 obtain ⟨S,c,e,hI,h1,h2⟩:=h j hj;refine ⟨g,0,S,c,rfl,hb.lt,?_,hI,h1,h2⟩;rw [Zw,hb.cell,e]
theorem Shps.one {w:Zp1} {g c:Nat} {T:TypeId} {S:Option Addr} {l:List Int} (hb:Blk w g T #[sQ S l.length c]) (hI:Ints iQ w S l) (h1:l.length<=c) (h2:c<=9223372036854775807):Shps w (some ⟨g,0,none⟩) [l]:=Shps.blk hb λj hj=>by
 obtain rfl:j=0:=by simp at hj;exact hj
 exact ⟨S,c,rfl,hI,h1,h2⟩
theorem Shps.two {w:Zp1} {g c d:Nat} {T:TypeId} {S R:Option Addr} {l m:List Int} (hb:Blk w g T #[sQ S l.length c,sQ R m.length d]) (hI:Ints iQ w S l) (h1:l.length<=c) (h2:c<=9223372036854775807) (hJ:Ints iQ w R m) (h3:m.length<=d) (h4:d<=9223372036854775807):Shps w (some ⟨g,0,none⟩) [l,m]:=Shps.blk hb λj hj=>by
 match j,hj with
 | 0,_=>exact ⟨S,c,rfl,hI,h1,h2⟩
 | 1,_=>exact ⟨R,d,rfl,hJ,h3,h4⟩
 | j+2,hj=>exact absurd hj sZ
theorem BackR.one {G:Option Addr} {w wF:Zp1} {x:Nat} {pb:List (List Int)} (m:Nat) (hx:w.heap.size<=x) (hS:Shps wF (some ⟨x,0,none⟩) pb) (hl:Later w wF) (ha:∀Z:Nat->Prop,(∀z,Z z->z<w.heap.size)->(∀a,G=some a->¬Z a.block)->ApC Z wF (some ⟨x,0,none⟩) pb.length):BackR G [] pb w (.returned (.tuple #[sQ none 0 0,sQ (some ⟨x,0,none⟩) pb.length m])) wF:=
 ⟨none,0,_,m,rfl,Shps.nil,hS,sZ,(λa e=>by injection e with e;subst e;exact hx),(λz h1 h2=>⟨ApC.nil _ _ _,ha z h1 h2⟩),hl⟩
theorem BackR.both {G:Option Addr} {w wF:Zp1} {x y:Nat} {pa pb:List (List Int)} (k m:Nat) (hx:w.heap.size<=x) (hy:w.heap.size<=y) (hR:Shps wF (some ⟨x,0,none⟩) pa) (hS:Shps wF (some ⟨y,0,none⟩) pb) (hl:Later w wF) (ha:∀Z:Nat->Prop,(∀z,Z z->z<w.heap.size)->(∀a,G=some a->¬Z a.block)->ApC Z wF (some ⟨x,0,none⟩) pa.length/\ApC Z wF (some ⟨y,0,none⟩) pb.length):BackR G pa pb w (.returned (.tuple #[sQ (some ⟨x,0,none⟩) pa.length k,sQ (some ⟨y,0,none⟩) pb.length m])) wF:=
 ⟨_,k,_,m,rfl,hR,hS,(λa e=>by injection e with e;subst e;exact hx),(λa e=>by injection e with e;subst e;exact hy),ha,hl⟩
theorem qfK (v:NodeD) (S J Q P I G:Option Addr) (sc ic qc np pc ni xc gc:Nat) (g:List Int) (sd:Int) (w:Zp1) (hk:v.op.kind=15) (hG:Ints iQ w G g) (g1:g.length<=gc) (g2:gc<=9223372036854775807):
  Calls Tryz.prog 29 #[.agg #[nQ iQ v.op.kind,nQ iQ v.op.k,nQ iQ v.op.width,nQ iQ v.op.step,nQ iQ v.op.side,nQ iQ v.op.frm,nQ iQ v.op.to,sQ S v.op.s.length sc,sQ J v.ins.length ic,sQ Q v.p.length qc],sQ P np pc,sQ I ni xc,sQ G g.length gc,nQ iQ sd] w (BackR G [] [g] w):=by
 obtain ⟨w1,he,ha,y0,-⟩:=qb6 w v S J Q sc ic qc;have hb:=hG.below ha (lrZ _);rw [hk] at y0;clear hk hG;obtain ⟨hc,hd⟩:=zd2 ha hb;clear ha hb;go_enter Tryz.func29,Tryz.ntmps29;go_upto_region 1 with fail;clear he;go_wp2_with fail
 go_ret2
 have hl:Later w1 (w1.alloc (.cells #[sQ G g.length gc] 48)):=(Later.refl w1).alloc _;exact BackR.one 1 hc.out.size (Shps.one (Blk.new w1 _ _) (hd.out.below hl (lrZ _)) g1 g2) (hc.out.trans hl) λz _ hz=>ApC.one (Blk.new w1 _ _) hz
theorem qh0 (v:NodeD) (S J Q P I G:Option Addr) (sc ic qc np pc ni xc gc:Nat) (g:List Int) (sd:Int) (w:Zp1) (hk:v.op.kind=9) (hG:Ints iQ w G g) (g1:g.length<=gc) (g2:gc<=9223372036854775807):
  Calls Tryz.prog 29 #[.agg #[nQ iQ v.op.kind,nQ iQ v.op.k,nQ iQ v.op.width,nQ iQ v.op.step,nQ iQ v.op.side,nQ iQ v.op.frm,nQ iQ v.op.to,sQ S v.op.s.length sc,sQ J v.ins.length ic,sQ Q v.p.length qc],sQ P np pc,sQ I ni xc,sQ G g.length gc,nQ iQ sd] w (BackR G [g] [g] w):=by
 obtain ⟨w1,hh,hd,y0,-⟩:=qb6 w v S J Q sc ic qc;have he:=hG.below hd (lrZ _);rw [hk] at y0;clear hk hG;obtain ⟨hb,hf⟩:=zd2 hd he;clear hd he;go_enter Tryz.func29,Tryz.ntmps29;go_upto_region 1 with fail;clear hh;go_wp2_with fail
 go_ret2
 have hl:Later w1 (w1.alloc (.cells #[sQ G g.length gc] 48)):=(Later.refl w1).alloc _;have ha:Later (w1.alloc (.cells #[sQ G g.length gc] 48)) ((w1.alloc (.cells #[sQ G g.length gc] 48)).alloc (.cells #[sQ G g.length gc] 48)):=(Later.refl _).alloc _;have hg:=ha.blk (Blk.new w1 48 #[sQ G g.length gc]);have hc:=Blk.new (w1.alloc (.cells #[sQ G g.length gc] 48)) 48 #[sQ G g.length gc];rw [Zh1] at hc;exact BackR.both 1 1 hb.out.size (Zv hb.out.size (Zy _)) (Shps.one hg (hf.out.below (hl.trans ha) (lrZ _)) g1 g2) (Shps.one hc (hf.out.below (hl.trans ha) (lrZ _)) g1 g2) (hb.out.trans (hl.trans ha)) λz _ hz=>⟨ApC.one hg hz,ApC.one hc hz⟩
theorem Ly.slope_eq {kind k x y g a b:Int} (h:Ly.slope kind k x y g=(a,b)):RowKit.Hid ((a,b)=((Ly.slope kind k x y g).1,(Ly.slope kind k x y g).2)):=zI (h.symm)
theorem r5_slope (kind k x y g:Int) (w:Zp1) (hk:1<=kind/\kind<=7) (ik:Fx.In k) (ix:Fx.In x) (iy:Fx.In y) (ig:Fx.In g):Calls Tryz.prog 59 #[nQ iQ kind,nQ iQ k,nQ iQ x,nQ iQ y,nQ iQ g] w λe w'=>e=.returned (.tuple #[nQ iQ (Ly.slope kind k x y g).1,nQ iQ (Ly.slope kind k x y g).2])/\Below w.heap.size w w':=by
 obtain ⟨HK,HX,HY,HG⟩:=zd4 ik ix iy ig;clear ik ix iy ig;have h7:kind=1∨kind=2∨kind=3∨kind=4∨kind=5∨kind=6∨kind=7:=by omega
 clear hk;rcases h7 with rfl|rfl|rfl|rfl|rfl|rfl|rfl
 ·by_cases h0:0<x
  ·have E:=Ly.slope_eq (show Ly.slope 1 k x y g=(g,0) by rw [Ly.slope1,ipZ h0])
   go_enter Tryz.func59,Tryz.ntmps59;go_wp2_with fail
   go_ret2
   exact ⟨qaa E.out,Ze1 _ _⟩
  ·have E:=Ly.slope_eq (show Ly.slope 1 k x y g=(0,0) by rw [Ly.slope1,inZ h0])
   go_enter Tryz.func59,Tryz.ntmps59;go_wp2_with fail
   go_ret2
   exact ⟨qaa E.out,Ze1 _ _⟩
 ·by_cases h0:0<x
  ·have E:=Ly.slope_eq (show Ly.slope 2 k x y g=(g,0) by rw [Ly.slope2,ipZ h0])
   go_enter Tryz.func59,Tryz.ntmps59;go_wp2_with fail
   go_ret2
   exact ⟨qaa E.out,Ze1 _ _⟩
  ·have E:=Ly.slope_eq (show Ly.slope 2 k x y g=(Fx.mul g k,0) by rw [Ly.slope2,inZ h0])
   go_enter Tryz.func59,Tryz.ntmps59;go_wp2_with fail;refine (qbv g k w HG.out HK.out).mono ?_;rintro e w1 ⟨rfl,h1⟩;have H1:=zI h1;clear h1;go_wp2_with fail
   go_ret2
   exact ⟨qaa E.out,H1.out⟩
 ·by_cases h1:x<=-4294967296
  ·have E:=Ly.slope_eq (show Ly.slope 3 k x y g=(0,0) by rw [Ly.slope3,inZ oZ])
   go_enter Tryz.func59,Tryz.ntmps59;go_wp2_with fail
   go_ret2
   exact ⟨qaa E.out,Ze1 _ _⟩
  ·by_cases h2:4294967296<=x
   ·have E:=Ly.slope_eq (show Ly.slope 3 k x y g=(0,0) by rw [Ly.slope3,inZ oZ])
    go_enter Tryz.func59,Tryz.ntmps59;go_wp2_with fail
    go_ret2
    exact ⟨qaa E.out,Ze1 _ _⟩
   ·have E:=Ly.slope_eq (show Ly.slope 3 k x y g=(g,0) by rw [Ly.slope3,ipZ oZ])
    go_enter Tryz.func59,Tryz.ntmps59;go_wp2_with fail
    go_ret2
    exact ⟨qaa E.out,Ze1 _ _⟩
 ·have HF:=zI (Ly.slope4 k x y g)
  have HM:=zI (Fx.mul_in x 1073741824);unfold Ly.line at HF;go_enter Tryz.func59,Tryz.ntmps59;go_wp2_with fail;refine (qbv x 1073741824 w HX.out (by unfold Fx.In;omega)).mono ?_;rintro e w1 ⟨rfl,h1⟩;have H1:=zI h1;clear h1;generalize Fx.mul x 1073741824=m at *;go_wp2_with fail;refine (qbu m 2147483648 w1 HM.out (by unfold Fx.In;omega)).mono ?_;rintro e w2 ⟨rfl,rfl⟩;generalize Fx.add m 2147483648=v at *
  by_cases h1:v<=0
  ·have E:=Ly.slope_eq (show Ly.slope 4 k x y g=(0,0) by rw [HF.out,inZ oZ])
   clear HF;go_wp2_with fail
   go_ret2
   exact ⟨qaa E.out,H1.out⟩
  ·by_cases h2:4294967296<=v
   ·have E:=Ly.slope_eq (show Ly.slope 4 k x y g=(0,0) by rw [HF.out,inZ oZ])
    clear HF;go_wp2_with fail
    go_ret2
    exact ⟨qaa E.out,H1.out⟩
   ·have E:=Ly.slope_eq (show Ly.slope 4 k x y g=(Fx.mul g 1073741824,0) by rw [HF.out,ipZ oZ])
    clear HF;go_wp2_with fail;refine (qbv g 1073741824 w1 HG.out (by unfold Fx.In;omega)).mono ?_;rintro e w3 ⟨rfl,h3⟩;have H3:=zI (H1.out.trans (h3.mono H1.out.size));clear h3 H1;go_wp2_with fail
    go_ret2
    exact ⟨qaa E.out,H3.out⟩
 ·have E:=Ly.slope_eq (show Ly.slope 5 k x y g=(Fx.mul g k,0) by rw [Ly.slope5])
  go_enter Tryz.func59,Tryz.ntmps59;go_wp2_with fail;refine (qbv g k w HG.out HK.out).mono ?_;rintro e w1 ⟨rfl,h1⟩;have H1:=zI h1;clear h1;go_wp2_with fail
  go_ret2
  exact ⟨qaa E.out,H1.out⟩
 ·have E:=Ly.slope_eq (show Ly.slope 6 k x y g=(g,g) by rw [Ly.slope6])
  go_enter Tryz.func59,Tryz.ntmps59;go_wp2_with fail
  go_ret2
  exact ⟨qaa E.out,Ze1 _ _⟩
 ·have E:=Ly.slope_eq (show Ly.slope 7 k x y g=(Fx.mul g y,Fx.mul g x) by rw [Ly.slope7])
  go_enter Tryz.func59,Tryz.ntmps59;go_wp2_with fail;refine (qbv g y w HG.out HY.out).mono ?_;rintro e w1 ⟨rfl,h1⟩;have H1:=zI h1;clear h1;go_wp2_with fail;refine (qbv g x w1 HG.out HX.out).mono ?_;rintro e w3 ⟨rfl,h3⟩;have H3:=zI (H1.out.trans (h3.mono H1.out.size));clear h3 H1;go_wp2_with fail
  go_ret2
  exact ⟨qaa E.out,H3.out⟩
theorem qem (v:NodeD) (S J Q P I G:Option Addr) (sc ic qc np pc xc gc m:Nat) (is:List (List Int)) (g:List Int) (sd:Int) (w:Zp1) (hk1:1<=v.op.kind) (hk7:v.op.kind<=7) (hkI:Fx.In v.op.k) (hI:Shps w I is) (hi:0<is.length) (hm:m<is.length) (hm1:m+1=is.length) (hil2:is.length<=2)
  (hG:Ints iQ w G g) (hgl:g.length=is[0].length) (hl:is[0].length<=65536) (hlm:is[m].length=is[0].length) (i1:∀z∈is[0],Fx.In z) (i2:∀z∈is[m],Fx.In z) (i3:∀z∈g,Fx.In z):
  Calls Tryz.prog 29 #[.agg #[nQ iQ v.op.kind,nQ iQ v.op.k,nQ iQ v.op.width,nQ iQ v.op.step,nQ iQ v.op.side,nQ iQ v.op.frm,nQ iQ v.op.to,sQ S v.op.s.length sc,sQ J v.ins.length ic,sQ Q v.p.length qc],sQ P np pc,sQ I is.length xc,sQ G g.length gc,nQ iQ sd] w
   (BackR G [] (if is.length=2 then [Ly.tab is[0].length λi=>(Ly.slope v.op.kind v.op.k (Ly.at_ is[0] i) (Ly.at_ is[m] i) (Ly.at_ g i)).1,Ly.tab is[0].length λi=>(Ly.slope v.op.kind v.op.k (Ly.at_ is[0] i) (Ly.at_ is[m] i) (Ly.at_ g i)).2] else [Ly.tab is[0].length λi=>(Ly.slope v.op.kind v.op.k (Ly.at_ is[0] i) (Ly.at_ is[m] i) (Ly.at_ g i)).1]) w):=by
 obtain ⟨i0,Hg,Hq,Hn,h5⟩:=info_parts qaD;obtain ⟨w1,HC,hD,y0,y1,-⟩:=qb6 w v S J Q sc ic qc;obtain ⟨b1,o1,A1,c1,rfl,-,g1,h1,-⟩:=(hI.below hD (lrZ _)) 0 hi;obtain ⟨b2,o2,A2,c2,e,-,g2,h2,-⟩:=(hI.below hD (lrZ _)) m hm;injection e with e;injection e with e3 e4;subst e3 e4
 rw [Zx] at g1;have h7:=hG.below hD (lrZ _);have q1:(0:Int)<(is.length:Int):=by omega
 have q2:iQ.wrap ((is.length:Int)-1)=(m:Int):=by rw [show (is.length:Int)-1=(m:Int) by omega];exact Zc1 _ oZ
 have q3:(m:Int)<(is.length:Int):=by omega
 have q4:(0:Int)<=(m:Int):=by omega
 generalize is[0]=x at *;generalize is[m]=y at *;have hj:(Ly.tab x.length λi=>(Ly.slope v.op.kind v.op.k (Ly.at_ x i) (Ly.at_ y i) (Ly.at_ g i)).1).length=x.length:=Ly.tab_len _ _;have h4:∀i (h:i<(Ly.tab x.length λi=>(Ly.slope v.op.kind v.op.k (Ly.at_ x i) (Ly.at_ y i) (Ly.at_ g i)).1).length),(Ly.tab x.length λi=>(Ly.slope v.op.kind v.op.k (Ly.at_ x i) (Ly.at_ y i) (Ly.at_ g i)).1)[i]=(Ly.slope v.op.kind v.op.k (Ly.at_ x i) (Ly.at_ y i) (Ly.at_ g i)).1:=λi h=>Ly.tab_get h
 have hn:(Ly.tab x.length λi=>(Ly.slope v.op.kind v.op.k (Ly.at_ x i) (Ly.at_ y i) (Ly.at_ g i)).2).length=x.length:=Ly.tab_len _ _;have He:∀i (h:i<(Ly.tab x.length λi=>(Ly.slope v.op.kind v.op.k (Ly.at_ x i) (Ly.at_ y i) (Ly.at_ g i)).2).length),(Ly.tab x.length λi=>(Ly.slope v.op.kind v.op.k (Ly.at_ x i) (Ly.at_ y i) (Ly.at_ g i)).2)[i]=(Ly.slope v.op.kind v.op.k (Ly.at_ x i) (Ly.at_ y i) (Ly.at_ g i)).2:=λi h=>Ly.tab_get h
 generalize (Ly.tab x.length λi=>(Ly.slope v.op.kind v.op.k (Ly.at_ x i) (Ly.at_ y i) (Ly.at_ g i)).1)=RA at *;generalize (Ly.tab x.length λi=>(Ly.slope v.op.kind v.op.k (Ly.at_ x i) (Ly.at_ y i) (Ly.at_ g i)).2)=RB at *;generalize v.op.kind=kd at *;obtain ⟨PL,hPL⟩:∃PL,(if is.length=2 then [RA,RB] else [RA])=PL:=⟨_,rfl⟩
 rw [hPL];generalize v.op.k=kk at *;obtain ⟨Hf,hP,Hi,hO,HK,hM,HE,H1,H2⟩:=zd9 hPL hD hlm hj h4 hn He h1 h2;obtain ⟨Hu,HP,HH,HN,Hr,HQ,HA,h3⟩:=zd8 h7 i1 i2 i3 hkI hm1 hil2 hgl;clear hPL hD hlm hj h4 hn He h1 h2 h7 i1 i2 i3 hkI hm1 hil2 hgl;clear hI hG;go_enter Tryz.func29,Tryz.ntmps29;go_upto_region 1 with fail;clear HC;go_wp2_with fail
 go_loopw [13,14,15] (λa b j wx=>∃k:Nat,k<=x.length/\j=nQ iQ (k:Int)/\wx.ownsRow w1.heap.size 2 1 a k ((RA.take k).map (Za1 iQ))/\wx.ownsRow w1.heap.size 2 1 b k ((RB.take k).map (Za1 iQ))/\(∀q,a.ownBlock=some q->b.ownBlock≠some q)/\Later w1 wx) (λ_ _ j _=>x.length-(intOf j).toNat)
 case atStart=>exact ⟨0,Zt _,rfl,by simpa using World.ownsRow_nil w1 w1.heap.size 2 1,by simpa using World.ownsRow_nil w1 w1.heap.size 2 1,λq e=>by simp [Value.ownBlock] at e,Later.refl _⟩
 obtain ⟨k,hk,rfl,hown,ha,hq,hp⟩:=hrel;obtain ⟨Ao,co,rfl⟩:=qa8 hown;obtain ⟨Bo,do_,rfl⟩:=qa8 ha
 by_cases HL:k<x.length
 ·have hw:k<RA.length:=by have:=hO.out;omega
  have ht:k<RB.length:=by have:=hM.out;omega
  have hv:(RA.take (k+1)).map (Za1 iQ)=(RA.take k).map (Za1 iQ)++[nQ iQ RA[k]]:=by rw [Zb hw,List.map_append,List.map_singleton]
  have hs:(RB.take (k+1)).map (Za1 iQ)=(RB.take k).map (Za1 iQ)++[nQ iQ RB[k]]:=by rw [Zb ht,List.map_append,List.map_singleton]
  rw [HK.out k hw] at hv;rw [HE.out k ht] at hs;obtain ⟨bw,ow,rfl,Ht⟩:=H1.out.spot_ HL;obtain ⟨bx,ox,rfl,HF⟩:=H2.out.spot_ (show k<y.length by have:=Hi.out;omega);obtain ⟨bg,og,rfl,HO⟩:=Hu.out.spot_ (show k<g.length by have:=h3.out;omega);have h9:=λ(V:Zp1)=>r5_slope kd kk (Ly.at_ x k) (Ly.at_ y k) (Ly.at_ g k) V ⟨hk1,hk7⟩ Hr.out (Ly.at_in HP.out k) (Ly.at_in HH.out k) (Ly.at_in HN.out k)
  have j1:(k:Int)<(x.length:Int):=by omega
  have j2:(k:Int)<(y.length:Int):=by have:=Hi.out;omega
  have j3:(k:Int)<(g.length:Int):=by have:=h3.out;omega
  have j4:(0:Int)<=(k:Int):=by omega
  generalize (RA.take k).map (Za1 iQ)=va at *;generalize (RB.take k).map (Za1 iQ)=vb at *;generalize (Ly.slope kd kk (Ly.at_ x k) (Ly.at_ y k) (Ly.at_ g k)).1=s1 at *;generalize (Ly.slope kd kk (Ly.at_ x k) (Ly.at_ y k) (Ly.at_ g k)).2=s2 at *;generalize Ly.at_ x k=a0 at *;generalize Ly.at_ y k=b0 at *;generalize Ly.at_ g k=t0 at *;have Hz:=hp.size;have HB:Below w1.heap.size w1 wr:=hp;clear hw ht;obtain ⟨h0,hV,hT,HM,hg,hc,hJ⟩:=zd7 hv hs hp h9 hown ha hq;clear hv hs hp h9 hown ha hq;go_wp2_with fail;have KF:=zI (show ∀Xw,Later w1 Xw->Xw.cell? ⟨w.heap.size,1,none⟩=some (nQ iQ kk)/\Xw.cell? ⟨b1,o1,none⟩=some (sQ (some ⟨bw,ow,none⟩) x.length c1)/\Xw.cell? ⟨b1,o1+m,none⟩=some (sQ (some ⟨bx,ox,none⟩) y.length c2)/\Xw.cell? ⟨bw,ow+k,none⟩=some (nQ iQ a0)/\Xw.cell? ⟨bx,ox+k,none⟩=some (nQ iQ b0)/\Xw.cell? ⟨bg,og+k,none⟩=some (nQ iQ t0) from λXw h=>⟨h.cell y1,h.cell g1,h.cell g2,h.cell Ht,h.cell HF,h.cell HO⟩);refine Zm1 ?_;refine Zl1 (S:=λXw=>Xw.cell? ⟨w.heap.size,1,none⟩=some (nQ iQ kk)/\Xw.cell? ⟨b1,o1,none⟩=some (sQ (some ⟨bw,ow,none⟩) x.length c1)/\Xw.cell? ⟨b1,o1+m,none⟩=some (sQ (some ⟨bx,ox,none⟩) y.length c2)/\Xw.cell? ⟨bw,ow+k,none⟩=some (nQ iQ a0)/\Xw.cell? ⟨bx,ox+k,none⟩=some (nQ iQ b0)/\Xw.cell? ⟨bg,og+k,none⟩=some (nQ iQ t0)) krZ (KF.out _ Lau) (λhHeld=>?_);refine tk 0 ?_;refine tk 1 ?_;refine tk 2 ?_;refine tk 3 ?_;refine tk 4 ?_;refine tk 5 ?_;refine tk 6 ?_;refine tk 7 ?_;refine tk 8 ?_;refine tk 9 ?_;refine tk 10 ?_;refine tk 11 ?_;refine tk 12 ?_;refine tk 13 ?_;refine tk 14 ?_;refine tk 15 ?_;refine tk 16 ?_;refine tk 17 ?_;refine tk 18 ?_;refine tk 19 ?_;refine tk 20 ?_;refine tk 21 ?_;refine tk 22 ?_;refine rd 23 λK hK=>?_
  simp only [ga,gs,gz]
  go_simp
  go_at_call 59;(with_reducible refine (HM.out _).mono ?_);rintro e wa ⟨rfl,HG⟩;have hx:=(Lau:Later wr wa);have Hy:=hx.size
  try go_wp2_with fail
  refine hK.out _ _ (KF.out _ Lau) (λhHeld=>?_);clear hK K
  try simp only [ga,gs,gz,Act.put,sa,sz,ss]
  refine tk 24 ?_;refine tk 25 ?_;refine tk 26 ?_;refine tk 27 ?_;refine tk 28 ?_;clear KF;refine Zn1 krZ ?_ _;refine Zd1 ?_;have hr:=hT.out.trans hx;have ho:=qa6 (qae hg.out hx) (.cells #[nQ iQ s1] 2);have h6:=qa6 (qae hc.out hx) (.cells #[nQ iQ s1] 2);have hH:=(qae hc.out hx).lt;have hF:=hr.alloc (.cells #[nQ iQ s1] 2);have Hh:=zI (λb (hb:(Zb1 Ao k co).ownBlock=some b)=>(hg.out.lt b hb).1);obtain ⟨Hw,hX,HD,hR⟩:=zd4 h6 hH hr hF;clear h6 hH hr hF;clear HG hx HB;go_wp2_with (at_builtin;refine wpList_append_own_at _ rfl _ _ 48 rfl w1.heap.size 2 i0 (nQ iQ 0) 1 8 Tryz.underlying48 Hg Hq Hn h5 rfl dZ _ _ _ rfl ho ⟨wa.heap.size,0,none⟩ 1 1 [nQ iQ s1] rfl rfl ?c1 (by intro u hu;simp at hu;subst hu;rfl) (by unfold maxLen;omega) oZ ?c2 ?_)
  first|(case c1=>exact qap wa _ _)|skip
  first|(case c2=>simp;omega)|skip
  intro v' w4 hd hgrow _ hL;obtain ⟨A',c',rfl⟩:=qa8 hd;have hQ:Later w1 w4:=Below.grown hR.out hgrow soZ (λb hb=>Hh.out b hb);have Hb:=qb1 Hw.out hgrow (λb hb e=>hJ.out b e hb)
  have Hd:∀q,(Zb1 A' (k+1) c').ownBlock=some q->(Zb1 Bo k do_).ownBlock≠some q:=λq e e2=>by
   have h1:=(hX.out q e2).2;rcases hL with h|h
   ·exact hJ.out q (by rw [←h];exact e) e2
   ·rw [h] at e;injection e with e;first|omega|(rw [Zh1] at e;omega)
  rw [←h0.out] at hd;have HJ:=hQ.size;have Ha:=qa6 hd (.cells #[nQ iQ s2] 2);have Hj:=qa6 Hb (.cells #[nQ iQ s2] 2);have hA:=hd.lt;have hE:=hQ.alloc (.cells #[nQ iQ s2] 2);have hB:=zI (λb (hb:(Zb1 Bo k do_).ownBlock=some b)=>(hc.out.lt b hb).1);obtain ⟨Hx,hY,HR,h8,hZ⟩:=zd5 Ha hA hQ Hd hE;clear Ha hA hQ Hd hE;clear hgrow hL Hh hd Hb ho;go_wp2_with (at_builtin;refine wpList_append_own_at _ rfl _ _ 48 rfl w1.heap.size 2 i0 (nQ iQ 0) 1 8 Tryz.underlying48 Hg Hq Hn h5 rfl dZ _ _ _ rfl Hj ⟨w4.heap.size,0,none⟩ 1 1 [nQ iQ s2] rfl rfl ?c1 (by intro u hu;simp at hu;subst hu;rfl) (by unfold maxLen;omega) oZ ?c2 ?_)
  first|(case c1=>exact qap w4 _ _)|skip
  first|(case c2=>simp;omega)|skip
  intro v2 w5 hf hgrow _ hL;obtain ⟨B',d',rfl⟩:=qa8 hf;have Hc:Later w1 w5:=Below.grown hZ.out hgrow soZ (λb hb=>hB.out b hb);have Hk:=qb1 Hx.out hgrow (λb hb e=>h8.out b hb e)
  have Ho:∀q,(Zb1 A' (k+1) c').ownBlock=some q->(Zb1 B' (k+1) d').ownBlock≠some q:=λq e e2=>by
   have h1:=(hY.out q e).2;rcases hL with h|h
   ·exact h8.out q e (by rw [←h];exact e2)
   ·rw [h] at e2;injection e2 with e2;first|omega|(rw [Zh1] at e2;omega)
  rw [←hV.out] at hf;obtain ⟨Hs,Hv,HI,hC⟩:=zd4 Hc Hk Ho hf;clear Hc Hk Ho hf;clear hgrow hL hB Hj;go_wp2_with fail;go_roundw
  case rel=>exact ⟨k+1,by omega,by go_num,Hv.out,hC.out,HI.out,Hs.out⟩
  case measure=>simp [intOf];omega
 ·obtain rfl:k=x.length:=by omega
  have hj:=hO.out;have hn:=hM.out;rw [List.take_of_length_le oZ] at hown ha;rw [←hj] at hown;rw [←hn] at ha;obtain ⟨r1,r2,r3⟩:=qal hown;obtain ⟨t1,t2,t3⟩:=qal ha;have hN:=hP.out.trans hp;have jg:¬((x.length:Int)<(g.length:Int)):=by have:=h3.out;omega
  rw [show (Zb1 Ao x.length co)=Zb1 Ao RA.length co by rw [hj],show (Zb1 Bo x.length do_)=Zb1 Bo RB.length do_ by rw [hn]]
  by_cases he:is.length=2
  ·have e2:((is.length:Int)==2)=true:=by rw [he];rfl
   obtain ⟨hg,hc,hW,hS,hU,Hm,Hl,Hp,hT⟩:=zd9 hown ha r1 r2 r3 t1 t2 t3 hp;obtain ⟨hO,hM,hy,hh⟩:=zd4 hj hn hN he;clear hown ha r1 r2 r3 t1 t2 t3 hp hj hn hN he;clear hq;go_wp2_with fail
   go_ret2
   have hl:Later wr (wr.alloc (.cells #[sQ Ao RA.length co,sQ Bo RB.length do_] 48)):=(Later.refl wr).alloc _;rw [←Hf.out,ipZ hh.out];exact BackR.one 2 hy.out.size (Shps.two (Blk.new wr _ _) (hW.out.below hl (lrZ _)) hS.out hU.out (Hm.out.below hl (lrZ _)) Hl.out Hp.out) (hy.out.trans hl) λZ hz _=>ApC.two (Blk.new wr _ _) (qb5 (qaM hg.out) (λz h=>ltZ (hz z h) hP.out.size)) (qb5 (qaM hc.out) (λz h=>ltZ (hz z h) hP.out.size))
  ·have e2:((is.length:Int)==2)=false:=by simp;omega
   obtain ⟨hg,hc,hW,hS,hU,Hm,Hl,Hp,hT⟩:=zd9 hown ha r1 r2 r3 t1 t2 t3 hp;obtain ⟨hO,hM,hy,hh⟩:=zd4 hj hn hN he;clear hown ha r1 r2 r3 t1 t2 t3 hp hj hn hN he;clear hq;go_wp2_with fail
   go_ret2
   have hl:Later wr (wr.alloc (.cells #[sQ Ao RA.length co] 48)):=(Later.refl wr).alloc _;rw [←Hf.out,inZ hh.out];exact BackR.one 1 hy.out.size (Shps.one (Blk.new wr _ _) (hW.out.below hl (lrZ _)) hS.out hU.out) (hy.out.trans hl) λZ hz _=>ApC.one (Blk.new wr _ _) (qb5 (qaM hg.out) (λz h=>ltZ (hz z h) hP.out.size))
theorem Blk.newS {w:Zp1} {g:Nat} (t:TypeId) (cs:Array Value) (h:g=w.heap.size):Blk (w.alloc (.cells cs t)) g t cs:=by subst h;exact Blk.new w t cs
theorem qcJ {w wF:Zp1} {A3 A4 G:Option Addr} {c3 c4 gc x y:Nat} {DW DX g:List Int} {T:TypeId} (hl:Later w wF) (x0:w.heap.size<=x) (y0:w.heap.size<=y) (hx:Blk wF x T #[sQ A3 DW.length c3,sQ G g.length gc]) (hy:Blk wF y T #[sQ A4 DX.length c4])
  (hW:Ints iQ wF A3 DW) (w1:DW.length<=c3) (w2:c3<=9223372036854775807) (hG:Ints iQ wF G g) (g1:g.length<=gc) (g2:gc<=9223372036854775807) (hX:Ints iQ wF A4 DX) (x1:DX.length<=c4) (x2:c4<=9223372036854775807) (f3:∀a,A3=some a->w.heap.size<=a.block) (f4:∀a,A4=some a->w.heap.size<=a.block):
  BackR G [DW,g] [DX] w (.returned (.tuple #[sQ (some ⟨x,0,none⟩) 2 2,sQ (some ⟨y,0,none⟩) 1 1])) wF:=
 BackR.both 2 1 x0 y0 (Shps.two hx hW w1 w2 hG g1 g2) (Shps.one hy hX x1 x2) hl λz hz hg=>⟨ApC.two hx (qb5 f3 hz) hg,ApC.one hy (qb5 f4 hz)⟩
theorem qh1 (v:NodeD) (S J Q P I G:Option Addr) (sc ic qc pc xc gc:Nat) (ps is:List (List Int)) (g:List Int) (sd:Int) (w:Zp1) (hk:v.op.kind=8) (hP:Shps w P ps) (hI:Shps w I is) (hp:0<ps.length) (hi:0<is.length)
  (hG:Ints iQ w G g) (gl1:g.length<=gc) (gl2:gc<=9223372036854775807) (hw:ps[0].length=g.length*is[0].length) (hwl:ps[0].length<=65536) (hml:g.length<=65536) (hxl:is[0].length<=65536) (i1:∀z∈is[0],Fx.In z) (i2:∀z∈ps[0],Fx.In z) (i3:∀z∈g,Fx.In z):
  Calls Tryz.prog 29 #[.agg #[nQ iQ v.op.kind,nQ iQ v.op.k,nQ iQ v.op.width,nQ iQ v.op.step,nQ iQ v.op.side,nQ iQ v.op.frm,nQ iQ v.op.to,sQ S v.op.s.length sc,sQ J v.ins.length ic,sQ Q v.p.length qc],sQ P ps.length pc,sQ I is.length xc,sQ G g.length gc,nQ iQ sd] w (BackR G [Ly.denseW g is[0],g] [Ly.tab is[0].length λj=>Ly.colX ps[0] g is[0].length j g.length] w):=by
 obtain ⟨w1,ho,hb,y0,-⟩:=qb6 w v S J Q sc ic qc;obtain ⟨b1,o1,A1,c1,rfl,-,g1,h1,-⟩:=(hI.below hb (lrZ _)) 0 hi;obtain ⟨b2,o2,A2,c2,rfl,-,g2,h2,-⟩:=(hP.below hb (lrZ _)) 0 hp;rw [Zx] at g1 g2;have hd:=hG.below hb (lrZ _);have q1:(0:Int)<(is.length:Int):=by omega
 have q2:(0:Int)<(ps.length:Int):=by omega
 generalize is[0]=x at *;generalize ps[0]=p at *;have hj:=λ(V:Zp1) (hV:Later w1 V)=>r6_backW G A1 gc c1 g x V hml hxl oZ (hd.below hV (lrZ _)) (h1.below hV (lrZ _)) i3 i1
 have hh:=λ(V:Zp1) (hV:Later w1 V)=>r6_backX A2 G c2 gc x.length p g V hw hwl hml hxl (h2.below hV (lrZ _)) (hd.below hV (lrZ _)) i2 i3
 generalize Ly.denseW g x=DW at *;generalize (Ly.tab x.length λj=>Ly.colX p g x.length j g.length)=DX at *;rw [hk] at y0;clear hk;obtain ⟨hn,hl,ha,Hw,hf⟩:=zd5 hj hh hb hw hd;clear hj hh hb hw hd;clear hP hI hG h1 h2 i1 i2 i3;go_enter Tryz.func29,Tryz.ntmps29;go_upto_region 1 with fail;clear ho;go_wp2_with fail;have KF:=zI (show ∀Xw,Later w1 Xw->Xw.cell? ⟨b1,o1,none⟩=some (sQ A1 x.length c1)/\Xw.cell? ⟨b2,o2,none⟩=some (sQ A2 p.length c2) from λXw h=>⟨h.cell g1,h.cell g2⟩);refine Zm1 ?_;refine Zl1 (S:=λXw=>Xw.cell? ⟨b1,o1,none⟩=some (sQ A1 x.length c1)/\Xw.cell? ⟨b2,o2,none⟩=some (sQ A2 p.length c2)) krZ (KF.out _ Lau) (λhHeld=>?_);refine tk 0 ?_;refine tk 1 ?_;refine tk 2 ?_;refine tk 3 ?_;refine tk 5 ?_;refine tk 7 ?_;refine tk 8 ?_;refine tk 9 ?_;refine tk 10 ?_;refine tk 11 ?_;refine tk 12 ?_;refine tk 13 ?_;refine tk 14 ?_;refine rd 4 λK hK=>?_
 simp only [ga,gs,gz]
 go_simp
 go_at_call 60;(with_reducible refine (hn.out _ (Lau:Later w1 _)).mono ?_);rintro e wa ⟨A3,c3,rfl,hg,r31,r32,hm,fr3⟩;have hr:Below _ _ wa:=hm
 try go_wp2_with fail
 refine hK.out _ _ (KF.out _ Lau) (λhHeld=>?_);clear hK K
 try simp only [ga,gs,gz,Act.put,sa,sz,ss]
 refine Zo1 (rs:=[6,15]) krZ sZ ?_;refine Zf1 (o:=_) rfl (λK hK=>?_) (Zf1 (o:=_) rfl (λK hK=>?_) (Zg1))
 ·simp only [ga,gs,gz]
  go_simp
  refine hK.out _ _ (KF.out _ Lau) (λhHeld=>?_);clear hK K
  try simp only [ga,gs,gz,Act.put,sa,sz,ss]
  refine rd 15 λK hK=>?_
  simp only [ga,gs,gz]
  go_simp
  go_at_call 61;(with_reducible refine (hl.out _ (Lau:Later w1 _)).mono ?_);rintro e wb ⟨A4,c4,rfl,hc,r41,r42,he,fr4⟩;have hq:Below _ _ wb:=he
  try go_wp2_with fail
  refine hK.out _ _ (KF.out _ Lau) (λhHeld=>?_);clear hK K
  try simp only [ga,gs,gz,Act.put,sa,sz,ss]
  refine tk 17 ?_;refine rd 16 λK hK=>?_
  simp only [ga,gs,gz]
  go_simp
  refine hK.out _ _ (KF.out _ Lau) (λhHeld=>?_);clear hK K
  try simp only [ga,gs,gz,Act.put,sa,sz,ss]
  refine tk 18 ?_;clear KF;refine Zn1 krZ ?_ _;refine Zd1 ?_;go_wp2_with fail
  go_ret2
  have s0:=ha.out.size;have s1:=(show Later w1 wa from Lau).size;have s2:=(show Later w1 wb from Lau).size;exact qcJ (ha.out.trans Lau) oZ oZ (Later.blk (show Later (wa.alloc (.cells #[sQ A3 DW.length c3,sQ G g.length gc] 48)) _ from Lau) (Blk.new wa _ _)) (Blk.new wb _ _) (hg.below (Lau:Later wa _) (lrZ _)) r31 r32 (hf.out.below (Lau:Later w1 _) (lrZ _)) gl1 gl2 (hc.below (Lau:Later wb _) (lrZ _)) r41 r42 (λa e=>by have:=fr3 a e;(try simp at this);omega) (λa e=>by have:=fr4 a e;(try simp at this);omega)
 ·simp only [ga,gs,gz]
  go_simp
  go_at_call 61;(with_reducible refine (hl.out _ (Lau:Later w1 _)).mono ?_);rintro e wb ⟨A4,c4,rfl,hc,r41,r42,he,fr4⟩;have hq:Below _ _ wb:=he
  try go_wp2_with fail
  refine hK.out _ _ (KF.out _ Lau) (λhHeld=>?_);clear hK K
  try simp only [ga,gs,gz,Act.put,sa,sz,ss]
  refine Zo1 (rs:=[6,16]) krZ sZ ?_;refine Zf1 (o:=_) rfl (λK hK=>?_) (Zf1 (o:=_) rfl (λK hK=>?_) (Zg1))
  ·simp only [ga,gs,gz]
   go_simp
   refine hK.out _ _ (KF.out _ Lau) (λhHeld=>?_);clear hK K
   try simp only [ga,gs,gz,Act.put,sa,sz,ss]
   refine tk 17 ?_;refine rd 16 λK hK=>?_
   simp only [ga,gs,gz]
   go_simp
   refine hK.out _ _ (KF.out _ Lau) (λhHeld=>?_);clear hK K
   try simp only [ga,gs,gz,Act.put,sa,sz,ss]
   refine tk 18 ?_;clear KF;refine Zn1 krZ ?_ _;refine Zd1 ?_;go_wp2_with fail
   go_ret2
   have s0:=ha.out.size;have s1:=(show Later w1 wa from Lau).size;have s2:=(show Later w1 wb from Lau).size;exact qcJ (ha.out.trans Lau) oZ oZ (Later.blk (show Later (wb.alloc (.cells #[sQ A3 DW.length c3,sQ G g.length gc] 48)) _ from Lau) (Blk.new wb _ _)) (Blk.newS _ _ (by rw [Zh1])) (hg.below (Lau:Later wa _) (lrZ _)) r31 r32 (hf.out.below (Lau:Later w1 _) (lrZ _)) gl1 gl2 (hc.below (Lau:Later wb _) (lrZ _)) r41 r42 (λa e=>by have:=fr3 a e;(try simp at this);omega) (λa e=>by have:=fr4 a e;(try simp at this);omega)
  ·simp only [ga,gs,gz]
   go_simp
   refine hK.out _ _ (KF.out _ Lau) (λhHeld=>?_);clear hK K
   try simp only [ga,gs,gz,Act.put,sa,sz,ss]
   refine rd 6 λK hK=>?_
   simp only [ga,gs,gz]
   go_simp
   refine hK.out _ _ (KF.out _ Lau) (λhHeld=>?_);clear hK K
   try simp only [ga,gs,gz,Act.put,sa,sz,ss]
   refine tk 17 ?_;refine tk 18 ?_;clear KF;refine Zn1 krZ ?_ _;refine Zd1 ?_;go_wp2_with fail
   go_ret2
   have s0:=ha.out.size;have s1:=(show Later w1 wa from Lau).size;have s2:=(show Later w1 wb from Lau).size;exact qcJ (ha.out.trans Lau) oZ oZ (Blk.newS _ _ (by rw [Zh1])) (Later.blk (show Later (wb.alloc (.cells #[sQ A4 DX.length c4] 48)) _ from Lau) (Blk.new wb _ _)) (hg.below (Lau:Later wa _) (lrZ _)) r31 r32 (hf.out.below (Lau:Later w1 _) (lrZ _)) gl1 gl2 (hc.below (Lau:Later wb _) (lrZ _)) r41 r42 (λa e=>by have:=fr3 a e;(try simp at this);omega) (λa e=>by have:=fr4 a e;(try simp at this);omega)
theorem qh2 (top:Bool) (v:NodeD) (S J Q P I G:Option Addr) (sc ic qc np pc xc gc:Nat) (is:List (List Int)) (g:List Int) (sd n wd st pre:Nat) (w:Zp1) (hk:v.op.kind=if top=true then 11 else 12) (hwd:v.op.width=(wd:Int)) (hst:v.op.step=(st:Int)) (l1:1<=wd) (l2:wd<=1024) (s1:1<=st) (s2:st<=1024) (d1:1<=sd) (n1:1<=n)
  (hn:∀k,k*st+wd<=sd↔k<n) (hI:Shps w I is) (hi:0<is.length) (hG:Ints iQ w G g) (hgc:g.length<=gc) (hl:is[0].length=pre*sd) (hgl:g.length=pre*n) (hp1:1<=pre) (hll:is[0].length<=65536) (hpn:pre*n<=65536) (i1:∀z∈is[0],Fx.In z) (i2:∀z∈g,Fx.In z):
  Calls Tryz.prog 29 #[.agg #[nQ iQ v.op.kind,nQ iQ v.op.k,nQ iQ v.op.width,nQ iQ v.op.step,nQ iQ v.op.side,nQ iQ v.op.frm,nQ iQ v.op.to,sQ S v.op.s.length sc,sQ J v.ins.length ic,sQ Q v.p.length qc],sQ P np pc,sQ I is.length xc,sQ G g.length gc,nQ iQ (sd:Int)] w (BackR G [] [(List.range pre).flatMap λr=>Ly.backRow top is[0] g sd n wd st r] w):=by
 obtain ⟨i0,Hh,Hv,Hq,hY⟩:=info_parts qaD;obtain ⟨w1,Hg,hq,y0,-,y2,y3,-⟩:=qb6 w v S J Q sc ic qc;obtain ⟨b1,o1,A1,c1,rfl,-,g1,h1,z1,z2⟩:=(hI.below hq (lrZ _)) 0 hi;rw [Zx] at g1;have hx:=hG.below hq (lrZ _);have q1:(0:Int)<(is.length:Int):=by omega
 generalize is[0]=x at *;have ho:∀r,r<pre->(Ly.backRow top x g sd n wd st r).length=sd:=λr hr=>by unfold Ly.backRow;rw [Ly.poolX_long,Ly.row_len hl hr]
 obtain ⟨F,hF,hF0,hFs,hg⟩:∃F:Nat->List Int,(∀k,((List.range k).flatMap λr=>Ly.backRow top x g sd n wd st r)=F k)/\F 0=[]/\(∀k,F (k+1)=F k++Ly.backRow top x g sd n wd st k)/\∀k,k<=pre->(F k).length=k*sd:=by
  have hs:∀k,((List.range (k+1)).flatMap λr=>Ly.backRow top x g sd n wd st r)=((List.range k).flatMap λr=>Ly.backRow top x g sd n wd st r)++Ly.backRow top x g sd n wd st k:=λk=>by rw [List.range_succ,Zj];simp
  refine ⟨λk=>(List.range k).flatMap λr=>Ly.backRow top x g sd n wd st r,λ_=>rfl,rfl,hs,λk hk=>?_⟩
  induction k with
  | zero=>simp
  | succ k ih=>show (List.flatMap _ (List.range (k+1))).length=_;rw [hs,Ze,ho k oZ,Zu];congr 1;exact ih oZ
 rw [hF]
 have hc:∀(V:Zp1) (c' d' k:Nat) (kd:Int),k<pre->(kd=if top=true then 1 else 2)->Later w1 V->∀b o b' o',A1=some ⟨b,o,none⟩->G=some ⟨b',o',none⟩->
   Calls Tryz.prog 62 #[nQ iQ kd,sQ (some ⟨b,o+k*sd,none⟩) sd c',sQ (some ⟨b',o'+k*n,none⟩) n d',nQ iQ (wd:Int),nQ iQ (st:Int)] V λe w'=>∃b2 o2 c2,e=.returned (sQ (some ⟨b2,o2,none⟩) sd c2)/\Later V w'/\(∀j u,((Ly.backRow top x g sd n wd st k).map (Za1 iQ))[j]? = some u->w'.cell? (Addr.add ⟨b2,o2,none⟩ j)=some u):=λV c' d' k kd hv hB hV b o b' o' e e'=>by
  subst e e';have hQ:=Ly.row_len hl hv;have hT:=Ly.row_len hgl hv;have hM:=ho k hv;unfold Ly.backRow at hM ⊢;have:=r8_back (some ⟨b,o+k*sd,none⟩) (some ⟨b',o'+k*n,none⟩) c' d' n wd st top kd (Ly.rowOf x sd k) (Ly.rowOf g n k) V hB (by have:sd<=pre*sd:=Nat.le_mul_of_pos_left _ oZ;omega) l1 l2 s1 s2 (by rw [hQ];exact hn) hT ((h1.below hV (lrZ _)).piece _ _) ((hx.below hV (lrZ _)).piece _ _) (Ly.row_in i1) (Ly.row_in i2);rw [hQ,hT] at this;refine this.mono ?_;rintro e w' ⟨A,c,rfl,hR,-,-,hh⟩;obtain ⟨b2,o2,rfl,-,ht⟩:=hR.lies_ oZ;exact ⟨b2,o2,c,by rw [hM],hh,ht⟩
 rw [hwd] at y2;rw [hst] at y3
 have hW:∀k,k<pre->∃b o b' o',A1=some ⟨b,o,none⟩/\G=some ⟨b',o',none⟩:=λk hv=>by
  obtain ⟨b,o,e,-⟩:=h1 0 (by rw [hl];exact Nat.mul_pos oZ d1);obtain ⟨b',o',e',-⟩:=hx 0 (by rw [hgl];exact Nat.mul_pos oZ n1);exact ⟨b,o,b',o',e,e'⟩
 have he:∃fr:Nat->List Int,∀k,Ly.backRow top x g sd n wd st k=fr k:=⟨λk=>Ly.backRow top x g sd n wd st k,λ_=>rfl⟩
 obtain ⟨fr,he⟩:=he;simp only [he] at hc ho hFs;have e1:(x.length:Int) / (sd:Int)=(pre:Int):=by rw [hl,Int.natCast_mul];exact Int.mul_ediv_cancel _ oZ
 have e2:(g.length:Int) / (pre:Int)=(n:Int):=by rw [hgl,Int.natCast_mul];exact Int.mul_ediv_cancel_left _ oZ
 have e3:(x.length:Int).tdiv (sd:Int)=(pre:Int):=by rw [Int.tdiv_eq_ediv_of_nonneg oZ];exact e1
 have e4:(g.length:Int).tdiv (pre:Int)=(n:Int):=by rw [Int.tdiv_eq_ediv_of_nonneg oZ];exact e2
 have Hy:pre<=65536:=by have:=Nat.le_mul_of_pos_right pre n1;omega
 have Hx:n<=65536:=by have:=Nat.le_mul_of_pos_left n hp1;omega
 have Hw:sd<=65536:=by have:=Nat.le_mul_of_pos_left sd hp1;omega
 have e5:(1:Int)<=(sd:Int):=by omega
 have e6:(1:Int)<=(pre:Int):=by omega
 have e7:(pre:Int)<=65536:=by omega
 have e8:(n:Int)<=65536:=by omega
 have e9:(sd:Int)≠0:=by omega
 have e10:(pre:Int)≠0:=by omega
 obtain ⟨Hc,hU,Hl,hp,Hi,Hn,hE,Hr,Hp⟩:=zd9 hc hq hl hgl hF0 hFs hg hW ho;clear hc hq hl hgl hF0 hFs hg hW ho;clear hI h1 i1 i2 hn hF he hwd hst hG hx;cases top
 all_goals
  simp at hk;rw [hk] at y0;clear hk;go_enter Tryz.func29,Tryz.ntmps29;go_upto_region 1 with fail;clear Hg;go_wp2_with fail
  go_loopw [20,21] (λo j wx=>∃k:Nat,k<=pre/\j=nQ iQ (k:Int)/\wx.ownsRow w1.heap.size 2 1 o (k*sd) ((F k).map (Za1 iQ))/\Later w1 wx) (λ_ j _=>pre-(intOf j).toNat)
  case atStart=>exact ⟨0,Zt _,rfl,by simpa [Hi.out] using World.ownsRow_nil w1 w1.heap.size 2 1,Later.refl _⟩
  obtain ⟨k,hk,rfl,hown,hd⟩:=hrel;obtain ⟨Ao,co,rfl⟩:=qa8 hown;have d1':=hd.cell g1;have d2:=hd.cell y2;have d3:=hd.cell y3
  by_cases hm:k<pre
  ·obtain ⟨bx,ox,bg,og,rfl,rfl⟩:=Hr.out k hm
   have h8:k*sd+sd<=x.length:=by rw [Hl.out,←Zu];exact mlZ _ hm
   have h5:k*n+n<=g.length:=by rw [hp.out,←Zu];exact mlZ _ hm
   have hw:=λV c' d' kd hB hV=>Hc.out V c' d' k kd hm hB hV bx ox bg og rfl rfl
   have hN:(F (k+1)).map (Za1 iQ)=(F k).map (Za1 iQ)++(fr k).map (Za1 iQ):=by rw [Hn.out,List.map_append]
   have hP:((fr k).map (Za1 iQ)).length=sd:=by rw [List.length_map];exact Hp.out k hm
   have hL:∀u∈(fr k).map (Za1 iQ),u.oneCell'=true:=λu hu=>by
    obtain ⟨z,-,rfl⟩:=List.mem_map.1 hu
    rfl
   generalize (F k).map (Za1 iQ)=vs at *;generalize (fr k).map (Za1 iQ)=ns at *;obtain ⟨A,hA⟩:∃A:Nat,A=k*sd:=⟨_,rfl⟩
   obtain ⟨KK,hK⟩:∃KK:Nat,KK=k*n:=⟨_,rfl⟩
   have Hm:=zI (show (k+1)*sd=A+sd by rw [hA];exact Zu _ _);have m1:(k:Int)*(sd:Int)=(A:Int):=by rw [hA,Int.natCast_mul]
   have m2:((k:Int)+1)*(sd:Int)=(A:Int)+(sd:Int):=by rw [Int.add_mul,m1,Int.one_mul]
   have m3:(k:Int)*(n:Int)=(KK:Int):=by rw [hK,Int.natCast_mul]
   have m4:((k:Int)+1)*(n:Int)=(KK:Int)+(n:Int):=by rw [Int.add_mul,m3,Int.one_mul]
   rw [←hA] at h8 hw hown ⊢;rw [←hK] at h5 hw;have HA:=zI hA;have j1:(k:Int)<(pre:Int):=by omega
   have j2:(0:Int)<=(A:Int):=by omega
   have j3:(A:Int)<=65536:=by omega
   have j4:(A:Int)+(sd:Int)<=65536:=by omega
   have j5:(A:Int)+(sd:Int)<=(c1:Int):=by omega
   have j6:(0:Int)<=(A:Int)+(sd:Int):=by omega
   have j7:((A:Int)+(sd:Int)).toNat=A+sd:=by omega
   have j8:A<c1:=by omega
   have j9:A+sd<=c1:=by omega
   have jx:¬c1=A:=by omega
   have ja:(A:Int)<=(A:Int)+(sd:Int):=by omega
   have jw:iQ.wrap (A:Int)=(A:Int):=Zc1 _ oZ;have uw:iQ.wrap (KK:Int)=(KK:Int):=Zc1 _ (by have:=hp.out;omega);have jb:iQ.wrap ((A:Int)+(sd:Int))=(A:Int)+(sd:Int):=Zc1 _ oZ;have u2:(0:Int)<=(KK:Int):=by omega
   have u3:(KK:Int)<=65536:=by have:=hp.out;omega
   have u4:(KK:Int)+(n:Int)<=65536:=by have:=hp.out;omega
   have u5:(KK:Int)+(n:Int)<=(gc:Int):=by omega
   have u6:(0:Int)<=(KK:Int)+(n:Int):=by omega
   have u7:((KK:Int)+(n:Int)).toNat=KK+n:=by omega
   have u8:KK<gc:=by omega
   have u9:KK+n<=gc:=by omega
   have ux:¬gc=KK:=by omega
   have ua:(KK:Int)<=(KK:Int)+(n:Int):=by omega
   have ub:iQ.wrap ((KK:Int)+(n:Int))=(KK:Int)+(n:Int):=Zc1 _ (by have:=hp.out;omega);have uc:iQ.wrap ((k:Int)+1)=(k:Int)+1:=Zc1 _ oZ;have hH:=λ(ρ:Operand->Value) (W:Zp1) (o:Oper) (z lo hi:Operand) (h1:o.op=.slice 48 z (some lo) (some hi) none) (h2:ρ z=sQ (some ⟨bx,ox,none⟩) x.length c1) (h3:ρ lo=nQ iQ (A:Int)) (h4:ρ hi=nQ iQ ((A:Int)+(sd:Int)))=>qb4 (P:=Tryz.prog) (w:=W) h1 Tryz.underlying48 krZ h2 h3 h4 oZ j8
   have hD:=λ(ρ:Operand->Value) (W:Zp1) (o:Oper) (z lo hi:Operand) (h1:o.op=.slice 48 z (some lo) (some hi) none) (h2:ρ z=sQ (some ⟨bg,og,none⟩) g.length gc) (h3:ρ lo=nQ iQ (KK:Int)) (h4:ρ hi=nQ iQ ((KK:Int)+(n:Int)))=>qb4 (P:=Tryz.prog) (w:=W) h1 Tryz.underlying48 krZ h2 h3 h4 oZ u8
   have Hb:=hd.size;have Hf:Below w1.heap.size w1 wr:=hd;clear hA hK;obtain ⟨h9,hJ,h7,hf,hZ,He,Hu,h0⟩:=zd8 hN hd hw hown hP hL hH hD;clear hN hd hw hown hP hL hH hD;go_wp2_with fail;have KF:=zI (show ∀Xw,Later w1 Xw->Xw.cell? ⟨b1,o1,none⟩=some (sQ (some ⟨bx,ox,none⟩) x.length c1)/\Xw.cell? ⟨w.heap.size,2,none⟩=some (nQ iQ (wd:Int))/\Xw.cell? ⟨w.heap.size,3,none⟩=some (nQ iQ (st:Int)) from λXw h=>⟨h.cell g1,h.cell y2,h.cell y3⟩);refine Zm1 ?_;refine Zl1 (S:=λXw=>Xw.cell? ⟨b1,o1,none⟩=some (sQ (some ⟨bx,ox,none⟩) x.length c1)/\Xw.cell? ⟨w.heap.size,2,none⟩=some (nQ iQ (wd:Int))/\Xw.cell? ⟨w.heap.size,3,none⟩=some (nQ iQ (st:Int))) krZ (KF.out _ Lau) (λhHeld=>?_);refine tk 0 ?_;refine tk 1 ?_;refine tk 2 ?_;refine tk 3 ?_;refine tk 4 ?_;refine tk 5 ?_;refine tk 6 ?_;refine tk 7 ?_;refine tk 8 ?_;refine tk 9 ?_;refine tk 10 ?_;refine tk 11 ?_;refine tk 12 ?_;refine tk 13 ?_ (hy:=λW _=>Hu.out _ _ _ _ _ _ rfl rfl rfl rfl)
   try simp only [ga,gs,gz,Act.put,sa,sz,ss]
   refine tk 14 ?_;refine tk 15 ?_;refine tk 16 ?_;refine tk 17 ?_;refine tk 18 ?_;refine tk 19 ?_;refine tk 20 ?_;refine tk 21 ?_;refine tk 22 ?_ (hy:=λW _=>h0.out _ _ _ _ _ _ rfl rfl rfl rfl)
   try simp only [ga,gs,gz,Act.put,sa,sz,ss]
   refine tk 23 ?_;refine tk 24 ?_;refine tk 25 ?_;refine tk 26 ?_;refine tk 27 ?_;refine tk 28 ?_;refine rd 29 λK hK=>?_
   simp only [ga,gs,gz]
   go_simp
   go_at_call 62;(with_reducible refine (h7.out _ _ _ _ dZ (Lau:Later w1 _)).mono ?_);rintro e wa ⟨b2,o2,c2,rfl,hS,ht⟩;have Hk:Below _ _ wa:=hS;have hh:=(Lau:Later wr wa);have Ha:=hh.size
   try go_wp2_with fail
   refine hK.out _ _ (KF.out _ Lau) (λhHeld=>?_);clear hK K
   try simp only [ga,gs,gz,Act.put,sa,sz,ss]
   refine rd 30 λK hK=>?_
   refine step_append_lies _ (by rfl) _ _ 48 (by rfl) w1.heap.size 2 i0 (nQ iQ 0) 1 8 Tryz.underlying48 Hh Hv Hq hY rfl oZ (sQ Ao A co) A vs (by rfl) (qae hf.out hh) ⟨b2,o2,none⟩ sd c2 ns (by rfl) (by rw [hZ.out,Nat.mul_one]) ht He.out oZ (by unfold maxLen;omega) oZ oZ wa.heap.size rfl ?_;intro gg cap w4 ha hgrow Ht Hs;have hX:Below w1.heap.size w1 w4:=Below.grown (hJ.out.trans hh) hgrow oZ (λb hb=>(hf.out.lt b hb).1);refine hK.out _ _ (KF.out _ Lau) (λhHeld=>?_);clear hK K
   try simp only [ga,gs,gz,Act.put,sa,sz,ss]
   refine tk 31 ?_;clear KF;refine Zn1 krZ ?_ _;refine Zd1 ?_;rw [←h9.out] at ha;obtain ⟨hj,Hd⟩:=zd2 ha hX;clear ha hX;clear hgrow Ht Hk hh hS ht Hf;go_wp2_with fail;go_roundw
   case rel=>exact ⟨k+1,by omega,by go_num,by rw [Hm.out];exact hj.out,Hd.out⟩
   case measure=>simp [intOf];omega
  ·obtain rfl:k=pre:=by omega
   have hg:=hE.out k (lrZ _);rw [←hg] at hown;obtain ⟨r1,r2,r3⟩:=qal hown;have hO:=hU.out.trans hd;rw [show (Zb1 Ao (k*sd) co)=Zb1 Ao (F k).length co by rw [hg]];obtain ⟨hf,Ho,h6,Hj,hJ,hE,hC⟩:=zd7 hown r1 r2 r3 hd hg hO;clear hown r1 r2 r3 hd hg hO;go_wp2_with fail
   go_ret2
   have hl:Later wr (wr.alloc (.cells #[sQ Ao (F k).length co] 48)):=(Later.refl wr).alloc _;exact BackR.one 1 hC.out.size (Shps.one (Blk.new wr _ _) (Ho.out.below hl (lrZ _)) h6.out Hj.out) (hC.out.trans hl) λZ hz _=>ApC.one (Blk.new wr _ _) (qb5 (qaM hf.out) (λz h=>ltZ (hz z h) hU.out.size))
theorem BackR.of {pa pb qa qb:List (List Int)} {w:Zp1} {P:Program} {f:Nat} {args:Array Value} {G:Option Addr} (h:Calls P f args w (BackR G pa pb w)) (h1:pa=qa) (h2:pb=qb):Calls P f args w (BackR G qa qb w):=by subst h1 h2;exact h
theorem r14_node {v:NodeD} (S J Q P I:Option Addr) (sc ic qc pc xc:Nat) {p x:List Ten} {y:Ten} (w:Zp1) (hf:Ly.Form v.op p x y) (hp:∀t∈p,Tn.right t=true) (hx:∀t∈x,Tn.right t=true) (ip:∀t∈p,Ly.In t) (ix:∀t∈x,Ly.In t) (hkI:Fx.In v.op.k) (hP:Shps w P (p.map Ten.c)) (hI:Shps w I (x.map Ten.c)):
  Calls Tryz.prog 27 #[.agg #[nQ iQ v.op.kind,nQ iQ v.op.k,nQ iQ v.op.width,nQ iQ v.op.step,nQ iQ v.op.side,nQ iQ v.op.frm,nQ iQ v.op.to,sQ S v.op.s.length sc,sQ J v.ins.length ic,sQ Q v.p.length qc],sQ P p.length pc,sQ I x.length xc,nQ iQ (Ly.lastOf (Ly.got x 0).s:Nat)] w (NewR y.c w):=by
 cases hf with
 | @one t y h1 h5 hy hb=>
  have t1:=Ly.right_long (hx t sZ);rw [hy];exact qel v S J Q P I sc ic qc pc xc 0 [] [t.c] _ w h1 oZ hkI hI sZ sZ sZ t1.2 rfl (ix t sZ) (ix t sZ) sZ
 | @two t u y h6 h7 hl hy hb=>
  have t1:=Ly.right_long (hx t sZ);rw [hy];exact qel v S J Q P I sc ic qc pc xc 1 [] [t.c,u.c] _ w oZ h7 hkI hI sZ sZ sZ t1.2 hl (ix t sZ) (ix u sZ) sZ
 | @dense a b t y h8 hw hy hb=>
  rw [hy];exact qgX v S J Q P I sc ic qc pc xc [a.c,b.c] [t.c] _ w h8 hP hI sZ sZ hw (Ly.right_long (hp a sZ)).2 (Ly.right_long (hp b sZ)).2 (Ly.right_long (hx t sZ)).2 (ix t sZ) (ip a sZ) (ip b sZ)
 | @bias b t y h9 hl hy hb=>
  rw [hy];exact qgW v S J Q P I sc ic qc pc xc [b.c] [t.c] _ w h9 hP hI sZ sZ (Ly.right_long (hx t sZ)).2 hl (ix t sZ) (ip b sZ)
 | @pool t y top sd n wd st pre hk hwd hst w1 w2 s1 s2 d1 n1 hn hl hsd hy hyl hb=>
  have t1:=(Ly.right_long (hx t sZ)).2;rw [hy,show Ly.lastOf (Ly.got [t] 0).s=sd from hsd];exact qgZ top v S J Q P I sc ic qc 0 pc xc [t.c] sd n wd st pre w hk hwd hst w1 w2 s1 s2 d1 n1 hn hI sZ hl t1 hyl (ix t sZ)
 | @turn t y h15 hy hb=>
  rw [hy];exact qfJ v S J Q P I sc ic qc pc xc [] [t.c] _ w h15 hI sZ
theorem r14_back {v:NodeD} (S J Q P I G:Option Addr) (sc ic qc pc xc gc:Nat) {p x:List Ten} {y g:Ten} (w:Zp1) (hf:Ly.Form v.op p x y) (hg:Tn.right g=true) (hs:g.s=y.s) (ig:Ly.In g) (hp:∀t∈p,Tn.right t=true) (hx:∀t∈x,Tn.right t=true) (ip:∀t∈p,Ly.In t) (ix:∀t∈x,Ly.In t) (hkI:Fx.In v.op.k) (hP:Shps w P (p.map Ten.c)) (hI:Shps w I (x.map Ten.c))
  (hG:Ints iQ w G g.c) (g1:g.c.length<=gc) (g2:gc<=9223372036854775807):
  Calls Tryz.prog 29 #[.agg #[nQ iQ v.op.kind,nQ iQ v.op.k,nQ iQ v.op.width,nQ iQ v.op.step,nQ iQ v.op.side,nQ iQ v.op.frm,nQ iQ v.op.to,sQ S v.op.s.length sc,sQ J v.ins.length ic,sQ Q v.p.length qc],sQ P p.length pc,sQ I x.length xc,sQ G g.c.length gc,nQ iQ (Ly.lastOf (Ly.got x 0).s:Nat)] w (BackR G ((Ly.back v.op p x g).1.p.map Ten.c) ((Ly.back v.op p x g).1.x.map Ten.c) w):=by
 have gl:=Ly.right_long hg;cases hf with
 | @one t y h1 h5 hy hb=>
  have t1:=Ly.right_long (hx t sZ);obtain ⟨e1,e2⟩:=hb g hg hs;rw [e2];exact qem v S J Q P I G sc ic qc 0 pc xc gc 0 [t.c] g.c _ w h1 oZ hkI hI sZ sZ sZ sZ hG e1 t1.2 rfl (ix t sZ) (ix t sZ) ig
 | @two t u y h6 h7 hl hy hb=>
  have t1:=Ly.right_long (hx t sZ);obtain ⟨e1,e2⟩:=hb g hg hs;rw [e2];exact qem v S J Q P I G sc ic qc 0 pc xc gc 1 [t.c,u.c] g.c _ w oZ h7 hkI hI sZ sZ sZ sZ hG e1 t1.2 hl (ix t sZ) (ix u sZ) ig
 | @dense a b t y h8 hw hy hb=>
  obtain ⟨e1,e2⟩:=hb g hg hs;rw [e2];refine BackR.of (qh1 v S J Q P I G sc ic qc pc xc gc [a.c,b.c] [t.c] g.c _ w h8 hP hI sZ sZ hG g1 g2 (by rw [e1];exact hw) (Ly.right_long (hp a sZ)).2 gl.2 (Ly.right_long (hx t sZ)).2 (ix t sZ) (ip a sZ) ig) rfl ?_
  show [_]=[_]
  rw [Ly.denseX_col]
  rfl
 | @bias b t y h9 hl hy hb=>
  rw [hb g hg hs];exact qh0 v S J Q P I G sc ic qc 1 pc 1 xc gc g.c _ w h9 hG g1 g2
 | @pool t y top sd n wd st pre hk hwd hst w1 w2 s1 s2 d1 n1 hn hl hsd hy hyl hb=>
  have t1:=Ly.right_long (hx t sZ);obtain ⟨e1,e2⟩:=hb g hg hs;rw [e2,show Ly.lastOf (Ly.got [t] 0).s=sd from hsd];refine qh2 top v S J Q P I G sc ic qc 0 pc xc gc [t.c] g.c sd n wd st pre w hk hwd hst w1 w2 s1 s2 d1 n1 hn hI sZ hG g1 hl e1 ?_ t1.2 hyl (ix t sZ) ig;rcases Nat.eq_zero_or_pos pre with h0|h0
  ·rw [h0,Nat.zero_mul] at hl;omega
  ·exact h0
 | @turn t y h15 hy hb=>
  rw [hb g hg hs];exact qfK v S J Q P I G sc ic qc 0 pc 1 xc gc g.c _ w h15 hG g1 g2
theorem Ly.Form.few {o:OpD} {p x:List Ten} {y:Ten} (h:Ly.Form o p x y):x.length<=2:=by cases h<;>simp
namespace Pn
theorem form_at {n:NetD} {ps vals:List Ten} (hR:Ready n ps vals) {id:Int} (h1:1<=id) (h2:id<=n.nodes.length):
  Ly.Form (Nt.node n.nodes id).op (parts n ps id) (pickT vals (Nt.node n.nodes id).ins) (Ly.got vals id.toNat)/\(∀t∈parts n ps id,Tn.right t=true)/\(parts n ps id).length=(Nt.node n.nodes id).p.length/\(∀t∈pickT vals (Nt.node n.nodes id).ins,Tn.right t=true)/\(∀i∈(Nt.node n.nodes id).ins,0<=i/\i<=n.nodes.length)/\0<(Nt.node n.nodes id).ins.length:=by
 obtain ⟨c1,c2,c3,c4,c5,c6,c7,c8⟩:=Nt.check_ok hR.chk;obtain ⟨hk,he⟩:=Nt.node_in ⟨h1,h2⟩;have hd:∀i∈(Nt.node n.nodes id).ins,0<=i/\i<=n.nodes.length:=by rw [he];exact (Nt.bads_all c4 _ (gmZ hk)).2
 obtain ⟨p1,p2,p3⟩:=qc2 hR.pm hR.pr h1 h2
 have hb:∀t∈pickT vals (Nt.node n.nodes id).ins,Tn.right t=true:=λt ht=>by
  obtain ⟨i,hi,rfl⟩:=List.mem_map.1 ht;have:=hd i hi;exact hR.all _ (by rw [hR.len];omega)
 have ha:Ly.go _ _ _=_:=hR.step id h1 h2;have hc:=Ly.go_counts ha;rw [Ly.go_lay hc] at ha;refine ⟨Ly.form_of (hR.kn id h1 h2) hc p2 hb ha,p2,p3,hb,hd,?_⟩;obtain ⟨q1,q2,-,-⟩:=Ly.counts_ok hc;have:=Od.least_pos q1;have hl:(pickT vals (Nt.node n.nodes id).ins).length=(Nt.node n.nodes id).ins.length:=by simp [pickT]
 omega
theorem qh3 {n:NetD} {ps vals:List Ten} (hR:Ready n ps vals) (h0:Ly.In (Ly.got vals 0)):∀k,k<=(Nt.sorted n.nodes).length->∀i:Int,i=0∨i∈(Nt.sorted n.nodes).take k->Ly.In (Ly.got vals i.toNat)
 | 0,_,i,hi=>by
  rcases hi with rfl|hi
  ·exact h0
  ·simp at hi
 | k+1,hk,i,hi=>by
  have ih:=qh3 hR h0 k oZ;rcases hi with hi|hi
  ·exact ih i (.inl hi)
  ·rw [Zb oZ] at hi
   rcases List.mem_append.1 hi with hi|hi
   ·exact ih i (.inr hi)
   ·simp at hi
    have hb:Nt.sorted n.nodes=(Nt.sorted n.nodes).take k++(Nt.sorted n.nodes)[k]::(Nt.sorted n.nodes).drop (k+1):=by rw [←Zd oZ,Zn]
    have ha:∀j∈Nt.insF n.nodes (Nt.sorted n.nodes)[k],j=0∨j∈(Nt.sorted n.nodes).take k:=Kn.order_behind _ _ hb;have hr:1<=(Nt.sorted n.nodes)[k]/\(Nt.sorted n.nodes)[k]<=n.nodes.length:=Kn.order_rng (Nt.insF n.nodes) n.nodes.length _ (gmZ (show k<(Nt.sorted n.nodes).length by omega));rw [←hi] at ha hr;obtain ⟨hf,-,-,-,-,-⟩:=form_at hR hr.1 hr.2;refine hf.in_ λt ht=>?_
    obtain ⟨j,hj,rfl⟩:=List.mem_map.1 ht;exact ih j (ha j hj)
theorem vals_all {n:NetD} {ps vals:List Ten} (hR:Ready n ps vals) (h0:Ly.In (Ly.got vals 0)) {i:Int} (h1:0<=i) (h2:i<=n.nodes.length):Ly.In (Ly.got vals i.toNat):=by
 obtain ⟨c1,c2,c3,c4,c5,c6,c7,c8⟩:=Nt.check_ok hR.chk;refine qh3 hR h0 _ (lrZ _) i ?_;rw [Zg]
 by_cases h:i=0
 ·exact .inl h
 ·exact .inr ((Kn.order_full c5 i).2 ⟨by omega,h2⟩)
theorem back_at {n:NetD} {ps vals gr pg:List Ten} (hR:Ready n ps vals) {a b:List Int} {u:Int} (hs:Nt.sorted n.nodes=a++u::b) (h:Back n ps vals b gr pg):
  Good vals (Ly.got gr u.toNat) u.toNat/\(∀j,j<(Nt.node n.nodes u).ins.length->Good vals (Ly.got (bk n ps vals gr u).1.x j) ((Nt.node n.nodes u).ins.getD j 0).toNat)/\∀j,j<(Nt.node n.nodes u).p.length->0<(Ly.got (bk n ps vals gr u).1.p j).c.length:=by
 have hf:∀v∈Nt.sorted n.nodes,1<=v/\v<=n.nodes.length:=Kn.order_rng _ _;have he:(Nt.sorted n.nodes).Nodup:=(Kn.go_ok _ _ _).nodup;have hu:=hf u (by rw [hs];simp);obtain ⟨-,p2,-,ha,-,-⟩:=form_at hR hu.1 hu.2
 have hd:Good vals (Ly.got gr u.toNat) u.toNat:=by
  refine h.used u oZ ?_
  by_cases hi:u=Nt.loss n.nodes
  ·exact .inl hi
  ·obtain ⟨v,hv,hz⟩:=qeb hR.chk oZ hu.2 hi
   refine .inr ⟨v,?_,hz⟩;rw [hs] at hv he;rw [List.nodup_append] at he;obtain ⟨-,hl,hb⟩:=he;have hn:u∉b:=(List.nodup_cons.1 hl).1;rcases List.mem_append.1 hv with hv|hv
   ·exfalso
    obtain ⟨a1,a2,ea⟩:=List.append_of_mem hv
    have hk:Kn.order (Nt.insF n.nodes) n.nodes.length=a1++v::(a2++u::b):=by
     show Nt.sorted n.nodes=_
     rw [hs,ea];simp
    rcases Kn.order_behind _ _ hk u hz with h4|h4
    ·omega
    ·exact hb u (by rw [ea];simp [h4]) u sZ rfl
   ·rcases List.mem_cons.1 hv with hv|hv
    ·exfalso
     subst hv;rcases Kn.order_behind _ _ (show Kn.order (Nt.insF n.nodes) n.nodes.length=a++v::b from hs) v hz with h4|h4
     ·omega
     ·exact hb v h4 v sZ rfl
    ·exact hv
 obtain ⟨-,bp,bx⟩:=Ly.back_like (hR.kn u hu.1 hu.2) p2 ha (hR.step u hu.1 hu.2) hd.1 hd.2;have hc:Ly.Like (bk n ps vals gr u).1.x (pickT vals (Nt.node n.nodes u).ins):=bx;have hm:(bk n ps vals gr u).1.x.length=(Nt.node n.nodes u).ins.length:=by rw [hc.len];simp [pickT]
 refine ⟨hd,λj hj=>?_,λj hj=>?_⟩
 rotate_left
 ·have hh:Ly.Like (bk n ps vals gr u).1.p (parts n ps u):=bp
  have h1:=(form_at hR hu.1 hu.2).2.2.1;have h2:=hh.len;have h3:j<(bk n ps vals gr u).1.p.length:=by omega
  rw [qaj h3];exact Nat.pos_of_ne_zero (right_pos (hh.2 _ (gmZ h3)))
 have hg:j<(bk n ps vals gr u).1.x.length:=by omega
 refine ⟨by rw [qaj hg];exact hc.2 _ (gmZ hg),?_⟩;rw [←got_s,hc.1,got_s]
 congr 1
 rw [qaj (by simpa [pickT] using hj)];simp [pickT,gdZ,geZ hj]
theorem add_first {g m:Ten} (h:g.c=[]):add g m=m:=by unfold add;rw [ipZ (by simp [h])]
theorem add_more {vals:List Ten} {g m:Ten} {i:Nat} (hg:Part vals g i) (hm:Good vals m i) (h:g.c≠[]):(add g m).c=Ly.sumC g.c m.c/\m.c.length=g.c.length/\g.c.length<=65536:=by
 rcases hg with hg|hg
 ·exact absurd (congrArg Ten.c hg) h
 ·have ha:Ly.alike g m=true:=by simp [Ly.alike,hg.1,hm.1,hg.2,hm.2]
  unfold add;rw [inZ (by intro e;exact h (List.eq_nil_of_length_eq_zero e)),Ly.add_ok ha];exact ⟨rfl,Ly.right_same hm.1 hg.1 (hm.2.trans hg.2.symm),(Ly.right_long hg.1).2⟩
theorem add_in {g m:Ten} (hg:Ly.In g) (hm:Ly.In m):Ly.In (add g m):=by
 unfold add
 split
 ·exact hm
 ·split
  ·intro z hz
   unfold Ly.add at hz
   split at hz
   ·exact Ly.tab_in (λ_ _=>Fx.add_in _ _) z hz
   ·simp [Ly.none_] at hz
  ·exact hg
theorem got_in {l:List Ten} (h:∀t∈l,Ly.In t) (i:Nat):Ly.In (Ly.got l i):=by
 rcases Nat.lt_or_ge i l.length with hi|hi
 ·rw [qaj hi];exact h _ (gmZ hi)
 ·rw [got_out hi];intro z hz;simp [Ly.none_] at hz
theorem addN_in {ins:List Int} {bx:List Ten} (hb:∀t∈bx,Ly.In t) {gr:List Ten} (hg:∀i,Ly.In (Ly.got gr i)):∀k i,Ly.In (Ly.got (addN gr ins bx k) i)
 | 0,i=>hg i
 | k+1,i=>by
  have ih:=addN_in (ins:=ins) hb hg k;unfold addN
  by_cases e:i=(ins.getD k 0).toNat
  ·subst e
   rcases Nat.lt_or_ge (ins.getD k 0).toNat (addN gr ins bx k).length with hl|hl
   ·rw [qaZ hl];exact add_in (ih _) (got_in hb k)
   ·rw [List.set_eq_of_length_le hl];exact ih _
  ·rw [qaH (Ne.symm e)];exact ih i
theorem startG_in {n:NetD} {vals:List Ten}:∀i,Ly.In (Ly.got (startG n vals) i):=λi=>by
 unfold startG;refine got_in (λt ht=>?_) i;rcases List.mem_or_eq_of_mem_set ht with h|h
 ·rw [(List.mem_replicate.1 h).2];intro z hz;simp [Ly.none_] at hz
 ·subst h
  intro z hz;have:=(List.mem_replicate.1 hz).2;subst this;unfold Fx.In;omega
theorem splice_next {pg bp:List Ten} {fr k:Nat} (hk:k<bp.length) (hf:fr+bp.length<=pg.length):splice pg fr (bp.take (k+1))=(splice pg fr (bp.take k)).set (fr+k) (Ly.got bp k):=by
 rw [Zb hk,←qfd _ _ _ _ (by rw [Zo];omega),Zo,Nat.min_eq_left oZ,qaj hk]
end Pn
theorem got_c (l:List Ten) (i:Nat):(l.map Ten.c).getD i []=(Ly.got l i).c:=by
 unfold Ly.got;simp only [gdZ,List.getElem?_map];cases l[i]?<;>rfl
theorem pick_c (vals:List Ten) (ins:List Int):Nt.pick (vals.map Ten.c) ins=(Pn.pickT vals ins).map Ten.c:=by
 unfold Nt.pick Pn.pickT;rw [List.map_map];exact List.map_congr_left λi _=>got_c vals i.toNat
theorem qbi {l:List Ten} {j:Nat} (hj:j<(l.map Ten.c).length):(l.map Ten.c)[j]=(Ly.got l j).c:=by
 rw [List.getElem_map,qaj (by simpa using hj)]
theorem Shps.slot {w:Zp1} {A:Option Addr} {ls:List (List Int)} {p:Addr} {v:Value} (h:Shps w A ls) (hp:w.cell? p=some v) (hv:∀z,v≠nQ iQ z) (hA:∀a,A=some a->a.block≠p.block) (u:Value):Shps (w.setCell p u) A ls:=λj hj=>by
 obtain ⟨b,off,S,c,e,hl,hc,hI,h2⟩:=h j hj;exact ⟨b,off,S,c,e,by simpa using hl,(Zi1 (w:=w) (a:=⟨b,off+j,none⟩) (Below.heap_setCell w p u b (hA _ e))).trans hc,hI.slot hp hv u,h2⟩
theorem ShpRow.slot {w:Zp1} {g:Nat} {t:TypeId} {ls:List (List Int)} {p:Addr} {v:Value} (h:ShpRow w g t ls) (hp:w.cell? p=some v) (hv:∀z,v≠nQ iQ z) (hg:g≠p.block) (u:Value):ShpRow (w.setCell p u) g t ls:=by
 obtain ⟨vs,hl,hk,h2⟩:=h;refine ⟨vs,hl,hk.far hg u,λj hj=>?_⟩;obtain ⟨S,c,e,hI,h3⟩:=h2 j hj;exact ⟨S,c,e,hI.slot hp hv u,h3⟩
def NilC (w:Zp1) (g:Nat) (ls:List (List Int)):Prop:=∀j (hj:j<ls.length),ls[j]=[]->w.cell? ⟨g,j,none⟩=some (sQ none 0 0)
theorem NilC.later {w w':Zp1} {g:Nat} {ls:List (List Int)} (h:NilC w g ls) (hl:Later w w'):NilC w' g ls:=λj hj e=>hl.cell (h j hj e)
theorem NilC.far {w:Zp1} {g:Nat} {ls:List (List Int)} {p:Addr} (h:NilC w g ls) (hg:g≠p.block) (u:Value):NilC (w.setCell p u) g ls:=λj hj e=>(Zi1 (w:=w) (a:=⟨g,j,none⟩) (Below.heap_setCell w p u g hg)).trans (h j hj e)
theorem NilC.set_ {w:Zp1} {g i:Nat} {ls:List (List Int)} {s:List Int} (h:NilC w g ls) (hs:s≠[]) (u:Value):NilC (w.setCell ⟨g,i,none⟩ u) g (ls.set i s):=λj hj e=>by
 rw [List.length_set] at hj
 by_cases e2:i=j
 ·subst e2;rw [List.getElem_set_self] at e;exact absurd e hs
 ·rw [List.getElem_set_ne e2] at e
  rw [World.cell?_setCell_other]
  ·exact h j hj e
  ·intro e3;injection e3 with _ e3;first|exact e2 e3|exact e2 e3.symm
theorem qcK {w:Zp1} {P:Option Addr} {ps:List Ten} {cp fr m:Nat} (hP:Shps w P (ps.map Ten.c)) (kP:ps.length<=cp) (h:fr+m<=ps.length):
  Shps w (if cp=fr then P else P.map λa=>a.add fr) (((ps.drop fr).take m).map Ten.c):=by
 rcases Nat.eq_zero_or_pos m with he|he
 ·subst he
  rw [List.take_zero];exact Shps.nil
 ·rw [inZ oZ]
  intro j hj;have ha:j<m:=by simp at hj;omega
  obtain ⟨b,off,S,c,e,hl,hc,hI,h2⟩:=hP (fr+j) (by rw [List.length_map];omega);have e2:(((ps.drop fr).take m).map Ten.c)[j]=(ps.map Ten.c)[fr+j]'(by rw [List.length_map];omega):=by simp
  rw [e2];exact ⟨b,off+fr,S,c,by rw [e];simp [Addr.add],hl,by rw [Nat.add_assoc];exact hc,hI,h2⟩
def RunR (l:Int) (gs:List (List Int)) (xs:List Int) (w:Zp1) (e:Ending) (w':Zp1):Prop:=
 ∃GB C cd,e=.returned (.agg #[nQ iQ l,sQ (some ⟨GB,0,none⟩) gs.length gs.length,sQ C xs.length cd])/\Shps w' (some ⟨GB,0,none⟩) gs/\Ints iQ w' C xs/\xs.length<=cd/\cd<=9223372036854775807/\(w.heap.size<=GB/\ApC (λz=>z<w.heap.size) w' (some ⟨GB,0,none⟩) gs.length/\∀a,C=some a->w.heap.size<=a.block)/\Later w w'
theorem ApC.later {z:Nat->Prop} {w w':Zp1} {g n:Nat} (h:ApC z w (some ⟨g,0,none⟩) n) (hl:Later w w') (hg:g<w.heap.size):ApC z w' (some ⟨g,0,none⟩) n:=λj hj b off S m c e hc=>by
 refine h j hj b off S m c e ?_;injection e with e;injection e with e1 e2;subst e1 e2
 rw [←hc];exact (Zi1 (w:=w) (a:=⟨g,0+j,none⟩) (hl.block g hg)).symm
theorem ApC.far {z:Nat->Prop} {w:Zp1} {g n:Nat} {p:Addr} (h:ApC z w (some ⟨g,0,none⟩) n) (hg:g≠p.block) (u:Value):ApC z (w.setCell p u) (some ⟨g,0,none⟩) n:=λj hj b off S m c e hc=>by
 refine h j hj b off S m c e ?_;injection e with e;injection e with e1 e2;subst e1 e2
 rw [←hc];exact (Zi1 (w:=w) (a:=⟨g,0+j,none⟩) (Below.heap_setCell w p u g hg)).symm
theorem ApC.set_ {z:Nat->Prop} {w:Zp1} {g n i k c0:Nat} {T:TypeId} {cs:Array Value} {A:Option Addr} (h:ApC z w (some ⟨g,0,none⟩) n) (hb:Blk w g T cs) (hA:∀a,A=some a->¬z a.block):ApC z (w.setCell ⟨g,i,none⟩ (sQ A k c0)) (some ⟨g,0,none⟩) n:=λj hj b off S m c e hc=>by
 injection e with e;injection e with e1 e2;subst e1 e2
 have ha:=hb.set_ i (sQ A k c0);rw [ha.cell,Zw] at hc
 by_cases ij:i=j
 ·subst ij
  rw [Array.getElem?_setIfInBounds] at hc;simp at hc;obtain ⟨-,hc,-,-⟩:=hc;subst hc;exact hA
 ·rw [Array.getElem?_setIfInBounds_ne ij] at hc
  refine h j hj g 0 S m c rfl ?_;rw [hb.cell,Zw];exact hc
theorem ApC.nils {z:Nat->Prop} {w:Zp1} {g n:Nat} (h:∀j,j<n->w.cell? ⟨g,j,none⟩=some (sQ none 0 0)):ApC z w (some ⟨g,0,none⟩) n:=λj hj b off S m c e hc=>by
 injection e with e;injection e with e1 e2;subst e1 e2
 rw [Zw,h j hj] at hc;injection hc with hc;injection hc with hc
 intro a ha;rw [←hc] at ha;simp at ha
theorem ApC.slot {z:Nat->Prop} {w:Zp1} {A:Option Addr} {n:Nat} {p:Addr} (h:ApC z w A n) (hA:∀a,A=some a->a.block≠p.block) (u:Value):ApC z (w.setCell p u) A n:=λj hj b off S m c e hc=>by
 refine h j hj b off S m c e ?_;rw [←hc];exact (Zi1 (w:=w) (a:=⟨b,off+j,none⟩) (Below.heap_setCell w p u b (hA _ e))).symm
def Bs (z:Nat->Prop) (w:Zp1) (PA XA:Option Addr) (pa xa:List (List Int)) (nb:Nat) (v8:Value):Prop:=Shps w PA pa/\Shps w XA xa/\ApC z w PA pa.length/\ApC z w XA xa.length/\w.cell? ⟨nb,8,none⟩=some v8
theorem Bs.slot {z:Nat->Prop} {w:Zp1} {PA XA:Option Addr} {pa xa:List (List Int)} {nb:Nat} {v8:Value} {p:Addr} {v:Value} (h:Bs z w PA XA pa xa nb v8) (hp:w.cell? p=some v) (hv:∀z,v≠nQ iQ z) (h1:∀a,PA=some a->a.block≠p.block) (h2:∀a,XA=some a->a.block≠p.block) (h3:nb≠p.block) (u:Value):Bs z (w.setCell p u) PA XA pa xa nb v8:=
 ⟨h.1.slot hp hv h1 u,h.2.1.slot hp hv h2 u,h.2.2.1.slot h1 u,h.2.2.2.1.slot h2 u,(Zi1 (w:=w) (a:=⟨nb,8,none⟩) (Below.heap_setCell w p u nb h3)).trans h.2.2.2.2⟩
theorem Bs.later {z:Nat->Prop} {w w':Zp1} {PA XA:Option Addr} {pa xa:List (List Int)} {nb:Nat} {v8:Value} (h:Bs z w PA XA pa xa nb v8) (hl:Later w w'):Bs z w' PA XA pa xa nb v8:=by
 refine ⟨h.1.below hl (lrZ _),h.2.1.below hl (lrZ _),?_,?_,hl.cell h.2.2.2.2⟩
 ·intro j hj b off S m c e hc
  refine h.2.2.1 j hj b off S m c e ?_;obtain ⟨b2,o2,S2,c2,e2,hb,-⟩:=h.1 j hj;rw [e] at e2;injection e2 with e2;injection e2 with e3 e4;subst e3 e4
  rw [←hc];exact (Zi1 (w:=w) (a:=⟨b,off+j,none⟩) (hl.block b hb)).symm
 ·intro j hj b off S m c e hc
  refine h.2.2.2.1 j hj b off S m c e ?_;obtain ⟨b2,o2,S2,c2,e2,hb,-⟩:=h.2.1 j hj;rw [e] at e2;injection e2 with e2;injection e2 with e3 e4;subst e3 e4
  rw [←hc];exact (Zi1 (w:=w) (a:=⟨b,off+j,none⟩) (hl.block b hb)).symm
theorem Shps.apart {z:Nat->Prop} {w:Zp1} {A:Option Addr} {ls:List (List Int)} (h:Shps w A ls) (ha:ApC z w A ls.length) {j:Nat} (hj:j<ls.length):∃b off S c,A=some ⟨b,off,none⟩/\w.cell? ⟨b,off+j,none⟩=some (sQ S ls[j].length c)/\Ints iQ w S ls[j]/\ls[j].length<=c/\c<=9223372036854775807/\∀a,S=some a->¬z a.block:=by
 obtain ⟨b,off,S,c,e,-,hc,hI,h1,h2⟩:=h j hj;exact ⟨b,off,S,c,e,hc,hI,h1,h2,ha j hj b off S _ c e hc⟩
theorem ApC.low {w:Zp1} {A:Option Addr} {n B:Nat} (h:ApC (λz=>z<=B+1) w A n):ApC (λz=>z<B) w A n:=λj hj b off S m c e hc a ha h2=>h j hj b off S m c e hc a ha (Nat.le_succ_of_le (Nat.le_of_lt h2))
theorem ap_low {S:Option Addr} {B:Nat} (h:∀a,S=some a->¬a.block<=B+1):∀a,S=some a->B<=a.block:=λa e=>by have:=h a e;omega
structure Rs (z:Nat->Prop) (gb ob qb:Nat) (l:Int) (w:Zp1) (gr pg:List (List Int)):Prop where
 g:ShpRow w gb 48 gr
 nil:NilC w gb gr
 o:ShpRow w ob 48 pg
 q:Blk w qb 51 #[nQ iQ l,sQ (some ⟨ob,0,none⟩) pg.length pg.length,sQ none 0 0]
 ga:ApC z w (some ⟨gb,0,none⟩) gr.length
 oa:ApC z w (some ⟨ob,0,none⟩) pg.length
 go:gb≠ob
 gq:gb≠qb
 qo:qb≠ob
section
variable {z:Nat->Prop} {gb ob qb:Nat} {l:Int} {w:Zp1} {gr pg:List (List Int)}
theorem Rs.later {w':Zp1} (h:Rs z gb ob qb l w gr pg) (hl:Later w w'):Rs z gb ob qb l w' gr pg:=
 ⟨h.g.below hl (lrZ _),h.nil.later hl,h.o.below hl (lrZ _),hl.blk h.q,h.ga.later hl h.g.lt,h.oa.later hl h.o.lt,h.go,h.gq,h.qo⟩
theorem Rs.getg (h:Rs z gb ob qb l w gr pg) {j:Nat} (hj:j<gr.length):∃S c,w.cell? ⟨gb,j,none⟩=some (sQ S gr[j].length c)/\Ints iQ w S gr[j]/\gr[j].length<=c/\c<=9223372036854775807/\(∀a,S=some a->¬z a.block)/\w.frozen? ⟨gb,j,none⟩=false/\(gr[j]=[]->S=none):=by
 obtain ⟨S,c,hc,hI,h1,h2,-⟩:=h.g.at_ hj;refine ⟨S,c,hc,hI,h1,h2,h.ga j hj gb 0 S _ c rfl (by rw [Zw];exact hc),by obtain ⟨vs,_,hk,_⟩:=h.g;exact hk.frozen j,λe=>?_⟩;have:=h.nil j hj e;rw [hc] at this;injection this with this;injection this
theorem Rs.geto (h:Rs z gb ob qb l w gr pg) {j:Nat} (hj:j<pg.length):∃v,w.cell? ⟨ob,j,none⟩=some v/\w.frozen? ⟨ob,j,none⟩=false:=by
 obtain ⟨S,c,hc,-⟩:=h.o.at_ hj;exact ⟨_,hc,by obtain ⟨vs,_,hk,_⟩:=h.o;exact hk.frozen j⟩
theorem Rs.setg (h:Rs z gb ob qb l w gr pg) {i c:Nat} {S:Option Addr} {s:List Int} (hi:i<gr.length) (hI:Ints iQ w S s) (h1:s.length<=c) (h2:c<=9223372036854775807) (hs:0<s.length) (ha:∀a,S=some a->¬z a.block):Rs z gb ob qb l (w.setCell ⟨gb,i,none⟩ (sQ S s.length c)) (gr.set i s) pg:=by
 obtain ⟨S0,c0,hc,-⟩:=h.g.at_ hi;obtain ⟨vs,hb,hk,hv⟩:=h.g;exact ⟨ShpRow.set_ h.g hI h1 h2 (h.g.apart hI hs),h.nil.set_ (by intro e;rw [e] at hs;simp at hs) _,h.o.slot hc sZ (λe=>h.go e.symm) _,h.q.far (p:=⟨gb,i,none⟩) (λe=>h.gq e.symm) _,by rw [List.length_set];exact h.ga.set_ hk ha,h.oa.far (p:=⟨gb,i,none⟩) (λe=>h.go e.symm) _,h.go,h.gq,h.qo⟩
theorem Rs.seto (h:Rs z gb ob qb l w gr pg) {i c:Nat} {S:Option Addr} {s:List Int} (hi:i<pg.length) (hI:Ints iQ w S s) (h1:s.length<=c) (h2:c<=9223372036854775807) (hs:0<s.length) (ha:∀a,S=some a->¬z a.block):Rs z gb ob qb l (w.setCell ⟨ob,i,none⟩ (sQ S s.length c)) gr (pg.set i s):=by
 obtain ⟨S0,c0,hc,-⟩:=h.o.at_ hi;obtain ⟨vs,hb,hk,hv⟩:=h.o;exact ⟨h.g.slot hc sZ h.go _,h.nil.far (p:=⟨ob,i,none⟩) h.go _,ShpRow.set_ h.o hI h1 h2 (h.o.apart hI hs),by rw [List.length_set];exact h.q.far (p:=⟨ob,i,none⟩) h.qo _,h.ga.far (p:=⟨ob,i,none⟩) h.go _,by rw [List.length_set];exact h.oa.set_ hk ha,h.go,h.gq,h.qo⟩
theorem Rs.start {m:Nat} (h:ShpRow w gb 48 gr) (hn:NilC w gb gr) (ho:Blk w ob 48 (Zc m (Zb1 none 0 0)).toArray) (hq:Blk w qb 51 #[nQ iQ l,sQ (some ⟨ob,0,none⟩) m m,sQ none 0 0]) (hga:ApC z w (some ⟨gb,0,none⟩) gr.length) (h1:gb≠ob) (h2:gb≠qb) (h3:qb≠ob):
  Rs z gb ob qb l w gr ((Zc m Ly.none_).map Ten.c):=by
 rw [List.map_replicate];exact ⟨h,hn,ShpRow.new ho,by rw [List.length_replicate];exact hq,hga,ApC.nils λj hj=>by rw [ho.cell,Zk,List.getElem?_replicate,ipZ (by simpa using hj)],h1,h2,h3⟩
theorem Rs.fin (h:Rs z gb ob qb l w gr pg) {zb:Nat} (hzb:z zb) (h1:zb≠ob) (u a b c:Value) {S:Option Addr} {s:List Int} (hI:Ints iQ w S s) (hS:∀a,S=some a->¬z a.block):
  Shps ((((w.setCell ⟨qb,2,none⟩ u).setCell ⟨zb,0,none⟩ a).setCell ⟨zb,1,none⟩ b).setCell ⟨zb,2,none⟩ c) (some ⟨ob,0,none⟩) pg/\Ints iQ ((((w.setCell ⟨qb,2,none⟩ u).setCell ⟨zb,0,none⟩ a).setCell ⟨zb,1,none⟩ b).setCell ⟨zb,2,none⟩ c) S s/\
   ApC z ((((w.setCell ⟨qb,2,none⟩ u).setCell ⟨zb,0,none⟩ a).setCell ⟨zb,1,none⟩ b).setCell ⟨zb,2,none⟩ c) (some ⟨ob,0,none⟩) pg.length:=by
 have q2:w.cell? ⟨qb,2,none⟩=some (sQ none 0 0):=by rw [h.q.cell];rfl
 have key:∀ {S:Option Addr} {s:List Int},Ints iQ w S s->(∀a,S=some a->¬z a.block)->Ints iQ ((((w.setCell ⟨qb,2,none⟩ u).setCell ⟨zb,0,none⟩ a).setCell ⟨zb,1,none⟩ b).setCell ⟨zb,2,none⟩ c) S s:=λhI hS=>(((hI.slot q2 sZ u).set_far (p:=⟨zb,0,none⟩) (λa e h=>hS a e (h▸hzb)) a).set_far (p:=⟨zb,1,none⟩) (λa e h=>hS a e (h▸hzb)) b).set_far (p:=⟨zb,2,none⟩) (λa e h=>hS a e (h▸hzb)) c
 refine ⟨λj hj=>?_,key hI hS,(((h.oa.far (p:=⟨qb,2,none⟩) (λe=>h.qo e.symm) u).far (p:=⟨zb,0,none⟩) (λe=>h1 e.symm) a).far (p:=⟨zb,1,none⟩) (λe=>h1 e.symm) b).far (p:=⟨zb,2,none⟩) (λe=>h1 e.symm) c⟩;obtain ⟨b0,off,S',c',e,hl,hc,hb,h2⟩:=h.o.shps j hj;have ha:=h.oa j hj b0 off S' _ c' e hc;injection e with e;injection e with e1 e2;subst e1 e2
 refine ⟨ob,0,S',c',rfl,by simpa using hl,?_,key hb ha,h2⟩;rw [Zi1 (Below.heap_setCell _ ⟨zb,2,none⟩ c ob (λe=>h1 e.symm)),Zi1 (Below.heap_setCell _ ⟨zb,1,none⟩ b ob (λe=>h1 e.symm)),Zi1 (Below.heap_setCell _ ⟨zb,0,none⟩ a ob (λe=>h1 e.symm)),Zi1 (Below.heap_setCell _ ⟨qb,2,none⟩ u ob (λe=>h.qo e.symm))];exact hc
end
def RnCut (w0:Zp1) (z:Int) (m:Nat) (a:Value) (wx:Zp1):Prop:=
 ∃qb ob,a=.pointer (some ⟨qb,0,none⟩)/\w0.heap.size<=qb/\w0.heap.size<=ob/\qb≠ob/\Blk wx qb 51 #[nQ iQ z,sQ (some ⟨ob,0,none⟩) m m,sQ none 0 0]/\Blk wx ob 48 (Zc m (Zb1 none 0 0)).toArray/\Later w0 wx
def RkCut (z:Nat->Prop) (gb ob:Nat) (wb:Zp1) (pa xa:List (List Int)) (nb:Nat) (v8 a b:Value) (wx:Zp1):Prop:=
 ∃PA ca XA cx,a=sQ PA pa.length ca/\b=sQ XA xa.length cx/\Bs z wx PA XA pa xa nb v8/\((∀a,PA=some a->a.block≠gb)/\∀a,PA=some a->a.block≠ob)/\((∀a,XA=some a->a.block≠gb)/\∀a,XA=some a->a.block≠ob)/\Later wb wx
theorem r14_run (A N P X:Option Addr) (c d cp xc:Nat) (n:NetD) (ps:List Ten) (x:Ten) (vals:List Ten) (w:Zp1) (hok:n.ok) (hR:NetR w A N n) (hd:n.nodes.length<=d) (hc:n.inn.length<=c) (hcm:c<=9223372036854775807) (hrd:Pn.Ready n ps vals) (hsv:vals.map Ten.s=Nt.shapes n) (hv0:Ly.got vals 0=x) (hP:Shps w P (ps.map Ten.c)) (lP:ps.length<=1048576) (kP:ps.length<=cp) (hX:Ints iQ w X x.c) (kX:x.c.length<=xc) (mX:xc<=9223372036854775807) (ip:∀t∈ps,Ly.In t) (ix:Ly.In x):
  Calls Tryz.prog 11 #[.agg #[sQ A n.inn.length c,sQ N n.nodes.length d],sQ P ps.length cp,sQ X x.c.length xc] w (RunR (Ly.at_ (Ly.got vals (Nt.loss n.nodes).toNat).c 0) ((Pn.back n ps vals).2.map Ten.c) (Ly.got (Pn.back n ps vals).1 0).c w):=by
 obtain ⟨i1,hj,G1,G5,G4⟩:=info_parts qcI;obtain ⟨i0,m6,mR,Ma,mE⟩:=info_parts qb0;have mn:=(Blk.new w 39 #[sQ A n.inn.length c,sQ N n.nodes.length d]).alloc (.cells #[nQ iQ 0,sQ none 0 0,sQ none 0 0] 51);have hz:=Blk.new (w.alloc (.cells #[sQ A n.inn.length c,sQ N n.nodes.length d] 39)) 51 #[nQ iQ 0,sQ none 0 0,sQ none 0 0];simp only [Zh1] at hz;have mu:Later w ((w.alloc (.cells #[sQ A n.inn.length c,sQ N n.nodes.length d] 39)).alloc (.cells #[nQ iQ 0,sQ none 0 0,sQ none 0 0] 51)):=((Later.refl w).alloc _).alloc _;have H2:=hrd.chk;have GQ:=hrd.len;obtain ⟨n1,n5,-,mz,gg,-,-,HZ⟩:=Nt.check_ok H2;obtain ⟨HL,hU⟩:=Pn.loss_rng H2;obtain ⟨L,hL⟩:∃L:Nat,Nt.loss n.nodes=(L:Int):=⟨(Nt.loss n.nodes).toNat,by omega⟩
 rw [hL] at HL hU;have me:=λ(i:Int) (h1:0<=i) (h2:i<=n.nodes.length)=>Pn.vals_all hrd (by rw [hv0];exact ix) h1 h2
 have K4:x.c≠[]:=by
  have:=Pn.right_pos (hrd.all 0 oZ);rw [hv0] at this;intro e;rw [e] at this;exact this rfl
 have Kp:Pn.startG n vals=(Zc (n.nodes.length+1) Ly.none_).set L (Pn.ones (Ly.got vals L).s):=by unfold Pn.startG;rw [hL,tnZ]
 have KY:(Pn.ones (Ly.got vals L).s).c=[4294967296]:=by
  rw [←hsv,hL,tnZ,Pn.got_s] at HZ;unfold Pn.ones;rw [HZ];rfl
 have Kt:=Pn.right_pos (hrd.all L oZ);rw [show (Nt.loss n.nodes).toNat=L by omega];obtain ⟨GS,HR,HP,HX,GX,Hz,ku,Ho,G8⟩:=zd9 hok hR hP hX mn hz mu hrd hsv;obtain ⟨mT,HS,kM,H7,mw,mx,mV,ma,MD⟩:=zd9 hv0 GQ me gg K4 Kp KY ip ix;obtain ⟨kt,K2,Mp⟩:=zd3 H2 Kt HZ;clear hok hR hP hX mn hz mu hrd hsv hv0 GQ me gg K4 Kp KY ip ix H2 Kt HZ;go_enter Tryz.func11,Tryz.ntmps11;go_upto_region 1 with fail;generalize (w.alloc (.cells #[sQ A n.inn.length c,sQ N n.nodes.length d] 39)).alloc (.cells #[nQ iQ 0,sQ none 0 0,sQ none 0 0] 51)=w1 at *;have a0:=GX.out.cell 0;have a1:=GX.out.cell 1;simp at a0 a1;go_wp2_with fail;refine (qcE A N c d n w1 GS.out (HR.out.below ku.out (lrZ _)) hd hc hcm).mono ?_;rintro e w2 ⟨mr,⟨-,g,rfl,hg,Kv⟩|⟨Gm,-⟩⟩
 rotate_left
 ·exact absurd kt.out Gm
 have kd:Later w1 w2:=mr;have KL:=ku.out.trans kd;have kb:=kd.blk GX.out;clear mr a0 a1;have a0:=kb.cell 0;have a1:=kb.cell 1;simp at a0 a1;rw [hL];obtain ⟨mO,KA,mI,Mh⟩:=zd4 kd KL kb Kv;clear kd KL kb Kv;go_wp2_with fail;refine (qcp A N c d n w2 GS.out (HR.out.below KA.out (lrZ _))).mono ?_;rintro e w3 ⟨O,oc,rfl,hO,MC,ML,ms⟩;rw [H7.out];have gS:Later w2 w3:=ms;have KN:=KA.out.trans gS;have mv:=mO.out.trans gS;have G9:=gS.blk mI.out;have Gs:=Mh.out.below gS (lrZ _);clear ms a0 a1;have a0:=G9.cell 0;have a1:=G9.cell 1;simp at a0 a1;have e1:iQ.wrap ((n.nodes.length:Int)+1)=((n.nodes.length+1:Nat):Int):=by rw [Zc1 _ oZ];omega
 obtain ⟨My,gH,KZ,gw,gG,HO⟩:=zd6 gS KN mv G9 Gs hO;clear gS KN mv G9 Gs hO;go_wp2_with (at_make;refine wpList_make_full _ rfl _ _ 47 rfl w3.heap.size 48 i1 (sQ none 0 0) 1 Tryz.underlying47 hj G1 G5 _ _ _ _ (n.nodes.length+1) rfl rfl (by first|rfl|simp|(go_simp;rfl)) (by first|rfl|simp|(go_simp;rfl)) ?b2 ?b3 ?b4 ?_)
 case b2=>rw [G4];omega
 case b3=>unfold maxLen;omega
 case b4=>exact lrZ _
 intro w4 hown hgrow;have hw:=qau hown;rw [qax] at hw;have hr:ShpRow w4 w3.heap.size 48 (Zc (n.nodes.length+1) []):=ShpRow.new (by simpa [Blk] using hw);have gO:Later w3 w4:=(Ze1 _ w3).grown hgrow (lrZ _) sZ
 have mD:∀a,X=some a->a.block≠w3.heap.size:=λa ha=>by
  obtain ⟨b,off,e,hl,-⟩:=HX.out 0 (by have:=mw.out;exact Nat.pos_of_ne_zero λh=>this (List.eq_nil_of_length_eq_zero h));rw [ha] at e;injection e with e;subst e
  have:=gH.out.size
  show b≠_
  omega
 have h8:=hr.set_ (i:=0) (HX.out.below (gH.out.trans gO) (lrZ _)) kX mX mD;rw [show (Zc (n.nodes.length+1) ([]:List Int)).set 0 x.c=x.c::Zc n.nodes.length [] from rfl] at h8;obtain ⟨S0,c0,z0,-⟩:=hr.at_ (j:=0) sZ;have f0:w4.frozen? ⟨w3.heap.size,0,none⟩=false:=by obtain ⟨vs,_,hk,_⟩:=hr;exact hk.frozen 0
 have GM:Later w3 (w4.setCell ⟨w3.heap.size,0,none⟩ (sQ X x.c.length xc)):=gO.set (lrZ _) _;have Kr:w3.heap.size<w4.heap.size:=hr.lt;clear a0 a1 hown hgrow hw hr;have a0:=(gO.blk gw.out).cell 0;have a1:=(gO.blk gw.out).cell 1;simp at a0 a1;have a1':=(GM.blk gw.out).cell 1;simp at a1';have ke:=gG.out.lt;have k5:=gH.out.size;have mL:=GX.out.lt;have kW:=KZ.out.size;have K9:=GM.size;obtain ⟨ab,hab⟩:∃ab,w3.heap.size=ab:=⟨_,rfl⟩
 rw [hab] at z0 f0 h8 Kr ke k5 kW K9 GM a1' ⊢;obtain ⟨Mr,mk,GB⟩:=zd3 gO GM h8;clear gO GM h8;go_wp2_with (at_make;refine wpList_make_full _ rfl _ _ 22 rfl ab 3 i0 (nQ iQ 0) 1 Tryz.underlying22 m6 mR Ma _ _ _ _ (n.nodes.length+1) rfl rfl (by first|rfl|simp|(go_simp;rfl)) (by first|rfl|simp|(go_simp;rfl)) ?b2 ?b3 ?b4 ?_)
 case b2=>rw [mE];omega
 case b3=>unfold maxLen;omega
 case b4=>exact K9
 intro w6 hown hgrow;have hw:=qau hown;rw [qax] at hw;have mp:Later (w4.setCell ⟨ab,0,none⟩ (sQ X x.c.length xc)) w6:=(Ze1 _ _).grown hgrow (lrZ _) sZ;obtain ⟨fb,hfb⟩:∃fb,w4.heap.size=fb:=⟨_,rfl⟩
 have gZ:Blk w6 fb 3 ((Zc (n.nodes.length+1) (0:Int)).map (Za1 iQ)).toArray:=by rw [List.map_replicate,←hfb];exact hw
 have mJ:(w4.setCell ⟨ab,0,none⟩ (sQ X x.c.length xc)).heap.size=fb:=by rw [←hfb];simp
 rw [hfb] at Kr ⊢;obtain ⟨Ks,Mw⟩:=zd2 hab hfb;clear z0 f0 a0 a1 a1' hab hfb hown hgrow hw;generalize w4.setCell ⟨ab,0,none⟩ (sQ X x.c.length xc)=w5 at *;obtain ⟨Gy,Kw⟩:=zd2 gZ mp;clear gZ mp;go_wp2_with fail
 go_loopw [13,14] (λa i wx=>∃(k:Nat) (fv:List Int),k<=n.nodes.length/\i=nQ iQ ((k:Int)+1)/\a=nQ iQ (Pn.from_ n.nodes k:Nat)/\fv.length=n.nodes.length+1/\(∀j,j<k->fv.getD (j+1) 0=(Pn.from_ n.nodes j:Nat))/\Blk wx fb 3 (fv.map (Za1 iQ)).toArray/\Later w5 wx) (λ_ i _=>n.nodes.length+1-(intOf i).toNat)
 case atStart=>exact ⟨0,_,Zt _,rfl,rfl,by simp,λj hj=>absurd hj oZ,Gy.out,Kw.out⟩
 case round=>
  obtain ⟨k,fv,hk,rfl,rfl,GZ,GO,hF,hh⟩:=hrel;have Hl:=mk.out.trans hh;have a1:=(Hl.blk gw.out).cell 1;simp at a1
  have KM:Pn.from_ n.nodes k<=ps.length:=by
   have h1:=Pn.from_le (ns:=n.nodes) (k:=k);have h2:=congrArg List.length Ho.out.pm;simp [Nt.params] at h2;simp at h1;omega
  by_cases G0:k<n.nodes.length
  focus
   as_aux_lemma=>
    have KE:=Pn.from_succ G0
    have Md:Pn.from_ n.nodes (k+1)<=ps.length:=by
     have h1:=Pn.from_le (ns:=n.nodes) (k:=k+1);have h2:=congrArg List.length Ho.out.pm;simp [Nt.params] at h2;simp at h1;omega
    have z1:wr.cell? ⟨fb,k+1,none⟩=some (nQ iQ (Ly.at_ fv (k+1))):=by
     rw [hF.cell,Zk,List.getElem?_map,Ly.at_get (show k+1<fv.length by omega),geZ oZ];rfl
    have f1:=hF.frozen (k+1);have kI:=hF.set_ (k+1) (nQ iQ (Pn.from_ n.nodes k:Nat));have hU:Later w5 (wr.setCell ⟨fb,k+1,none⟩ (nQ iQ (Pn.from_ n.nodes k:Nat))):=hh.set (p:=⟨fb,k+1,none⟩) (Nat.le_of_eq mJ) _;have ka:=mk.out.trans hU;have kF:((fv.map (Za1 iQ)).toArray.setIfInBounds (k+1) (nQ iQ (Pn.from_ n.nodes k:Nat)))=((fv.set (k+1) (Pn.from_ n.nodes k:Nat)).map (Za1 iQ)).toArray:=by rw [List.setIfInBounds_toArray,List.map_set]
    rw [kF] at kI
    have GD:∀j,j<k+1->(fv.set (k+1) (Pn.from_ n.nodes k:Nat)).getD (j+1) 0=(Pn.from_ n.nodes j:Nat):=λj hj=>by
     rw [gdZ]
     by_cases e:j=k
     ·subst e;rw [Zr oZ];rfl
     ·rw [Zs oZ,←gdZ];exact GO j oZ
    obtain ⟨b,off,S,sc,J,ic,Q,qc,rfl,Hu,-⟩:=HR.out.2.at_ G0;have g1:(0:Int)<=(k:Int)+1:=by omega
    have g2:(k:Int)+1<(n.nodes.length:Int)+1:=by omega
    have g3:iQ.wrap ((k:Int)+1-1)=(k:Int):=by rw [show (k:Int)+1-1=(k:Int) by omega];exact Zc1 _ oZ
    have g4:((k:Int)+1).toNat=k+1:=by omega
    have g5:(k:Int)<(n.nodes.length:Int):=by omega
    have g6:(k:Int)+1<=(n.nodes.length:Int):=by omega
    have g7:iQ.wrap (k:Int)=(k:Int):=Zc1 _ oZ;generalize (Pn.from_ n.nodes k:Nat)=fk at *;generalize hfk1:(Pn.from_ n.nodes (k+1):Nat)=fk1 at *;obtain ⟨HF,kY,hD,G2,mQ,H3,kq,MA,GJ⟩:=zd9 hF GO hh Hl kI hU GD kF Hu;have Gz:=zI GZ;clear hF GO hh Hl kI hU GD kF Hu GZ;go_upto_region 11 with fail;generalize wr.setCell ⟨fb,k+1,none⟩ (nQ iQ (fk:Nat))=wq at *;clear z1 f1 a1;obtain ⟨⟨-,-,-,-,-,-,-,-,-,y9⟩,-⟩:=GJ.out.below (gH.out.trans ka);have a1:=(ka.blk gw.out).cell 1;simp at a1;generalize n.nodes[k].p.length=pl at *;have g8:iQ.wrap ((fk:Int)+(pl:Int))=(fk1:Int):=by rw [show (fk:Int)+(pl:Int)=(fk1:Int) by omega];exact Zc1 _ oZ
    have MK:=zI KE;clear KE;have Mz:=zI ka;clear ka;go_wp2_with fail;go_roundw
    case rel=>exact ⟨k+1,_,by omega,by go_num,by rw [hfk1],by rw [List.length_set];exact Gz.out,kq.out,mQ.out,H3.out⟩
    case measure=>simp [intOf];omega
  rotate_left
  obtain rfl:k=n.nodes.length:=by omega
  have HB:=GB.out.below hh (lrZ _);obtain ⟨ww,hww⟩:∃ww,ww=wr:=⟨_,rfl⟩
  rw [←hww] at hF hh Hl HB a1 ⊢;clear hww wr Gy Kw;have G0:=H7.out;obtain ⟨HF,kY,hD,G2,gi,Gz,Mv⟩:=zd7 hF GO hh Hl HB GZ KM;clear hF GO hh Hl HB GZ KM;clear hk;go_wp2_with fail
  go_loopw [15] (λi wx=>∃(k:Nat) (al:List (List Int)),k<=n.nodes.length/\i=nQ iQ (k:Int)/\al.length=n.nodes.length+1/\(∀j:Int,j=0∨j∈(Nt.sorted n.nodes).take k->al.getD j.toNat []=(Ly.got vals j.toNat).c)/\ShpRow wx ab 48 al/\Blk wx fb 3 (fv.map (Za1 iQ)).toArray/\Later w3 wx) (λi _=>n.nodes.length-(intOf i).toNat)
  case atStart=>exact ⟨0,_,Zt _,rfl,by simp,λj hj=>by (rcases hj with rfl|hj;show x.c=(Ly.got vals 0).c;rw [mT.out];simp at hj),gi.out,HF.out,G2.out⟩
  case round=>
   clear gi HF hD G2 a1;obtain ⟨k,al,hk,rfl,Ha,Hr,hr,hF,hh⟩:=hrel;have a1:=(hh.blk gw.out).cell 1;simp at a1
   by_cases ge:k<n.nodes.length
   ·as_aux_lemma=>
     have Hn:k<(Nt.sorted n.nodes).length:=by omega
     have HV:=gH.out.trans hh;obtain ⟨bo,oo,rfl,-,gp⟩:=(HO.out.below hh (lrZ _)) k Hn;have hu:1<=(Nt.sorted n.nodes)[k]/\(Nt.sorted n.nodes)[k]<=n.nodes.length:=Kn.order_rng (Nt.insF n.nodes) n.nodes.length _ (gmZ Hn);have Gt:(Nt.sorted n.nodes).getD k 0=(Nt.sorted n.nodes)[k]:=by rw [gdZ,geZ Hn];rfl
     rw [Gt] at gp;have gR:Nt.sorted n.nodes=(Nt.sorted n.nodes).take k++(Nt.sorted n.nodes)[k]::(Nt.sorted n.nodes).drop (k+1):=by rw [←Zd Hn,Zn]
     have G3:∀i∈Nt.insF n.nodes (Nt.sorted n.nodes)[k],i=0∨i∈(Nt.sorted n.nodes).take k:=Kn.order_behind _ _ gR;have kK:=Zb Hn;obtain ⟨hf,H1,hn,hG,hp,ho⟩:=Pn.form_at Ho.out hu.1 hu.2;clear gR Gt;obtain ⟨j,hj⟩:∃j:Nat,(Nt.sorted n.nodes)[k]=(j:Int)+1:=⟨((Nt.sorted n.nodes)[k]-1).toNat,by omega⟩
     rw [hj] at hu gp G3 hf H1 hn hG hp ho kK;have H0:j<n.nodes.length:=by omega
     clear hj;obtain ⟨b,off,S,sc,J,ic,Q,qc,rfl,Hu,Kf,Kd,gB⟩:=HR.out.2.at_ H0;have HU:=Nt.node_at H0;have gL:=GS.out.2.2 _ (gmZ H0)
     have Hh:Pn.parts n ps ((j:Int)+1)=(ps.drop (Pn.from_ n.nodes j)).take n.nodes[j].p.length:=by
      unfold Pn.parts;rw [HU,show ((j:Int)+1).toNat-1=j by omega]
     have hC:=Pn.part_at Ho.out.pm hu.1 hu.2;rw [show Pn.fr n ((j:Int)+1)=Pn.from_ n.nodes j by unfold Pn.fr;rw [show ((j:Int)+1).toNat-1=j by omega]] at hC;have mi:Nt.insF n.nodes ((j:Int)+1)=n.nodes[j].ins:=by unfold Nt.insF;rw [HU]
     rw [mi] at G3;rw [HU] at hf hn hG hp ho hC;rw [Hh] at hf H1 hn;rw [show ((j:Int)+1).toNat=j+1 by omega] at hf;have Hi:=kY.out j H0;have gW:Ly.In (Ly.got vals (j+1)):=by have:=kM.out ((j:Int)+1) oZ oZ;rwa [show ((j:Int)+1).toNat=j+1 by omega] at this
     have Kc:=Ho.out.all (j+1) (by have:=HS.out;omega);clear Hh mi HU;generalize n.nodes[j]=v at *;generalize Pn.from_ n.nodes j=fr at *;obtain ⟨⟨y0,y1,y2,y3,y4,y5,y6,y7,y8,y9⟩,Ka,gm,kj⟩:=Hu.below HV;have hW:(Pn.pickT vals v.ins).length=v.ins.length:=by simp [Pn.pickT]
     have K5:Nt.pick al v.ins=(Pn.pickT vals v.ins).map Ten.c:=by
      unfold Nt.pick Pn.pickT;rw [List.map_map];exact List.map_congr_left λi hi=>Hr i (G3 i hi)
     have k9:=hp _ (gmZ ho);have HJ:Ly.got (Pn.pickT vals v.ins) 0=Ly.got vals (v.ins[0]).toNat:=by rw [qaj oZ];simp [Pn.pickT]
     obtain ⟨bj,oj,rfl,-,gx⟩:=gm 0 ho;rw [qa2 ho,Zx] at gx;have gY:=λt (ht:t∈Pn.pickT vals v.ins)=>(show Ly.In t by obtain ⟨i,hi,rfl⟩:=List.mem_map.1 ht;exact kM.out i (hp i hi).1 (hp i hi).2)
     generalize v.ins[0]=q0 at *;have h0:q0.toNat<(Nt.shapes n).length:=by rw [←G8.out,List.length_map,HS.out];omega
     have Gi:(Nt.shapes n)[q0.toNat]=(Ly.got vals q0.toNat).s:=by rw [←Pn.got_s,G8.out,gdZ,geZ h0];rfl
     obtain ⟨Ss,cs,He,hx,-⟩:=gG.out.at_ h0;rw [Gi] at He hx;have HW:=(Ly.right_s (Ho.out.all q0.toNat (by have:=HS.out;omega))).1;rw [←HJ] at He hx HW;obtain ⟨-,-,HC,hZ,-⟩:=Sh.right_mul HW;obtain ⟨s0,hs0⟩:∃s0,(Ly.got (Pn.pickT vals v.ins) 0).s=s0:=⟨_,rfl⟩
     rw [hs0] at He hx HC hZ;have HG:s0.length-1<s0.length:=by omega
     obtain ⟨bs,os,rfl,hv,Hc⟩:=hx _ HG;rw [qa2 HG] at Hc;rw [Ks.out] at hv;replace Hc:=hh.cell Hc;replace He:=hh.cell He
     have Ga:s0[s0.length-1]=(Ly.lastOf s0:Int):=by
      have h1:=hZ _ (gmZ HG);unfold Ly.lastOf Ly.side;rw [Ly.at_get HG];omega
     rw [Ga] at Hc;have k2:iQ.wrap ((s0.length:Int)-1)=((s0.length-1:Nat):Int):=by rw [show (s0.length:Int)-1=((s0.length-1:Nat):Int) by omega];exact Zc1 _ (by have:=qa4 HW;rw [hs0] at this;omega)
     have k3:((s0.length-1:Nat):Int)<(s0.length:Int):=by omega
     have k4:(0:Int)<=((s0.length-1:Nat):Int):=by omega
     obtain ⟨vo1,vo2,vo3,vo4,-,-⟩:=gL;have Hv:∀i∈v.ins,0<=i/\i<(al.length:Int):=λi hi=>by have:=hp i hi;rw [Ha];omega
     have hN:∀V,Later wr V->Calls Tryz.prog 28 #[sQ (some ⟨ab,0,none⟩) (n.nodes.length+1) (n.nodes.length+1),sQ (some ⟨bj,oj,none⟩) v.ins.length ic] V λe w'=>∃KP kc,e=.returned (sQ KP v.ins.length kc)/\Shps w' KP ((Pn.pickT vals v.ins).map Ten.c)/\Later V w':=λV h=>by
      have:=qf8 (some ⟨ab,0,none⟩) (some ⟨bj,oj,none⟩) (n.nodes.length+1) ic al v.ins V (by have:=hf.few;omega) Hv (hr.below h (lrZ _)).shps (gm.below h (lrZ _));rw [Ha,K5] at this;refine this.mono ?_;rintro e wk ⟨KP,kc,rfl,hK,-,-,hl⟩;exact ⟨KP,kc,by rw [List.length_map,hW],hK,hl⟩
     have HK:∀V,Later wr V->∀KP kc,Shps V KP ((Pn.pickT vals v.ins).map Ten.c)->Calls Tryz.prog 27 #[.agg #[nQ iQ v.op.kind,nQ iQ v.op.k,nQ iQ v.op.width,nQ iQ v.op.step,nQ iQ v.op.side,nQ iQ v.op.frm,nQ iQ v.op.to,sQ S v.op.s.length sc,sQ (some ⟨bj,oj,none⟩) v.ins.length ic,sQ Q v.p.length qc],.slice (if cp=fr then P else P.map λa=>a.add fr) v.p.length (cp-fr),sQ KP v.ins.length kc,nQ iQ (Ly.lastOf s0:Nat)] V (NewR (Ly.got vals (j+1)).c V):=λV h KP kc hK=>by
      have:=r14_node (v:=v) S (some ⟨bj,oj,none⟩) Q (if cp=fr then P else P.map λa=>a.add fr) KP sc ic qc (cp-fr) kc V hf H1 hG (λt ht=>ma.out t (Zp (Zh ht))) gY (vo1 _ sZ) (qcK (HP.out.below (HV.trans h) (lrZ _)) kP hC) hK;rw [hn,hW,hs0] at this;exact this
     obtain ⟨PP,hPP⟩:∃PP,(if cp=fr then P else P.map λa=>a.add fr)=PP:=⟨_,rfl⟩
     have gg:∀(ρ:Operand->Value) (W:Zp1) (o:Oper) (z lo hi:Operand),o.op=.slice 47 z (some lo) (some hi) none->ρ z=sQ P ps.length cp->ρ lo=nQ iQ (fr:Int)->ρ hi=nQ iQ ((fr:Int)+(v.p.length:Int))->(execOp ρ o).run Tryz.prog W=.ok (.value (sQ PP v.p.length (cp-fr))) W:=λρ W o z lo hi h1 h2 h3 h4=>by
      rw [←hPP];exact qaX h1 Tryz.underlying47 krZ h2 h3 h4 oZ
     rw [hPP] at HK
     have f1:wr.cell? ⟨fb,j+1,none⟩=some (nQ iQ (fr:Int)):=by
      rw [hF.cell,Zk,List.getElem?_map,geZ (by have:=Gz.out;omega),←qa2,Hi];rfl
     obtain ⟨wb,ko,Gn,x0,x1,x2,x3,x4,x5,x6,x7,x8,x9⟩:=qb6 wr v S (some ⟨bj,oj,none⟩) Q sc ic qc;have gu:=hr.lt;have g1:(k:Int)<(n.nodes.length:Int):=by omega
     have g2:(j:Int)<(n.nodes.length:Int):=by omega
     have g3:iQ.wrap ((j:Int)+1-1)=(j:Int):=by rw [show (j:Int)+1-1=(j:Int) by omega];exact Zc1 _ oZ
     have g4:(j:Int)+1-1=(j:Int):=by omega
     have g5:iQ.wrap (j:Int)=(j:Int):=Zc1 _ oZ;have g6:(j:Int)+1<(n.nodes.length:Int)+1:=by omega
     have g7:((j:Int)+1).toNat=j+1:=by omega
     have g8:(0:Int)<=(j:Int)+1:=by omega
     have g9:(0:Int)<(v.ins.length:Int):=by omega
     have ga1:q0<(n.nodes.length:Int)+1:=by omega
     have ga2:iQ.wrap ((fr:Int)+(v.p.length:Int))=(fr:Int)+(v.p.length:Int):=Zc1 _ oZ;obtain ⟨ga3,-⟩:=k9;obtain ⟨m0,hm0e⟩:∃m0,s0.length-1=m0:=⟨_,rfl⟩
     rw [hm0e] at Hc k2 k3 k4;have Ke:0<(Ly.got vals (j+1)).c.length:=Nat.pos_of_ne_zero (Pn.right_pos Kc);generalize hY:(Ly.got vals (j+1)).c=yc at *;obtain ⟨hS,gh,H7,HF,gF,kS,GL,hD,mU⟩:=zd9 hN HK gg hF hr Hr Ha hh kK;obtain ⟨hB,GJ,m9,Ko,Mf,HY,Mc,MB⟩:=zd8 Gn Hu hPP hm0e HV hY gW Kc;clear hN HK gg hF hr Hr Ha hh kK Gn Hu hPP hm0e HV hY gW Kc;clear hf H1 hn hG hp ho gY Ka gm kj hW K5 HJ h0 Gi HW HC hZ hs0 HG Ga hx Hv G3 hu Hi vo1 vo2 vo3 vo4 Kf Kd gB;go_upto_region 17 with fail;have gC:=hB.out.cell gx;have gy:=hB.out.cell He;go_upto_region 18 with fail;have f2:=hB.out.cell f1;have Hb:=hB.out.cell Hc;have KV:=gF.out.below hB.out (lrZ _);have nb1:wr.heap.size≠ab:=by omega
     have nb2:fb≠ab:=by omega
     have nb3:bs≠ab:=by omega
     have Gp:=hD.out.trans hB.out;have Ky:=hB.out.blk HF.out;have ky:Below wr.heap.size wr wb:=hB.out;clear gx He Hc f1 gC gy y0 y1 y2 y3 y4 y5 y6 y7 y8 y9 gp ko a1;have Hs:=λV (h:Later wb V)=>hS.out V (hB.out.trans h)
     have HA:=λV (h:Later wb V)=>gh.out V (hB.out.trans h)
     obtain ⟨Mk,kr,mW,Ht,Hp⟩:=zd5 KV Gp Ky Hs HA;clear KV Gp Ky Hs HA;clear hS gh GJ;have KF:=zI (show ∀Xw,Later wb Xw->Xw.cell? ⟨wr.heap.size,0,none⟩=some (nQ iQ v.op.kind)/\Xw.cell? ⟨wr.heap.size,1,none⟩=some (nQ iQ v.op.k)/\Xw.cell? ⟨wr.heap.size,2,none⟩=some (nQ iQ v.op.width)/\Xw.cell? ⟨wr.heap.size,3,none⟩=some (nQ iQ v.op.step)/\Xw.cell? ⟨wr.heap.size,4,none⟩=some (nQ iQ v.op.side)/\Xw.cell? ⟨wr.heap.size,5,none⟩=some (nQ iQ v.op.frm)/\Xw.cell? ⟨wr.heap.size,6,none⟩=some (nQ iQ v.op.to)/\Xw.cell? ⟨wr.heap.size,7,none⟩=some (sQ S v.op.s.length sc)/\Xw.cell? ⟨wr.heap.size,8,none⟩=some (sQ (some ⟨bj,oj,none⟩) v.ins.length ic)/\Xw.cell? ⟨wr.heap.size,9,none⟩=some (sQ Q v.p.length qc)/\Xw.cell? ⟨fb,j+1,none⟩=some (nQ iQ (fr:Int))/\Xw.cell? ⟨bs,os+m0,none⟩=some (nQ iQ (Ly.lastOf s0:Nat)) from λXw h=>⟨h.cell x0,h.cell x1,h.cell x2,h.cell x3,h.cell x4,h.cell x5,h.cell x6,h.cell x7,h.cell x8,h.cell x9,h.cell f2,h.cell Hb⟩);refine Zm1 ?_;refine Zl1 (S:=λXw=>Xw.cell? ⟨wr.heap.size,0,none⟩=some (nQ iQ v.op.kind)/\Xw.cell? ⟨wr.heap.size,1,none⟩=some (nQ iQ v.op.k)/\Xw.cell? ⟨wr.heap.size,2,none⟩=some (nQ iQ v.op.width)/\Xw.cell? ⟨wr.heap.size,3,none⟩=some (nQ iQ v.op.step)/\Xw.cell? ⟨wr.heap.size,4,none⟩=some (nQ iQ v.op.side)/\Xw.cell? ⟨wr.heap.size,5,none⟩=some (nQ iQ v.op.frm)/\Xw.cell? ⟨wr.heap.size,6,none⟩=some (nQ iQ v.op.to)/\Xw.cell? ⟨wr.heap.size,7,none⟩=some (sQ S v.op.s.length sc)/\Xw.cell? ⟨wr.heap.size,8,none⟩=some (sQ (some ⟨bj,oj,none⟩) v.ins.length ic)/\Xw.cell? ⟨wr.heap.size,9,none⟩=some (sQ Q v.p.length qc)/\Xw.cell? ⟨fb,j+1,none⟩=some (nQ iQ (fr:Int))/\Xw.cell? ⟨bs,os+m0,none⟩=some (nQ iQ (Ly.lastOf s0:Nat))) krZ (KF.out _ Lau) (λhHeld=>?_);refine tk 0 ?_;refine tk 1 ?_;refine tk 2 ?_;refine tk 3 ?_;refine tk 4 ?_;refine tk 5 ?_;refine tk 6 ?_;refine tk 7 ?_;refine tk 8 ?_;refine tk 9 ?_
     refine tk 10 ?_;refine tk 11 ?_;refine tk 12 ?_;refine tk 13 ?_;refine tk 14 ?_;refine tk 15 ?_;refine tk 16 ?_ (hy:=λW _=>H7.out _ _ _ _ _ _ rfl rfl rfl rfl)
     try simp only [ga,gs,gz,Act.put,sa,sz,ss]
     refine tk 17 ?_;refine tk 18 ?_;refine tk 19 ?_;refine tk 21 ?_;refine tk 22 ?_;refine tk 23 ?_;refine tk 24 ?_;refine tk 25 ?_;refine tk 26 ?_;refine rd 20 λK hK=>?_
     simp only [ga,gs,gz]
     go_simp
     go_at_call 28;(with_reducible refine (Ht.out _ (Lau:Later wb _)).mono ?_);rintro e wk ⟨KP,kc,rfl,Gw,gT⟩;have HI:Below _ _ wk:=gT;have ks:=zI Gw;clear Gw gT
     try go_wp2_with fail
     refine hK.out _ _ (KF.out _ Lau) (λhHeld=>?_);clear hK K
     try simp only [ga,gs,gz,Act.put,sa,sz,ss]
     refine rd 27 λK hK=>?_
     simp only [ga,gs,gz]
     go_simp
     go_at_call 27;(with_reducible refine (Hp.out _ (Lau:Later wb _) _ _ ks.out).mono ?_);rintro e wn ⟨An,an,rfl,GF,Kh,ki,HL⟩;have GU:Below _ _ wn:=HL;have hJ:=(Lau:Later wb wn);have GY:=Mk.out.below hJ (lrZ _);have mh:j+1<al.length:=by (have:=GL.out;omega)
     obtain ⟨Sm,cm,ym,-⟩:=GY.at_ mh;have fm:wn.frozen? ⟨ab,j+1,none⟩=false:=by (obtain ⟨vs,_,Gv,_⟩:=GY;exact Gv.frozen (j+1))
     obtain ⟨K7,Gf,KT⟩:=zd3 GF hJ GY;clear GF HL GY
     try go_wp2_with fail
     refine hK.out _ _ (KF.out _ Lau) (λhHeld=>?_);clear hK K
     try simp only [ga,gs,gz,Act.put,sa,sz,ss]
     refine tk 28 ?_;refine rd 29 λK hK=>?_
     simp only [ga,gs,gz]
     go_simp
     refine hK.out _ _ ?_ (λhHeld=>?_)
     ·(try dsimp only);(refine ⟨?_,?_,?_,?_,?_,?_,?_,?_,?_,?_,?_,?_⟩<;>(repeat (refine qa0 ?_ (by first|omega|(simp;done)|(simp;omega))))<;>(refine Later.cell (Lau:Later wb _) ?_)<;>assumption)
     clear hK K
     try simp only [ga,gs,gz,Act.put,sa,sz,ss]
     clear KF;refine Zn1 krZ ?_ _;refine Zd1 ?_;have hs:=KT.out.set_ (i:=j+1) K7.out Kh ki (KT.out.apart K7.out Ke);have md:=(Gf.out.blk mW.out).far (p:=⟨ab,j+1,none⟩) nb2 (sQ An yc.length an);have KD:Later w3 (wn.setCell ⟨ab,j+1,none⟩ (sQ An yc.length an)):=(kr.out.trans Gf.out).set (p:=⟨ab,j+1,none⟩) (Nat.le_of_eq Ks.out) _
     have mb:∀i:Int,i=0∨i∈(Nt.sorted n.nodes).take (k+1)->(al.set (j+1) yc).getD i.toNat []=(Ly.got vals i.toNat).c:=λi hi=>by
      rw [mU.out] at hi
      by_cases e:i.toNat=j+1
      ·rw [e,gdZ,Zr mh,HY.out];rfl
      ·rw [gdZ,Zs oZ,←gdZ]
       refine kS.out i ?_;rcases hi with hi|hi
       ·exact .inl hi
       ·rcases List.mem_append.1 hi with hi|hi
        ·exact .inr hi
        ·simp at hi;omega
     clear x0 x1 x2 x3 x4 x5 x6 x7 x8 x9 f2 Hb ym fm HI GU;obtain ⟨hT,my,Mg,Mo⟩:=zd4 hs md KD mb;clear hs md KD mb;clear Ht Hp H7;generalize wn.setCell ⟨ab,j+1,none⟩ (sQ An yc.length an)=we at *;go_wp2_with fail;go_roundw
     case rel=>
      refine ⟨k+1,al.set (j+1) yc,?_,?_,?_,?_,?_,?_,?_⟩
      ·omega
      ·go_num
      ·rw [List.length_set];exact GL.out
      ·exact Mo.out
      ·exact hT.out
      ·exact my.out
      ·exact Mg.out
     case measure=>simp [intOf];omega
   ·obtain rfl:k=n.nodes.length:=by omega
    have mK:al=vals.map Ten.c:=by
     have GQ:=HS.out;refine List.ext_getElem (by rw [List.length_map,Ha,GQ]) λi h1 h2=>?_
     have:=Hr (i:Int) (by
      by_cases e:i=0
      ·left;omega
      ·right
       rw [List.take_of_length_le oZ];exact (Kn.order_full (I:=Nt.insF n.nodes) G0 (i:Int)).2 ⟨by omega,by omega⟩)
     rw [tnZ] at this;rw [qbi h2,←this,gdZ,geZ h1];rfl
    subst mK;clear Ha Hr hk ge;have gu:=hr.lt;obtain ⟨wB,hwB⟩:∃wB,wB=wr:=⟨_,rfl⟩
    rw [←hwB] at hr hF hh a1 gu ⊢;clear hwB wr;have mg:L<(vals.map Ten.c).length:=by rw [List.length_map,HS.out];omega
    obtain ⟨Sl,cl,Kk,kE,-⟩:=hr.at_ mg;rw [qbi mg] at Kk kE;obtain ⟨bl,ol,rfl,-,gM⟩:=kE 0 (Nat.pos_of_ne_zero K2.out);rw [Zx] at gM;have e1:iQ.wrap ((n.nodes.length:Int)+1)=((n.nodes.length+1:Nat):Int):=by rw [Zc1 _ oZ];omega
    clear kE;obtain ⟨gF,HF,hD⟩:=zd3 hr hF hh;clear hr hF hh;go_wp2_with (at_make;refine wpList_make_full _ rfl _ _ 47 rfl wB.heap.size 48 i1 (sQ none 0 0) 1 Tryz.underlying47 hj G1 G5 _ _ _ _ (n.nodes.length+1) rfl rfl (by first|rfl|simp|(go_simp;rfl)) (by first|rfl|simp|(go_simp;rfl)) ?b2 ?b3 ?b4 ?_)
    case b2=>rw [G4];omega
    case b3=>unfold maxLen;omega
    case b4=>exact lrZ _
    intro w7 hown hgrow;have hw:=qau hown;rw [qax] at hw;have gQ:ShpRow w7 wB.heap.size 48 (Zc (n.nodes.length+1) []):=ShpRow.new (by simpa [Blk] using hw)
    have GG:NilC w7 wB.heap.size (Zc (n.nodes.length+1) []):=λj hj _=>by
     rw [List.length_replicate] at hj;have hb:Blk w7 wB.heap.size 48 (Zc (n.nodes.length+1) (Zb1 none 0 0)).toArray:=by simpa [Blk] using hw
     rw [hb.cell,Zk,List.getElem?_replicate,ipZ hj]
    have Kg:Later wB w7:=(Ze1 _ wB).grown hgrow (lrZ _) sZ;have kG:=gQ.lt;obtain ⟨gb,hgb⟩:∃gb,wB.heap.size=gb:=⟨_,rfl⟩
    rw [hgb] at gQ GG kG gu ⊢;have mP:=zI hgb;have HQ:Later w7 (w7.alloc (.cells #[nQ iQ 4294967296] 2)):=(Later.refl w7).alloc _;have KK:Ints iQ (w7.alloc (.cells #[nQ iQ 4294967296] 2)) (some ⟨w7.heap.size,0,none⟩) [4294967296]:=Blk.ints (t:=2) (Blk.new w7 2 #[nQ iQ 4294967296]);have GT:=(gQ.below HQ (lrZ _)).set_ (i:=L) (c:=1) KK sZ oZ (λa e=>by injection e with e;subst e;show w7.heap.size≠gb;omega);have GR:=(GG.later HQ).set_ (i:=L) (s:=[4294967296]) sZ (sQ (some ⟨w7.heap.size,0,none⟩) 1 1);have kp:Later wB ((w7.alloc (.cells #[nQ iQ 4294967296] 2)).setCell ⟨gb,L,none⟩ (sQ (some ⟨w7.heap.size,0,none⟩) 1 1)):=(Kg.trans HQ).set (p:=⟨gb,L,none⟩) (Nat.le_of_eq hgb) _;have kL:(Zc (n.nodes.length+1) ([]:List Int)).set L [4294967296]=(Pn.startG n vals).map Ten.c:=by rw [mx.out,List.map_set,mV.out,List.map_replicate];rfl
    rw [kL] at GT GR;rw [World.setCell_alloc_past _ _ _ _ kG] at GT GR kp;have z9:(w7.alloc (.cells #[nQ iQ 4294967296] 2)).cell? ⟨gb,L,none⟩=some (sQ none 0 0):=HQ.cell (GG L (by rw [List.length_replicate];omega) sZ);have f9:(w7.alloc (.cells #[nQ iQ 4294967296] 2)).frozen? ⟨gb,L,none⟩=false:=by obtain ⟨vs,_,Gv,_⟩:=gQ.below HQ (lrZ _);exact Gv.frozen L
    have g1:(L:Int)<(n.nodes.length:Int)+1:=by omega
    have KX:ApC (λz=>z<=w.heap.size+1) ((w7.setCell ⟨gb,L,none⟩ (sQ (some ⟨w7.heap.size,0,none⟩) 1 1)).alloc (.cells #[nQ iQ 4294967296] 2)) (some ⟨gb,0,none⟩) ((Pn.startG n vals).map Ten.c).length:=by
     obtain ⟨vs,_,Gv,_⟩:=gQ.below HQ (lrZ _);rw [←World.setCell_alloc_past _ _ _ _ kG,←kL,List.length_set,List.length_replicate];have hz:=Hz.out.lt;exact ApC.set_ (ApC.nils λj hj=>HQ.cell (GG j (by simpa using hj) sZ)) Gv (λa e=>by injection e with e;subst e;show ¬(w7.heap.size<=_);omega)
    clear hown hgrow hw gQ GG hgb KK kL;obtain ⟨MI,Ms,k6,KQ,Gr⟩:=zd5 Kg HQ GT GR kp;clear Kg HQ GT GR kp;have Kx:=zI KX;clear KX;go_upto_region 21 with fail;clear z9 f9;generalize (w7.setCell ⟨gb,L,none⟩ (sQ (some ⟨w7.heap.size,0,none⟩) 1 1)).alloc (.cells #[nQ iQ 4294967296] 2)=w9 at *;have v0:=Gr.out.cell Kk;have v1:=Gr.out.cell gM;have mA:0<(Ly.got vals L).c.length:=Nat.pos_of_ne_zero K2.out;have Ml:=k6.out.lt;clear Kk gM a1
    go_cut [20] (RnCut w9 (Ly.at_ (Ly.got vals L).c 0) ps.length)
    case first=>
     as_aux_lemma=>
      have hj:=zI hj;have gz:(0:Int)<((Ly.got vals L).c.length:Int):=by omega
      have gl1:ab<w9.heap.size:=Zj1 _ _ v0;have gl2:bl<w9.heap.size:=Zj1 _ _ v1;generalize hlz:(Ly.got vals L).c.length=lz at *;generalize hz9:Ly.at_ (Ly.got vals L).c 0=z9 at *;rw [show (Ly.got vals L).c.getD 0 0=z9 from hz9] at v1;have KF:=zI (show ∀Xw,Later w9 Xw->Xw.cell? ⟨ab,L,none⟩=some (sQ (some ⟨bl,ol,none⟩) lz cl)/\Xw.cell? ⟨bl,ol,none⟩=some (nQ iQ z9) from λXw h=>⟨h.cell v0,h.cell v1⟩);refine Zm1 ?_;refine Zl1 (S:=λXw=>Xw.cell? ⟨ab,L,none⟩=some (sQ (some ⟨bl,ol,none⟩) lz cl)/\Xw.cell? ⟨bl,ol,none⟩=some (nQ iQ z9)) krZ (KF.out _ Lau) (λhHeld=>?_);refine tk 0 ?_;refine tk 1 ?_;refine tk 2 ?_;refine tk 3 ?_;refine tk 4 ?_;refine tk 5 ?_;refine tk 6 ?_;refine tk 7 ?_;refine Zo1 (rs:=[8,10]) krZ sZ ?_;refine Zf1 (o:=_) rfl (λK hK=>?_) (Zf1 (o:=_) rfl (λK hK=>?_) (Zg1))
      ·refine qaJ (by rfl) _ _ 47 (by rfl) w9.heap.size 48 i1 (sQ none 0 0) 1 Tryz.underlying47 hj.out G1 G5 iQ iQ ps.length (by rfl) (by rfl) (by rw [G4];omega) (by unfold maxLen;omega) (by first|exact lrZ _|(simp;done)) ?_
       intro w8 hown hgrow;have mB:=(Ze1 _ _).grown hgrow (lrZ _) sZ;have gV:=qau hown;rw [show (madeCells (Zb1 none 0 0).cells (ps.length*1)).toList=Zc ps.length (Zb1 none 0 0) by (rw [Nat.mul_one];exact qax _ _)] at gV;have Mb:=zI gV;clear gV;refine hK.out _ _ (KF.out _ Lau) (λhHeld=>?_);clear hK K
       try simp only [ga,gs,Act.put,sa]
       refine tk 9 ?_;refine rd 10 λK hK=>?_
       simp only [ga,gs]
       go_simp
       refine hK.out _ _ (KF.out _ Lau) (λhHeld=>?_);clear hK K
       try simp only [ga,gs,gz,Act.put,sa,sz,ss]
       refine rd 11 λK hK=>?_
       simp only [ga,gs]
       go_simp
       refine hK.out _ _ ?_ (λhHeld=>?_)
       ·(try dsimp only);(refine ⟨?_,?_⟩<;>(repeat (refine qa0 ?_ (by first|omega|(simp;done)|(simp;omega))))<;>(refine Later.cell (Lau:Later w9 _) ?_)<;>assumption)
       clear hK K
       try simp only [ga,gs,gz,Act.put,sa,sz,ss]
       clear KF;refine Zn1 krZ ?_ _;refine Zd1 ?_;have GV:Later w9 w8:=(Lau:Later w9 w8)
       go_wp2_with fail
       go_meet
       have G7:Blk w8 w9.heap.size 48 (Zc ps.length (Zb1 none 0 0)).toArray:=by (simpa [Blk] using Mb.out)
       exact ⟨w8.heap.size,w9.heap.size,rfl,GV.size,lrZ _,Nat.ne_of_gt G7.lt,Blk.new w8 _ _,G7.alloc _,GV.alloc _⟩
      ·simp only [ga,gs]
       go_simp
       refine hK.out _ _ (KF.out _ Lau) (λhHeld=>?_);clear hK K
       try simp only [ga,gs,gz,Act.put,sa,sz,ss]
       refine rd 8 λK hK=>?_
       refine qaJ (by rfl) _ _ 47 (by rfl) w9.heap.size 48 i1 (sQ none 0 0) 1 Tryz.underlying47 hj.out G1 G5 iQ iQ ps.length (by rfl) (by rfl) (by rw [G4];omega) (by unfold maxLen;omega) (by first|exact lrZ _|(simp;done)|(simp;omega)) ?_;intro w8 hown hgrow;have mB:=(Ze1 _ _).grown hgrow (lrZ _) sZ;have gV:=qau hown;rw [show (madeCells (Zb1 none 0 0).cells (ps.length*1)).toList=Zc ps.length (Zb1 none 0 0) by (rw [Nat.mul_one];exact qax _ _)] at gV;have gk:=Blk.grown ((Blk.new w9 51 #[nQ iQ 0,sQ none 0 0,sQ none 0 0]).drew) hgrow sZ;have k0:=gk.cell 0;have k1:=gk.cell 1;have k2:=gk.cell 2;have kf0:=gk.frozen 0;have kf1:=gk.frozen 1;have kf2:=gk.frozen 2;simp at k0 k1 k2;have Mi:=zI gk;clear gk;refine hK.out _ _ (KF.out _ Lau) (λhHeld=>?_);clear hK K
       try simp only [ga,gs,Act.put,sa]
       refine tk 9 ?_;refine rd 11 λK hK=>?_
       simp only [ga,gs]
       go_simp
       refine hK.out _ _ ?_ (λhHeld=>?_)
       ·(try dsimp only);(refine ⟨?_,?_⟩<;>(repeat (refine qa0 ?_ (by first|omega|(simp;done)|(simp;omega))))<;>(refine Later.cell (Lau:Later w9 _) ?_)<;>assumption)
       clear hK K
       try simp only [ga,gs,gz,Act.put,sa,sz,ss]
       clear KF;refine Zn1 krZ ?_ _;refine Zd1 ?_;have GV:Later w9 w8:=(Lau:Later w9 w8)
       go_wp2_with fail
       go_meet
       have G7:Blk w8 (w9.heap.size+1) 48 (Zc ps.length (Zb1 none 0 0)).toArray:=by simpa [Blk] using gV
       have hv:=((Mi.out.set_ 0 (nQ iQ z9)).set_ 1 (sQ (some ⟨w9.heap.size+1,0,none⟩) ps.length ps.length)).set_ 2 (sQ none 0 0);exact ⟨w9.heap.size,w9.heap.size+1,rfl,lrZ _,Zy _,Nat.ne_of_lt (Nat.lt_succ_self _),(by simpa using hv),(((G7.far (p:=⟨w9.heap.size,0,none⟩) sZ _).far (p:=⟨w9.heap.size,1,none⟩) sZ _).far (p:=⟨w9.heap.size,2,none⟩) sZ _),((GV.set (p:=⟨w9.heap.size,0,none⟩) (lrZ _) _).set (p:=⟨w9.heap.size,1,none⟩) (lrZ _) _).set (p:=⟨w9.heap.size,2,none⟩) (lrZ _) _⟩
    case rest=>
     obtain ⟨qb,ob,rfl,Mx,MF,K6,hQ,KC,H9⟩:=hcut;have kZ:wB.heap.size<=w9.heap.size:=Gr.out.size;have ME:w.heap.size+1<gb:=by have:=Hz.out.lt;omega
     have kn:ApC (λz=>z<=w.heap.size+1) w9 (some ⟨gb,0,none⟩) ((Pn.startG n vals).map Ten.c).length:=Kx.out;have hm:=Rs.start (k6.out.below H9 (lrZ _)) (KQ.out.later H9) KC hQ (kn.later H9 Ml) (show gb≠ob by omega) (show gb≠qb by omega) K6;have Kq:=Gr.out.trans H9;have Hy:=Pn.back_start Ho.out;have ho:∀i,Ly.In (Ly.got (Pn.startG n vals) i):=Pn.startG_in;have q2:iQ.wrap ((n.nodes.length:Int)-1)=(n.nodes.length:Int)-1:=Zc1 _ oZ;clear v0 v1 g1 mA;obtain ⟨h6,mo,HD,GP⟩:=zd4 hm Kq Hy ho;clear hm Kq Hy ho;clear k6 KQ Gr Kx;go_wp2_with fail;clear q2
     go_loopw [21] (λi wx=>∃(z:Int) (k:Nat) (gr pg:List Ten),i=nQ iQ z/\z=(k:Int)-1/\k<=n.nodes.length/\Rs (λz=>z<=w.heap.size+1) gb ob qb (Ly.at_ (Ly.got vals L).c 0) wx (gr.map Ten.c) (pg.map Ten.c)/\Later wB wx/\Pn.Back n ps vals ((Nt.sorted n.nodes).drop k) gr pg/\Pn.back n ps vals=Pn.bwd n ps vals gr pg ((Nt.sorted n.nodes).take k).reverse/\∀i,Ly.In (Ly.got gr i)) (λi _=>(intOf i+1).toNat)
     case atStart=>exact ⟨_,n.nodes.length,_,_,rfl,rfl,lrZ _,h6.out,mo.out,by rw [List.drop_eq_nil_of_le oZ];exact HD.out,by rw [List.take_of_length_le oZ];rfl,GP.out⟩
     case round=>
      obtain ⟨z,k,gr,pg,rfl,KS,hk,hm,hh,HI,gP,G6⟩:=hrel;clear h6 mo HD GP H9 KC hQ;rcases Nat.eq_zero_or_pos k with Me|m8
      ·subst Me
       obtain rfl:z = -1:=by omega
       rw [List.take_zero,List.reverse_nil,Pn.bwd] at gP;rw [gP]
       as_aux_lemma=>
        have Kl:0<(gr.map Ten.c).length:=by rw [List.length_map,HI.len];omega
        have Hg:=HI.plen;obtain ⟨S3,c3,e0,kw,n3a,n3b,HN,-,-⟩:=hm.getg Kl;rw [qbi Kl] at e0 kw n3a;have k7:=KZ.out.trans (hD.out.trans hh);have K3:=ku.out.trans k7;have H8:=k7.blk Hz.out;have nq:w.heap.size+1≠qb:=by have:=kZ;omega
        have no:w.heap.size+1≠ob:=by omega
        have k0:=hm.q.cell 0;have k1:=hm.q.cell 1;have k2:=hm.q.cell 2;have kf2:=hm.q.frozen 2;have m0:=H8.cell 0;have m1:=H8.cell 1;have m2:=H8.cell 2;have mf0:=H8.frozen 0;have mf1:=H8.frozen 1;have mf2:=H8.frozen 2;rw [List.length_map,Hg] at k1;simp at k0 k1 k2 m0 m1 m2;obtain ⟨ml,mj,mc⟩:=hm.fin (zb:=w.heap.size+1) (lrZ _) no (sQ S3 (Ly.got gr 0).c.length c3) (nQ iQ (Ly.at_ (Ly.got vals L).c 0)) (sQ (some ⟨ob,0,none⟩) ps.length ps.length) (sQ S3 (Ly.got gr 0).c.length c3) kw HN;have Hk:=ap_low HN;have Gj:=mc.low;have GW:=(((H8.far (p:=⟨qb,2,none⟩) nq (sQ S3 (Ly.got gr 0).c.length c3)).set_ 0 (nQ iQ (Ly.at_ (Ly.got vals L).c 0))).set_ 1 (sQ (some ⟨ob,0,none⟩) ps.length ps.length)).set_ 2 (sQ S3 (Ly.got gr 0).c.length c3);have mZ:w.heap.size<=qb:=by omega
        have KB:=(((K3.set (p:=⟨qb,2,none⟩) mZ (sQ S3 (Ly.got gr 0).c.length c3)).set (p:=⟨w.heap.size+1,0,none⟩) sZ (nQ iQ (Ly.at_ (Ly.got vals L).c 0))).set (p:=⟨w.heap.size+1,1,none⟩) sZ (sQ (some ⟨ob,0,none⟩) ps.length ps.length)).set (p:=⟨w.heap.size+1,2,none⟩) sZ (sQ S3 (Ly.got gr 0).c.length c3);have d0:=GW.cell 0;have d1:=GW.cell 1;have d2:=GW.cell 2;simp at d0 d1 d2;clear GW kw HN mc hm H8 K3 k7 hh HI KS Kl hk;obtain ⟨mG,mY,Mm,HE,mC,Kj,kD⟩:=zd7 ml mj KB Hg gP Hk Gj;clear ml mj KB Hg gP Hk Gj;generalize hg0:(Ly.got gr 0).c.length=gl0 at *;generalize gT:Ly.at_ (Ly.got vals L).c 0=lv at *;have K0:=zI hg0;clear hg0;go_wp2_with fail;refine Zk1 (v:=.agg #[nQ iQ lv,sQ (some ⟨ob,0,none⟩) ps.length ps.length,sQ S3 gl0 c3]) (by simp [results,Tryz.results11,go_sem,d0,d1,d2]) rfl ?_;rw [mC.out];refine ⟨ob,S3,c3,?_,mG.out,mY.out,by rw [K0.out];exact n3a,n3b,⟨by omega,by rw [List.length_map] at *;exact kD.out,Kj.out⟩,Mm.out⟩
        show _=Ending.returned (.agg #[_,.slice _ (pg.map Ten.c).length (pg.map Ten.c).length,.slice _ (Ly.got gr 0).c.length _])
        rw [List.length_map,HE.out,K0.out]
      ·obtain ⟨m,rfl⟩:∃m,k=m+1:=⟨k-1,by omega⟩
       obtain rfl:z=(m:Int):=by omega
       clear KS m8;have Hn:m<(Nt.sorted n.nodes).length:=by omega
       have Hl:=hD.out.trans hh;have HV:=gH.out.trans Hl;obtain ⟨bo,oo,rfl,-,gp⟩:=(HO.out.below Hl (lrZ _)) m Hn;have hu:1<=(Nt.sorted n.nodes)[m]/\(Nt.sorted n.nodes)[m]<=n.nodes.length:=Kn.order_rng (Nt.insF n.nodes) n.nodes.length _ (gmZ Hn);have Gt:(Nt.sorted n.nodes).getD m 0=(Nt.sorted n.nodes)[m]:=by rw [gdZ,geZ Hn];rfl
       rw [Gt] at gp;have gR:Nt.sorted n.nodes=(Nt.sorted n.nodes).take m++(Nt.sorted n.nodes)[m]::(Nt.sorted n.nodes).drop (m+1):=by rw [←Zd Hn,Zn]
       obtain ⟨-,rx,rpp,-,-,rb2,-,-,rpart,-⟩:=Pn.back_next Ho.out gR HI;obtain ⟨hA,hI,hE⟩:=Pn.back_at Ho.out gR HI;rw [←Zd Hn] at rb2
       have Hw:Pn.back n ps vals=Pn.bwd n ps vals (Pn.addN gr (Nt.node n.nodes (Nt.sorted n.nodes)[m]).ins (Pn.bk n ps vals gr (Nt.sorted n.nodes)[m]).1.x (Nt.node n.nodes (Nt.sorted n.nodes)[m]).ins.length) (splice pg (Pn.fr n (Nt.sorted n.nodes)[m]) (Pn.bk n ps vals gr (Nt.sorted n.nodes)[m]).1.p) ((Nt.sorted n.nodes).take m).reverse:=by
        rw [gP,Zb Hn,List.reverse_append,List.reverse_singleton,List.singleton_append,Pn.bwd]
       obtain ⟨hf,H1,hn,hG,hp,ho⟩:=Pn.form_at Ho.out hu.1 hu.2;have hC:=Pn.part_at Ho.out.pm hu.1 hu.2;have Kb:=HI.len;have Hg:=HI.plen;clear gR Gt gP;obtain ⟨j,hj⟩:∃j:Nat,(Nt.sorted n.nodes)[m]=(j:Int)+1:=⟨((Nt.sorted n.nodes)[m]-1).toNat,by omega⟩
       rw [hj] at hu gp rx rpp rb2 rpart hA hI hE Hw hf H1 hn hG hp ho hC;have H0:j<n.nodes.length:=by omega
       clear hj;obtain ⟨b,off,S,sc,J,ic,Q,qc,rfl,Hu,Kf,Kd,gB⟩:=HR.out.2.at_ H0;have HU:=Nt.node_at H0;have gL:=GS.out.2.2 _ (gmZ H0);have KR:Pn.fr n ((j:Int)+1)=Pn.from_ n.nodes j:=by unfold Pn.fr;rw [show ((j:Int)+1).toNat-1=j by omega]
       have Hh:Pn.parts n ps ((j:Int)+1)=(ps.drop (Pn.from_ n.nodes j)).take n.nodes[j].p.length:=by
        unfold Pn.parts;rw [HU,show ((j:Int)+1).toNat-1=j by omega]
       have gq:Pn.bk n ps vals gr ((j:Int)+1)=Ly.back n.nodes[j].op ((ps.drop (Pn.from_ n.nodes j)).take n.nodes[j].p.length) (Pn.pickT vals n.nodes[j].ins) (Ly.got gr (j+1)):=by
        unfold Pn.bk;rw [Hh,HU,show ((j:Int)+1).toNat=j+1 by omega]
       rw [HU] at rx rpp rb2 rpart hI hE Hw hf hn hG hp ho hC;rw [Hh] at hf H1 hn;rw [KR] at rb2 Hw hC;rw [show ((j:Int)+1).toNat=j+1 by omega] at hf hA;have Hi:=kY.out j H0;clear Hh HU KR;generalize hR0:Pn.bk n ps vals gr ((j:Int)+1)=R at *;clear hR0;generalize n.nodes[j]=v at *;generalize Pn.from_ n.nodes j=fr at *;obtain ⟨⟨y0,y1,y2,y3,y4,y5,y6,y7,y8,y9⟩,Ka,gm,kj⟩:=Hu.below HV;have hW:(Pn.pickT vals v.ins).length=v.ins.length:=by simp [Pn.pickT]
       have k9:=hp _ (gmZ ho);have HJ:Ly.got (Pn.pickT vals v.ins) 0=Ly.got vals (v.ins[0]).toNat:=by rw [qaj oZ];simp [Pn.pickT]
       obtain ⟨bj,oj,rfl,-,gx⟩:=gm 0 ho;rw [qa2 ho,Zx] at gx;have gY:=λt (ht:t∈Pn.pickT vals v.ins)=>(show Ly.In t by obtain ⟨i,hi,rfl⟩:=List.mem_map.1 ht;exact kM.out i (hp i hi).1 (hp i hi).2)
       generalize v.ins[0]=q0 at *;have h0:q0.toNat<(Nt.shapes n).length:=by rw [←G8.out,List.length_map,HS.out];omega
       have Gi:(Nt.shapes n)[q0.toNat]=(Ly.got vals q0.toNat).s:=by rw [←Pn.got_s,G8.out,gdZ,geZ h0];rfl
       obtain ⟨Ss,cs,He,hx,-⟩:=(gG.out.below Hl (lrZ _)).at_ h0;rw [Gi] at He hx;have HW:=(Ly.right_s (Ho.out.all q0.toNat (by have:=HS.out;omega))).1;rw [←HJ] at He hx HW;obtain ⟨-,-,HC,hZ,-⟩:=Sh.right_mul HW;obtain ⟨s0,hs0⟩:∃s0,(Ly.got (Pn.pickT vals v.ins) 0).s=s0:=⟨_,rfl⟩
       rw [hs0] at He hx HC hZ;have HG:s0.length-1<s0.length:=by omega
       obtain ⟨bs,os,rfl,-,Hc⟩:=hx _ HG;rw [qa2 HG] at Hc
       have Ga:s0[s0.length-1]=(Ly.lastOf s0:Int):=by
        have h1:=hZ _ (gmZ HG);unfold Ly.lastOf Ly.side;rw [Ly.at_get HG];omega
       rw [Ga] at Hc;have k2:iQ.wrap ((s0.length:Int)-1)=((s0.length-1:Nat):Int):=by rw [show (s0.length:Int)-1=((s0.length-1:Nat):Int) by omega];exact Zc1 _ (by have:=qa4 HW;rw [hs0] at this;omega)
       have k3:((s0.length-1:Nat):Int)<(s0.length:Int):=by omega
       have k4:(0:Int)<=((s0.length-1:Nat):Int):=by omega
       obtain ⟨vo1,vo2,vo3,vo4,-,-⟩:=gL;have Hv:∀i∈v.ins,0<=i/\i<((vals.map Ten.c).length:Int):=λi hi=>by have:=hp i hi;rw [List.length_map,HS.out];omega
       have gd:=gF.out.below hh (lrZ _)
       have hN:∀V,Later wr V->Calls Tryz.prog 28 #[sQ (some ⟨ab,0,none⟩) (n.nodes.length+1) (n.nodes.length+1),sQ (some ⟨bj,oj,none⟩) v.ins.length ic] V λe w'=>∃KP kc,e=.returned (sQ KP v.ins.length kc)/\Shps w' KP ((Pn.pickT vals v.ins).map Ten.c)/\Later V w':=λV h=>by
        have:=qf8 (some ⟨ab,0,none⟩) (some ⟨bj,oj,none⟩) (n.nodes.length+1) ic (vals.map Ten.c) v.ins V (by have:=hf.few;omega) Hv (gd.below h (lrZ _)).shps (gm.below h (lrZ _));rw [pick_c,List.length_map,HS.out] at this;refine this.mono ?_;rintro e wk ⟨KP,kc,rfl,hK,-,-,hl⟩;exact ⟨KP,kc,by rw [List.length_map,hW],hK,hl⟩
       have kB:j+1<(gr.map Ten.c).length:=by rw [List.length_map,Kb];omega
       obtain ⟨Sg,cg,zg,kR,kA,mm,GC,-,-⟩:=hm.getg kB;rw [qbi kB] at zg kR kA;have gE:=hf.back_in hA.1 hA.2 (G6 (j+1));rw [←gq] at gE
       have Hx:∀V,Later wr V->∀KP kc,Shps V KP ((Pn.pickT vals v.ins).map Ten.c)->Calls Tryz.prog 29 #[.agg #[nQ iQ v.op.kind,nQ iQ v.op.k,nQ iQ v.op.width,nQ iQ v.op.step,nQ iQ v.op.side,nQ iQ v.op.frm,nQ iQ v.op.to,sQ S v.op.s.length sc,sQ (some ⟨bj,oj,none⟩) v.ins.length ic,sQ Q v.p.length qc],.slice (if cp=fr then P else P.map λa=>a.add fr) v.p.length (cp-fr),sQ KP v.ins.length kc,sQ Sg (Ly.got gr (j+1)).c.length cg,nQ iQ (Ly.lastOf s0:Nat)] V (BackR Sg (R.1.p.map Ten.c) (R.1.x.map Ten.c) V):=λV h KP kc hK=>by
        have:=r14_back (v:=v) S (some ⟨bj,oj,none⟩) Q (if cp=fr then P else P.map λa=>a.add fr) KP Sg sc ic qc (cp-fr) kc cg V hf hA.1 hA.2 (G6 (j+1)) H1 hG (λt ht=>ma.out t (Zp (Zh ht))) gY (vo1 _ sZ) (qcK (HP.out.below (HV.trans h) (lrZ _)) kP hC) hK (kR.below h (lrZ _)) kA mm;rw [hn,hW,hs0,←gq] at this;exact this
       obtain ⟨PP,hPP⟩:∃PP,(if cp=fr then P else P.map λa=>a.add fr)=PP:=⟨_,rfl⟩
       have gg:∀(ρ:Operand->Value) (W:Zp1) (o:Oper) (z lo hi:Operand),o.op=.slice 47 z (some lo) (some hi) none->ρ z=sQ P ps.length cp->ρ lo=nQ iQ (fr:Int)->ρ hi=nQ iQ ((fr:Int)+(v.p.length:Int))->(execOp ρ o).run Tryz.prog W=.ok (.value (sQ PP v.p.length (cp-fr))) W:=λρ W o z lo hi h1 h2 h3 h4=>by
        rw [←hPP];exact qaX h1 Tryz.underlying47 krZ h2 h3 h4 oZ
       rw [hPP] at Hx;have KW:=hh.blk HF.out;have Gg:=(Hu.below (gH.out.trans hD.out)).2.2.1
       have f1:wr.cell? ⟨fb,j+1,none⟩=some (nQ iQ (fr:Int)):=by
        rw [KW.cell,Zk,List.getElem?_map,geZ (by have:=Gz.out;omega),←qa2,Hi];rfl
       have a1:=((hD.out.trans hh).blk gw.out).cell 1;simp at a1;obtain ⟨wb,ko,Gn,x0,x1,x2,x3,x4,x5,x6,x7,x8,x9⟩:=qb6 wr v S (some ⟨bj,oj,none⟩) Q sc ic qc;have g1:(m:Int)<(n.nodes.length:Int):=by omega
       have g2:(j:Int)<(n.nodes.length:Int):=by omega
       have g3:iQ.wrap ((j:Int)+1-1)=(j:Int):=by rw [show (j:Int)+1-1=(j:Int) by omega];exact Zc1 _ oZ
       have g4:(j:Int)+1-1=(j:Int):=by omega
       have g5:iQ.wrap (j:Int)=(j:Int):=Zc1 _ oZ;have g6:(j:Int)+1<(n.nodes.length:Int)+1:=by omega
       have g7:((j:Int)+1).toNat=j+1:=by omega
       have g8:(0:Int)<=(j:Int)+1:=by omega
       have g9:(0:Int)<(v.ins.length:Int):=by omega
       have ga1:q0<(n.nodes.length:Int)+1:=by omega
       have ga2:iQ.wrap ((fr:Int)+(v.p.length:Int))=(fr:Int)+(v.p.length:Int):=Zc1 _ oZ;obtain ⟨ga3,-⟩:=k9;obtain ⟨m0,hm0e⟩:∃m0,s0.length-1=m0:=⟨_,rfl⟩
       rw [hm0e] at Hc k2 k3 k4;have kg:=hm.g.lt;have kU:=hm.o.lt;have mH:v.p.length<=1048576:=by omega
       have Mq:v.ins.length<=2:=by have:=hf.few;omega
       generalize hG1:(Ly.got gr (j+1)).c.length=gln at *;obtain ⟨hS,H5,H7,h6,hD,MJ,KG,G2,Mf⟩:=zd9 hN Hx gg hm hh HI G6 Hl HV;obtain ⟨K1,Hd,k8,gI,gK,gn,kh,mN,HE⟩:=zd9 rx rpp rb2 rpart hI hE Hw Kb Hg;obtain ⟨hB,GJ,m9,Ko,km,kz,MH,kQ,MG⟩:=zd9 Gn Hu hPP hm0e gE GC hG1 hp gm;obtain ⟨Hq,Gc,kT⟩:=zd3 hC Gg Hi;clear hN Hx gg hm hh HI G6 Hl HV rx rpp rb2 rpart hI hE Hw Kb Hg Gn Hu hPP hm0e gE GC hG1 hp gm hC Gg Hi;clear hf H1 hn hG ho gY Ka kj hW HJ h0 Gi HW HC hZ hs0 HG Ga hx Hv hu vo1 vo2 vo3 vo4 Kf Kd gB hA gd kB kR kA mm gq KW;go_upto_region 27 with fail;have gC:=hB.out.cell gx;have gy:=hB.out.cell He;go_upto_region 28 with fail;have f2:=hB.out.cell f1;have Hb:=hB.out.cell Hc;have zgb:=hB.out.cell zg;have ky:Below wr.heap.size wr wb:=hB.out;have Mu:=hB.out.size;clear gx He Hc f1 gC gy y0 y1 y2 y3 y4 y5 y6 y7 y8 y9 gp ko a1 zg;have Hs:=λV (h:Later wb V)=>hS.out V (hB.out.trans h)
       have HA:=λV (h:Later wb V)=>H5.out V (hB.out.trans h)
       have GA:=h6.out.later hB.out;obtain ⟨Ht,Hp,Km⟩:=zd3 Hs HA GA;clear Hs HA GA;clear hS H5 GJ
       go_cut [25,26] (RkCut (λz=>z<=w.heap.size+1) gb ob wb (R.1.p.map Ten.c) (R.1.x.map Ten.c) wr.heap.size (sQ (some ⟨bj,oj,none⟩) v.ins.length ic))
       case first=>
        as_aux_lemma=>
         have KF:=zI (show ∀Xw,Later wb Xw->Xw.cell? ⟨wr.heap.size,0,none⟩=some (nQ iQ v.op.kind)/\Xw.cell? ⟨wr.heap.size,1,none⟩=some (nQ iQ v.op.k)/\Xw.cell? ⟨wr.heap.size,2,none⟩=some (nQ iQ v.op.width)/\Xw.cell? ⟨wr.heap.size,3,none⟩=some (nQ iQ v.op.step)/\Xw.cell? ⟨wr.heap.size,4,none⟩=some (nQ iQ v.op.side)/\Xw.cell? ⟨wr.heap.size,5,none⟩=some (nQ iQ v.op.frm)/\Xw.cell? ⟨wr.heap.size,6,none⟩=some (nQ iQ v.op.to)/\Xw.cell? ⟨wr.heap.size,7,none⟩=some (sQ S v.op.s.length sc)/\Xw.cell? ⟨wr.heap.size,8,none⟩=some (sQ (some ⟨bj,oj,none⟩) v.ins.length ic)/\Xw.cell? ⟨wr.heap.size,9,none⟩=some (sQ Q v.p.length qc)/\Xw.cell? ⟨fb,j+1,none⟩=some (nQ iQ (fr:Int))/\Xw.cell? ⟨bs,os+m0,none⟩=some (nQ iQ (Ly.lastOf s0:Nat))/\Xw.cell? ⟨gb,j+1,none⟩=some (sQ Sg gln cg) from λXw h=>⟨h.cell x0,h.cell x1,h.cell x2,h.cell x3,h.cell x4,h.cell x5,h.cell x6,h.cell x7,h.cell x8,h.cell x9,h.cell f2,h.cell Hb,h.cell zgb⟩);refine Zm1 ?_;refine Zl1 (S:=λXw=>Xw.cell? ⟨wr.heap.size,0,none⟩=some (nQ iQ v.op.kind)/\Xw.cell? ⟨wr.heap.size,1,none⟩=some (nQ iQ v.op.k)/\Xw.cell? ⟨wr.heap.size,2,none⟩=some (nQ iQ v.op.width)/\Xw.cell? ⟨wr.heap.size,3,none⟩=some (nQ iQ v.op.step)/\Xw.cell? ⟨wr.heap.size,4,none⟩=some (nQ iQ v.op.side)/\Xw.cell? ⟨wr.heap.size,5,none⟩=some (nQ iQ v.op.frm)/\Xw.cell? ⟨wr.heap.size,6,none⟩=some (nQ iQ v.op.to)/\Xw.cell? ⟨wr.heap.size,7,none⟩=some (sQ S v.op.s.length sc)/\Xw.cell? ⟨wr.heap.size,8,none⟩=some (sQ (some ⟨bj,oj,none⟩) v.ins.length ic)/\Xw.cell? ⟨wr.heap.size,9,none⟩=some (sQ Q v.p.length qc)/\Xw.cell? ⟨fb,j+1,none⟩=some (nQ iQ (fr:Int))/\Xw.cell? ⟨bs,os+m0,none⟩=some (nQ iQ (Ly.lastOf s0:Nat))/\Xw.cell? ⟨gb,j+1,none⟩=some (sQ Sg gln cg)) krZ (KF.out _ Lau) (λhHeld=>?_);refine tk 0 ?_;refine tk 1 ?_;refine tk 2 ?_;refine tk 3 ?_;refine tk 4 ?_;refine tk 5 ?_;refine tk 6 ?_;refine tk 7 ?_;refine tk 8 ?_;refine tk 9 ?_
         refine tk 10 ?_;refine tk 11 ?_;refine tk 12 ?_;refine tk 13 ?_;refine tk 14 ?_ (hy:=λW _=>H7.out _ _ _ _ _ _ rfl rfl rfl rfl)
         try simp only [ga,gs,gz,Act.put,sa,sz,ss]
         refine tk 15 ?_;refine tk 16 ?_;refine tk 17 ?_;refine tk 19 ?_;refine tk 20 ?_;refine tk 21 ?_;refine tk 22 ?_;refine tk 23 ?_;refine tk 24 ?_;refine tk 25 ?_;refine tk 26 ?_;refine tk 27 ?_;refine tk 28 ?_;refine rd 18 λK hK=>?_
         simp only [ga,gs,gz]
         go_simp
         go_at_call 28;(with_reducible refine (Ht.out _ (Lau:Later wb _)).mono ?_);rintro e wk ⟨KP,kc,rfl,Gw,gT⟩;have m7:Below _ _ wk:=gT;have ks:=zI Gw;clear Gw gT
         try go_wp2_with fail
         refine hK.out _ _ (KF.out _ Lau) (λhHeld=>?_);clear hK K
         try simp only [ga,gs,gz,Act.put,sa,sz,ss]
         refine rd 29 λK hK=>?_
         simp only [ga,gs,gz]
         go_simp
         go_at_call 29;(with_reducible refine (Hp.out _ (Lau:Later wb _) _ _ ks.out).mono ?_);rintro e wn ⟨PA,ca,XA,cx,rfl,Ku,mf,gc,H4,HN,HL⟩;have GU:Below _ _ wn:=HL;have hJ:=(Lau:Later wb wn);have ge:=(Lau:Later wb wk)
         have Hk:=HN (λz=>z<=w.heap.size+1) (λz h=>by have:=ge.size;(try simp at h);omega) kz.out;have g0:=qcg (z:=gb) gc (by have:=ge.size;omega);have Ge:=qcg (z:=ob) gc (by have:=ge.size;omega);have Gu:=qcg (z:=gb) H4 (by have:=ge.size;omega);have Gl:=qcg (z:=ob) H4 (by have:=ge.size;omega);have Hm:=zI (show Bs (λz=>z<=w.heap.size+1) wn PA XA (R.1.p.map Ten.c) (R.1.x.map Ten.c) wr.heap.size (sQ (some ⟨bj,oj,none⟩) v.ins.length ic) from ⟨Ku,mf,Hk.1,Hk.2,hJ.cell x8⟩);have Gf:=zI hJ;have mF:=zI (And.intro g0 Ge);have mM:=zI (And.intro Gu Gl);clear Ku mf HN Hk gc H4 HL ge g0 Ge Gu Gl hJ x0 x1 x2 x3 x4 x5 x6 x7 x8 x9 f2 Hb zgb
         try go_wp2_with fail
         refine hK.out _ _ (KF.out _ Lau) (λhHeld=>?_);clear hK K
         try simp only [ga,gs,gz,Act.put,sa,sz,ss]
         refine tk 30 ?_;refine tk 31 ?_;refine tk 32 ?_;refine tk 33 ?_;refine tk 34 ?_;clear KF;refine Zn1 krZ ?_ _;refine Zd1 ?_;go_wp2_with fail
         go_meet
         exact ⟨PA,ca,XA,cx,by first|rfl|(simp;done),by first|rfl|(simp;done),Hm.out,mF.out,mM.out,Gf.out⟩
       case rest=>
        clear x0 x1 x2 x3 x4 x5 x6 x7 x8 x9 f2 Hb zgb Ht Hp H7;obtain ⟨PA,ca,XA,cx,rfl,rfl,hv,gc,H4,hJ⟩:=hcut;rw [show (R.1.p.map Ten.c).length=v.p.length by rw [List.length_map];exact Hd.out,show (R.1.x.map Ten.c).length=v.ins.length by rw [List.length_map];exact K1.out];obtain ⟨nb,hnb⟩:∃nb,wr.heap.size=nb:=⟨_,rfl⟩
        rw [hnb] at hv kg kU ⊢;have Mt:=zI hnb;clear hnb;have Gk:=Km.out.later hJ;have H9:=hD.out.trans (hB.out.trans hJ);have kH:=HF.out.lt;have kC:=mP.out;rw [kC] at kH
        have f1B:wB.cell? ⟨fb,j+1,none⟩=some (nQ iQ (fr:Int)):=by
         rw [HF.out.cell,Zk,List.getElem?_map,geZ (by have:=Gz.out;omega),←qa2,kT.out];rfl
        have GE:∀q,(splice pg fr (R.1.p.take q)).length=ps.length:=λq=>by
         rw [Pn.splice_len (by have:=Hd.out;have:=Hq.out;have:=HE.out;rw [Zo];omega)];exact HE.out
        obtain ⟨gX,K8,Hm,Gf,gJ,kf⟩:=zd6 Gk H9 hv hJ GE f1B;clear Gk H9 hv hJ GE f1B;go_wp2_with fail
        go_loopw [27] (λi wx=>∃q:Nat,q<=v.p.length/\i=nQ iQ (q:Int)/\Rs (λz=>z<=w.heap.size+1) gb ob qb (Ly.at_ (Ly.got vals L).c 0) wx (gr.map Ten.c) ((splice pg fr (R.1.p.take q)).map Ten.c)/\Bs (λz=>z<=w.heap.size+1) wx PA XA (R.1.p.map Ten.c) (R.1.x.map Ten.c) nb (sQ (some ⟨bj,oj,none⟩) v.ins.length ic)/\Later wB wx) (λi _=>v.p.length-(intOf i).toNat)
        case atStart=>exact ⟨0,Zt _,rfl,by rw [List.take_zero,qcl];exact gX.out,Hm.out,K8.out⟩
        case round=>
         obtain ⟨q,hq,rfl,hm,hv,hh⟩:=hrel
         by_cases Hf:q<v.p.length
         ·as_aux_lemma=>
           have gv:q<(R.1.p.map Ten.c).length:=by rw [List.length_map,Hd.out];exact Hf
           obtain ⟨ba,oa,Sa,ca2,rfl,za,kv,kN,Mj,HN⟩:=hv.1.apart hv.2.2.1 gv;rw [qbi gv] at za kv kN;have k1:=hm.q.cell 1;rw [List.length_map,gJ.out] at k1;simp at k1;have f2:=hh.cell kf.out;have Gd:fr+q<((splice pg fr (R.1.p.take q)).map Ten.c).length:=by rw [List.length_map,gJ.out];have:=Hq.out;omega
           obtain ⟨vM,zM,fM⟩:=hm.geto Gd;have hs:=hm.seto Gd kv kN Mj (gn.out q Hf) HN;rw [show ((splice pg fr (R.1.p.take q)).map Ten.c).set (fr+q) (Ly.got R.1.p q).c=(splice pg fr (R.1.p.take (q+1))).map Ten.c by rw [Pn.splice_next (by rw [Hd.out];exact Hf) (by rw [Hd.out,HE.out];exact Hq.out),List.map_set]] at hs;obtain ⟨So,co,zo,-⟩:=hm.o.at_ Gd;have hH:=hv.slot zo sZ gc.2 H4.2 (show nb≠ob by omega) (sQ Sa (Ly.got R.1.p q).c.length ca2);have hU:=hh.set (p:=⟨ob,fr+q,none⟩) (show wB.heap.size<=ob by omega) (sQ Sa (Ly.got R.1.p q).c.length ca2);obtain ⟨M,hM⟩:∃M,M=fr+q:=⟨_,rfl⟩
           rw [←hM] at Gd zM fM hs hH hU;have m1:(fr:Int)+(q:Int)=(M:Int):=by omega
           have m2:iQ.wrap (M:Int)=(M:Int):=Zc1 _ (by have:=Hq.out;omega);have m3:(M:Int)<(ps.length:Int):=by have:=Hq.out;omega
           have m4:(0:Int)<=(M:Int):=by omega
           have m5:(q:Int)<(v.p.length:Int):=by omega
           have nb1:qb≠ob:=K6;have nb2:fb≠ob:=by omega
           have nb3:ba≠ob:=gc.2 _ rfl;generalize (Ly.got R.1.p q).c.length=apl at *;have HM:=zI hM;clear hM kv kN HN zo Gd gv;obtain ⟨h6,Hm,hD,hT,Hj,H3⟩:=zd6 hm hv hh hs hH hU;clear hm hv hh hs hH hU;go_wp2_with fail;have KF:=zI (show ∀Xw,Later wr Xw->Xw.cell? ⟨qb,1,none⟩=some (sQ (some ⟨ob,0,none⟩) ps.length ps.length)/\Xw.cell? ⟨fb,j+1,none⟩=some (nQ iQ (fr:Int))/\Xw.cell? ⟨ba,oa+q,none⟩=some (sQ Sa apl ca2) from λXw h=>⟨h.cell k1,h.cell f2,h.cell za⟩);refine Zm1 ?_;refine Zl1 (S:=λXw=>Xw.cell? ⟨qb,1,none⟩=some (sQ (some ⟨ob,0,none⟩) ps.length ps.length)/\Xw.cell? ⟨fb,j+1,none⟩=some (nQ iQ (fr:Int))/\Xw.cell? ⟨ba,oa+q,none⟩=some (sQ Sa apl ca2)) krZ (KF.out _ Lau) (λhHeld=>?_);refine tk 0 ?_;refine tk 1 ?_;refine tk 2 ?_;refine tk 3 ?_;refine tk 4 ?_;refine tk 5 ?_;refine tk 6 ?_;refine tk 7 ?_;refine tk 8 ?_;refine tk 9 ?_;refine tk 10 ?_;refine tk 11 ?_;refine tk 12 ?_;refine rd 13 λK hK=>?_
           simp only [ga,gs,gz]
           go_simp
           refine hK.out _ _ ?_ (λhHeld=>?_)
           ·(try dsimp only);(refine ⟨?_,?_,?_⟩<;>(repeat (refine qa0 ?_ (by first|omega|(simp;done)|(simp;omega))))<;>(refine Later.cell (Lau:Later wr _) ?_)<;>assumption)
           clear hK K
           try simp only [ga,gs,gz,Act.put,sa,sz,ss]
           clear KF;refine Zn1 krZ ?_ _;refine Zd1 ?_;clear hHeld k1 f2 za zM fM;have gD:=zI ((Later.refl (wr.setCell ⟨ob,M,none⟩ (sQ Sa apl ca2))).drew);generalize wr.setCell ⟨ob,M,none⟩ (sQ Sa apl ca2)=wz at *;go_wp2_with fail;go_roundw
           case rel=>exact ⟨q+1,by omega,by go_num,hT.out.later gD.out,Hj.out.later gD.out,H3.out.trans gD.out⟩
           case measure=>simp [intOf];omega
         ·obtain rfl:q=v.p.length:=by omega
          rw [List.take_of_length_le (by rw [Hd.out];exact lrZ _)] at hm;have gj:((splice pg fr R.1.p).map Ten.c).length=ps.length:=by have:=gJ.out R.1.p.length;rw [Zg] at this;rw [List.length_map];exact this
          have mS:=Gc.out;have GK:∀t∈R.1.x,Ly.In t:=km.out.2;have gf:∀q,((Pn.addN gr v.ins R.1.x q).map Ten.c).length=n.nodes.length+1:=λq=>by rw [List.length_map,Pn.addN_len];exact mN.out
          clear hq Hf gX Hm K8;obtain ⟨h6,Hm,hD,mq,gt,GN⟩:=zd6 hm hv hh gj GK gf;clear hm hv hh gj GK gf;go_wp2_with fail
          go_loopw [28] (λi wx=>∃q:Nat,q<=v.ins.length/\i=nQ iQ (q:Int)/\Rs (λz=>z<=w.heap.size+1) gb ob qb (Ly.at_ (Ly.got vals L).c 0) wx ((Pn.addN gr v.ins R.1.x q).map Ten.c) ((splice pg fr R.1.p).map Ten.c)/\Bs (λz=>z<=w.heap.size+1) wx PA XA (R.1.p.map Ten.c) (R.1.x.map Ten.c) nb (sQ (some ⟨bj,oj,none⟩) v.ins.length ic)/\Later wB wx) (λi _=>v.ins.length-(intOf i).toNat)
          case atStart=>exact ⟨0,Zt _,rfl,h6.out,Hm.out,hD.out⟩
          case round=>
           clear h6 Hm hD;obtain ⟨q,hq,rfl,hm,hv,hh⟩:=hrel
           by_cases Hf:q<v.ins.length
           ·as_aux_lemma=>
             have gv:q<(R.1.x.map Ten.c).length:=by rw [List.length_map,K1.out];exact Hf
             obtain ⟨bx,ox,Sx,cx2,rfl,zx,Gh,kO,Mn,gN⟩:=hv.2.1.apart hv.2.2.2.1 gv;rw [qbi gv] at zx Gh kO;have x8:=hv.2.2.2.2;obtain ⟨bj2,oj2,e,-,zi⟩:=(Gc.out.below hh (lrZ _)) q Hf;injection e with e;injection e with e3 e4;subst e3 e4
             have Kz:=kQ.out _ (gmZ Hf);rw [qa2 Hf] at zi;have gU:=gK.out q Hf;rw [qa2 Hf] at gU;have h9:=gI.out q hq (v.ins[q]).toNat
             have h5:(Pn.addN gr v.ins R.1.x (q+1)).map Ten.c=((Pn.addN gr v.ins R.1.x q).map Ten.c).set (v.ins[q]).toNat (Pn.add (Ly.got (Pn.addN gr v.ins R.1.x q) (v.ins[q]).toNat) (Ly.got R.1.x q)).c:=by
              rw [←List.map_set,Pn.addN,qa2 Hf]
             have HH:0<(Ly.got R.1.x q).c.length:=Nat.pos_of_ne_zero (Pn.right_pos gU.1);have go:=Pn.got_in gt.out q;have HT:Ly.In (Ly.got (Pn.addN gr v.ins R.1.x q) (v.ins[q]).toNat):=Pn.addN_in gt.out KG.out q _;generalize v.ins[q]=iq at *;obtain ⟨tn,htn⟩:∃tn,iq.toNat=tn:=⟨_,rfl⟩
             rw [htn] at gU h9 h5 HT;have gA:tn<((Pn.addN gr v.ins R.1.x q).map Ten.c).length:=by rw [GN.out];omega
             obtain ⟨Sq,cq,zq,Gb,kl,KO,Gx,kx,-⟩:=hm.getg gA;have h7:=hm.nil tn gA;rw [qbi gA] at zq Gb kl h7;have nbg:nb≠gb:=by omega
             have nxg:bx≠gb:=H4.1 _ rfl;have i1:iq<(n.nodes.length:Int)+1:=by omega
             have i2:0<=iq:=Kz.1;have i3:(q:Int)<(v.ins.length:Int):=by omega
             have i4:iq.toNat=tn:=htn;clear Kz htn gv
             by_cases he:(Ly.got (Pn.addN gr v.ins R.1.x q) tn).c=[]
             ·have zq2:=h7 he
              rw [Pn.add_first he] at h5;have hs:=hm.setg gA Gh kO Mn HH gN;rw [←h5] at hs;have hH:=hv.slot zq2 sZ gc.1 H4.1 nbg (sQ Sx (Ly.got R.1.x q).c.length cx2);have hU:=hh.set (p:=⟨gb,tn,none⟩) (show wB.heap.size<=gb by omega) (sQ Sx (Ly.got R.1.x q).c.length cx2);generalize (Ly.got R.1.x q).c.length=xl at *;clear zq Gb kl KO Gx h7 he gU h9 HT go HH Gh gN h5 gA;have kJ:∀W,(binOp .eql 48 (sQ none 0 0) (sQ none 0 0)).run Tryz.prog W=.ok (.bool true) W:=λ_=>rfl
              obtain ⟨h6,Hm,hD,hT,Hj,H3⟩:=zd6 hm hv hh hs hH hU;clear hm hv hh hs hH hU;go_wp2_with fail;clear zq2 zx zi x8 kx;generalize wr.setCell ⟨gb,tn,none⟩ (sQ Sx xl cx2)=wz at *;go_roundw
              case rel=>exact ⟨q+1,by omega,by go_num,hT.out,Hj.out,H3.out⟩
              case measure=>simp [intOf];omega
             ·obtain ⟨KH,KI,KU⟩:=Pn.add_more h9 gU he
              rw [KH] at h5;have H6:0<(Ly.got (Pn.addN gr v.ins R.1.x q) tn).c.length:=Nat.pos_of_ne_zero λh=>he (List.eq_nil_of_length_eq_zero h)
              obtain ⟨bq,oq,rfl,-,-⟩:=Gb.lies_ H6;have Gq:=λ(V:Zp1) (hV:Later wr V)=>qgT (some ⟨bq,oq,none⟩) Sx cq cx2 (Ly.got (Pn.addN gr v.ins R.1.x q) tn).c (Ly.got R.1.x q).c V KU KI (Gb.below hV (lrZ _)) (Gh.below hV (lrZ _)) HT go
              have Go:(Ly.sumC (Ly.got (Pn.addN gr v.ins R.1.x q) tn).c (Ly.got R.1.x q).c).length=(Ly.got (Pn.addN gr v.ins R.1.x q) tn).c.length:=Ly.tab_len _ _;have kJ:∀W,(binOp .eql 48 (sQ (some ⟨bq,oq,none⟩) (Ly.got (Pn.addN gr v.ins R.1.x q) tn).c.length cq) (sQ none 0 0)).run Tryz.prog W=.ok (.bool false) W:=λ_=>rfl
              have KJ:=hm.g.lt;generalize Ly.sumC (Ly.got (Pn.addN gr v.ins R.1.x q) tn).c (Ly.got R.1.x q).c=sm at *;generalize (Ly.got (Pn.addN gr v.ins R.1.x q) tn).c.length=ql at *;generalize (Ly.got R.1.x q).c.length=xl at *;clear Gb kl KO Gx h7 he gU h9 HT go HH Gh gN KH KI KU kO;obtain ⟨h6,Hm,hD,Ki,GI,kV,mt⟩:=zd7 hm hv hh Gq h5 Go gA;clear hm hv hh Gq h5 Go gA;go_wp2_with fail;have KF:=zI (show ∀Xw,Later wr Xw->Xw.cell? ⟨bx,ox+q,none⟩=some (sQ Sx xl cx2) from λXw h=>h.cell zx);refine Zm1 ?_;refine Zl1 (S:=λXw=>Xw.cell? ⟨bx,ox+q,none⟩=some (sQ Sx xl cx2)) krZ (KF.out _ Lau) (λhHeld=>?_);refine tk 0 ?_;refine tk 1 ?_;refine tk 2 ?_;refine tk 3 ?_;refine tk 4 ?_;refine tk 6 ?_;refine tk 7 ?_;refine tk 8 ?_;refine tk 9 ?_;refine rd 5 λK hK=>?_
              simp only [ga,gs,gz]
              go_simp
              refine hK.out _ _ (KF.out _ Lau) (λhHeld=>?_);clear hK K
              try simp only [ga,gs,gz,Act.put,sa,sz,ss]
              refine rd 10 λK hK=>?_
              simp only [ga,gs,gz]
              go_simp
              go_at_call 30;(with_reducible refine (Ki.out _ (Lau:Later wr _)).mono ?_);rintro e wn ⟨An,an,rfl,GF,Kh,ki,HL,kk⟩;have GU:Below _ _ wn:=HL;have hJ:=(Lau:Later wr wn)
              have zq:=hJ.cell zq;have kx:=(h6.out.later hJ).getg mt.out |>.choose_spec.choose_spec.2.2.2.2.2.1
              have hs:=(h6.out.later hJ).setg mt.out GF Kh ki (by rw [kV.out];exact H6) (qb5 (Z:=λz=>z<=w.heap.size+1) kk (λz h=>by have h2:z<=w.heap.size+1:=h;show z<wr.heap.size;omega));have hH:=(Hm.out.later hJ).slot zq sZ gc.1 H4.1 nbg (sQ An sm.length an);have hU:=(hD.out.trans hJ).set (p:=⟨gb,tn,none⟩) (show wB.heap.size<=gb by omega) (sQ An sm.length an);obtain ⟨hT,Hj,H3⟩:=zd3 hs hH hU;clear hs hH hU GF HL
              try go_wp2_with fail
              refine hK.out _ _ (KF.out _ Lau) (λhHeld=>?_);clear hK K
              try simp only [ga,gs,gz,Act.put,sa,sz,ss]
              refine tk 11 ?_;refine rd 12 λK hK=>?_
              simp only [ga,gs,gz]
              go_simp
              refine hK.out _ _ ?_ (λhHeld=>?_)
              ·(try dsimp only);((repeat (refine qa0 ?_ (by first|omega|(simp;done)|(simp;omega))))<;>(refine Later.cell (Lau:Later wr _) ?_)<;>assumption)
              clear hK K
              try simp only [ga,gs,gz,Act.put,sa,sz,ss]
              clear KF;refine Zn1 krZ ?_ _;refine Zd1 ?_;clear zq zx zi x8 kx GU hJ;have gD:=zI ((Later.refl (wn.setCell ⟨gb,tn,none⟩ (sQ An sm.length an))).drew);generalize wn.setCell ⟨gb,tn,none⟩ (sQ An sm.length an)=wz at *;go_wp2_with fail;go_roundw
              case rel=>first|exact ⟨q+1,by omega,by go_num,by rw [GI.out];exact hT.out,Hj.out,H3.out⟩|exact ⟨q+1,by omega,by go_num,by rw [GI.out];exact hT.out.later gD.out,Hj.out.later gD.out,H3.out.trans gD.out⟩
              case measure=>simp [intOf];omega
           ·obtain rfl:q=v.ins.length:=by omega
            have g9':iQ.wrap ((m:Int)-1)=(m:Int)-1:=Zc1 _ oZ;have gl:=Pn.addN_in (ins:=v.ins) gt.out KG.out v.ins.length;clear hq Hf;obtain ⟨h6,Hm,hD,GH⟩:=zd4 hm hv hh gl;clear hm hv hh gl;go_wp2_with fail;go_roundw
            case rel=>exact ⟨_,m,_,_,rfl,rfl,by omega,h6.out,hD.out,k8.out,kh.out,GH.out⟩
            case measure=>first|(simp [intOf];done)|(simp [intOf];omega)
theorem qcL (S C:Option Addr) (c d:Nat) (t:Ten) (w:Zp1) (hl:t.c.length<=1048576) (hI:Ints iQ w C t.c):
  Calls Tryz.prog 10 #[.agg #[sQ S t.s.length c,sQ C t.c.length d]] w (NewF t.c w):=by
 obtain ⟨i0,hi,hB,hq,hr⟩:=info_parts qaD;have hm:Later w (w.alloc (.cells #[sQ S t.s.length c,sQ C t.c.length d] 30)):=(Later.refl w).alloc _;have HI:=zI hI;clear hI;go_enter Tryz.func10,Tryz.ntmps10;go_wp2_with fail
 go_loopw [3,5,9] (λv _ i wr=>∃k:Nat,k<=t.c.length/\i=nQ iQ k/\wr.ownsRow w.heap.size 2 1 v k ((t.c.take k).map (Za1 iQ))/\Later w wr) (λ_ _ i _=>t.c.length-(intOf i).toNat)
 case atStart=>exact ⟨0,Zt _,rfl,World.ownsRow_nil _ _ _ _,hm⟩
 case round=>
  clear hm;obtain ⟨k,hk,rfl,hown,hg⟩:=hrel;obtain ⟨Ao,co,rfl⟩:=qa8 hown
  by_cases hh:k<t.c.length
  ·obtain ⟨b,off,rfl,hc⟩:=(HI.out.below hg (lrZ _)).spot_ hh
   have hj:(t.c.take (k+1)).map (Za1 iQ)=(t.c.take k).map (Za1 iQ)++[nQ iQ (Ly.at_ t.c k)]:=by rw [Zb hh,List.map_append,List.map_singleton,Ly.at_get hh]
   generalize Ly.at_ t.c k=x at *;generalize (t.c.take k).map (Za1 iQ)=vs at *;have ho:=qa6 hown (.cells #[nQ iQ x] 2);have hd:=hg.alloc (.cells #[nQ iQ x] 2);have hA:=hd.size;rw [Zh1] at hA;have hp:=zI (λb (hb:(Zb1 Ao k co).ownBlock=some b)=>(hown.lt b hb).1);obtain ⟨hs,hf⟩:=zd2 hj hown;clear hj hown;go_wp2_with (at_builtin;refine wpList_append_own_at _ rfl _ _ 48 rfl w.heap.size 2 i0 (nQ iQ 0) 1 8 Tryz.underlying48 hi hB hq hr rfl dZ _ _ _ rfl ho ⟨wr.heap.size,0,none⟩ 1 1 [nQ iQ x] rfl rfl ?c1 (by intro u hu;simp at hu;subst hu;rfl) (by unfold maxLen;omega) oZ ?c2 ?_)
   first|(case c1=>exact qap wr _ _)|skip
   first|(case c2=>simp;omega)|skip
   intro v' w4 ha hgrow _ hv;have hn:Later w w4:=Below.grown hd hgrow soZ (λb hb=>hp.out b hb);rw [←hs.out] at ha;have he:=zI ha;have hy:=zI hn;clear ha hn;clear hgrow hv ho hd hp;go_wp2_with fail;go_roundw
   case rel=>exact ⟨k+1,by omega,by go_num,he.out,hy.out⟩
   case measure=>simp [intOf];omega
  ·obtain rfl:k=t.c.length:=by omega
   rw [Zg] at hown;obtain ⟨q1,q2,q3⟩:=qal hown;obtain ⟨hf,hw,hx,ht,hz⟩:=zd5 hown q1 q2 q3 hg;clear hown q1 q2 q3 hg;go_wp2_with fail;go_ret;exact ⟨Ao,co,rfl,hw.out,hx.out,ht.out,hz.out,qaM hf.out⟩
theorem qdd (S C L:Option Addr) (c d e:Nat) (t:Ten) (w:Zp1) (hl:t.c.length<=1048576) (hI:Ints iQ w C t.c) (hJ:Ints iQ w L t.c):
  Calls Tryz.prog 12 #[.agg #[sQ S t.s.length c,sQ C t.c.length d],sQ L t.c.length e] w λe w'=>e=.returned (.bool true)/\Later w w':=by
 have he:=Blk.new w 30 #[sQ S t.s.length c,sQ C t.c.length d];have hf:Later w (w.alloc (.cells #[sQ S t.s.length c,sQ C t.c.length d] 30)):=(Later.refl w).alloc _;obtain ⟨HI,HJ,hi,hg⟩:=zd4 hI hJ he hf;clear hI hJ he hf;go_enter Tryz.func12,Tryz.ntmps12;go_wp2_with fail;generalize w.alloc (.cells #[sQ S t.s.length c,sQ C t.c.length d] 30)=w1 at *
 go_loopw [14] (λi wx=>∃k:Nat,k<=t.c.length/\i=nQ iQ (k:Int)/\Later w1 wx) (λi _=>t.c.length-(intOf i).toNat)
 case atStart=>exact ⟨0,Zt _,rfl,Later.refl _⟩
 case round=>
  obtain ⟨k,hk,rfl,ha⟩:=hrel
  by_cases hh:k<t.c.length
  ·have hd:=hg.out.trans ha
   have x1:wr.cell? ⟨w.heap.size,1,none⟩=some (sQ C t.c.length d):=by rw [(ha.blk hi.out).cell];rfl
   obtain ⟨b,off,rfl,hc⟩:=(HI.out.below hd (lrZ _)).spot_ hh;obtain ⟨b2,off2,rfl,hj⟩:=(HJ.out.below hd (lrZ _)).spot_ hh;generalize Ly.at_ t.c k=x at *;have j1:(k:Int)<(t.c.length:Int):=by omega
   have j2:(0:Int)<=(k:Int):=by omega
   have hb:=zI ha;clear ha;clear hd;go_wp2_with fail
   go_quiet (fail)
   go_wp2_with fail;go_roundw
   case rel=>exact ⟨k+1,by omega,by go_num,hb.out.drewN _⟩
   case measure=>simp [intOf];omega
  ·obtain rfl:k=t.c.length:=by omega
   have hb:=zI ha;clear ha;go_wp2_with fail;go_ret;exact ⟨rfl,hg.out.trans hb.out⟩
open Go.ChangeShapes Go.WideShapes Go.Deep Go.RowKit
theorem fix_one:Tryz.prog.cellsOf 42=1:=by kernel_rfl
theorem qh4:Tryz.prog.cellsOf 30=2:=by kernel_rfl
theorem qh5:Tryz.prog.underlying 30=some (.struct (Tryz.prog.fieldsOf 30)):=by kernel_rfl
theorem ten_two:(Tryz.prog.fieldsOf 30).size=2:=by kernel_rfl
theorem ten_f0:((Tryz.prog.fieldsOf 30)[0]?).map (λf=>(f.type,f.offset,Tryz.prog.cellsOf f.type))=some (23,0,1):=by kernel_rfl
theorem ten_f1:((Tryz.prog.fieldsOf 30)[1]?).map (λf=>(f.type,f.offset,Tryz.prog.cellsOf f.type))=some (28,1,1):=by kernel_rfl
theorem qh6 {H:Type} {enc:TypeId × Value->H} {W:Zp1} {base:Nat} {spare:Nat->Bool} {held:Bool} {fuel:Nat} {v:Value} {x:DataW H × List MemPlace}
  (h:DataW.trod enc Tryz.prog W base spare held fuel 28 [v]=some x) (hz:Rows.uptoBulk x.1<=1048576):
  ∃A c zs,v=sQ A zs.length c/\Ints iQ W A zs/\zs.length<=c/\c<=9223372036854775807/\zs.length<=1048576/\∀z∈zs,Fx.In z:=by
 obtain ⟨A,c,zs,rfl,hl,hc,hI,hw⟩:=qdW Tryz.underlying28 Tryz.underlying42 fix_one h;refine ⟨A,c,zs,rfl,hI,hc,?_,?_,λz hz=>qde (hw z hz)⟩
 ·rcases qaB Tryz.underlying28 h hz with e|⟨a,len,cap,e,_,hm,_⟩
  ·injection e with _ _ e;omega
  ·injection e with _ _ e;unfold maxLen at hm;omega
 ·rcases qaB Tryz.underlying28 h hz with e|⟨a,len,cap,e,_,_,hb,_⟩
  ·injection e with _ e _;rw [e];exact Zt _
  ·have e2:zs.length=len:=by simp at e;exact e.2.1
   rw [e2];exact hb
set_option maxRecDepth 100000 in
theorem qf9 {H:Type} {enc:TypeId × Value->H} {W:Zp1} {base:Nat} {spare:Nat->Bool} {held:Bool} {fuel:Nat} {v0 v1:Value} {x:DataW H × List MemPlace}
  (hf:DataW.trod enc Tryz.prog W base spare held fuel 30 [v0,v1]=some x) (hz:Rows.uptoBulk x.1<=1048576):
  ∃(S C:Option Addr) (c d:Nat) (t:Ten),v0=sQ S t.s.length c/\v1=sQ C t.c.length d/\TenIn W S C c d t:=by
 obtain ⟨ys,n,_,hx,_,ha,hg⟩:=DataW.trod_struct qh5 hf;rw [ten_two] at ha;obtain ⟨y0,y1,rfl⟩:=list2 ha;rw [hx] at hz;obtain ⟨f0,e0,t0⟩:=Option.map_eq_some_iff.1 ten_f0;simp only [Prod.mk.injEq] at t0;have h0:=hg 0 f0 e0;rw [t0.2.2,t0.2.1,t0.1] at h0;simp at h0;obtain ⟨f1,e1,t1⟩:=Option.map_eq_some_iff.1 ten_f1;simp only [Prod.mk.injEq] at t1;have h1:=hg 1 f1 e1;rw [t1.2.2,t1.2.1,t1.1] at h1;simp at h1;have hc:Rows.uptoBulk y0.1<=1048576:=by simp [Rows.uptoBulk,Rows.uptoBulkAll] at hz;omega
 have hb:Rows.uptoBulk y1.1<=1048576:=by simp [Rows.uptoBulk,Rows.uptoBulkAll] at hz;omega
 obtain ⟨S,c,zs,rfl,a1,a2,a3,a4,a5⟩:=qbh Tryz.underlying23 h0 hc;obtain ⟨C,d,cs,rfl,b1,b2,b3,b4,b5⟩:=qh6 h1 hb;exact ⟨S,C,c,d,⟨zs,cs⟩,rfl,rfl,⟨⟨a1,b1⟩,a2,a3,b2,b3,a4,b4,b5⟩⟩
structure TenQ where
 t:Ten
 S:Option Addr
 c:Nat
 C:Option Addr
 d:Nat
instance:Inhabited TenQ:=⟨⟨Ly.none_,none,0,none,0⟩⟩
theorem qh7 {H:Type} {enc:TypeId × Value->H} {W:Zp1} {base:Nat} {spare:Nat->Bool} {held:Bool} {fuel:Nat} {v:Value} {x:DataW H × List MemPlace}
  (h:DataW.trod enc Tryz.prog W base spare held fuel 27 [v]=some x) (hz:Rows.uptoBulk x.1<=1048576):
  ∃A c ts,v=sQ A ts.length c/\Tns W A ts/\ts.length<=c/\c<=9223372036854775807/\ts.length<=1048576:=by
 rcases qaB Tryz.underlying27 h hz with rfl|⟨a,len,cap,rfl,hl,hm,hb,hi⟩
 ·exact ⟨none,0,[],rfl,Tns.nil _ _,by simp,by omega,by simp⟩
 ·rw [qh4] at hi
  have key:∀i,i<len->∃q:TenQ,W.cell? ((a.add (i*2)).add 0)=some (.slice q.S q.t.s.length q.c)/\W.cell? ((a.add (i*2)).add 1)=some (.slice q.C q.t.c.length q.d)/\TenIn W q.S q.C q.c q.d q.t:=λi he=>by
   obtain ⟨cs',m,y,hc,ht,hw⟩:=hi i he;obtain ⟨_,ha,hd⟩:=World.cells?_some hc;obtain ⟨v0,v1,rfl⟩:=list2 ha;obtain ⟨S,C,c,d,t,rfl,rfl,hT⟩:=qf9 ht hw;exact ⟨⟨t,S,c,C,d⟩,hd 0 oZ,hd 1 oZ,hT⟩
  obtain ⟨L,hL,hq⟩:=qbG key;refine ⟨some a,cap,L.map (·.t),by simp [hL],λj hj=>?_,by simpa [hL] using hl,by unfold maxLen at hm;omega,by simp [hL];exact hb⟩;rw [List.length_map] at hj;obtain ⟨h1,h2,h3⟩:=hq j hj;obtain ⟨h0,_,_⟩:=hq 0 oZ;obtain ⟨b,off,rfl⟩:=qdv (v:=sQ L[0].S L[0].t.s.length L[0].c) (show W.cell? a=_ by simpa [Addr.add] using h0);simp only [qaV,Zx] at h1 h2;rw [List.getElem_map];exact ⟨b,off,_,_,_,_,rfl,Zj1 _ _ h1,h1,h2,h3⟩
open Go.ChangeShapes Go.WideShapes Go.Deep Go.RowKit
theorem qeL:Tryz.prog.cellsOf 32=5:=by kernel_rfl
theorem qcM:Tryz.prog.underlying 32=some (.struct (Tryz.prog.fieldsOf 32)):=by kernel_rfl
theorem qeM:(Tryz.prog.fieldsOf 32).size=3:=by kernel_rfl
theorem pcase_f0:((Tryz.prog.fieldsOf 32)[0]?).map (λf=>(f.type,f.offset,Tryz.prog.cellsOf f.type))=some (26,0,2):=by kernel_rfl
theorem pcase_f1:((Tryz.prog.fieldsOf 32)[1]?).map (λf=>(f.type,f.offset,Tryz.prog.cellsOf f.type))=some (27,2,1):=by kernel_rfl
theorem pcase_f2:((Tryz.prog.fieldsOf 32)[2]?).map (λf=>(f.type,f.offset,Tryz.prog.cellsOf f.type))=some (30,3,2):=by kernel_rfl
theorem list5 {α:Type} {l:List α} (h:l.length=5):∃a b c d e,l=[a,b,c,d,e]:=by
 match l,h with
 | [a,b,c,d,e],_=>exact ⟨a,b,c,d,e,rfl⟩
theorem qh8 {H:Type} {enc:TypeId × Value->H} {W:Zp1} {base:Nat} {spare:Nat->Bool} {held:Bool} {fuel:Nat} {v0 v1:Value} {x:DataW H × List MemPlace}
  (hf:DataW.trod enc Tryz.prog W base spare held fuel 26 [v0,v1]=some x) (hz:Rows.uptoBulk x.1<=1048576):
  ∃A N c1 c2 n,v0=sQ A (List.length (NetD.inn n)) c1/\v1=sQ N n.nodes.length c2/\n.inn.length<=c1/\c1<=9223372036854775807/\n.nodes.length<=c2/\c2<=9223372036854775807/\NetR W A N n/\n.fits:=by
 obtain ⟨ys,n,_,hx,_,ha,hg⟩:=DataW.trod_struct qgM hf;rw [net_two] at ha;obtain ⟨y0,y1,rfl⟩:=list2 ha;rw [hx] at hz;obtain ⟨f0,e0,t0⟩:=Option.map_eq_some_iff.1 net_f0;simp only [Prod.mk.injEq] at t0;have h0:=hg 0 f0 e0;rw [t0.2.2,t0.2.1,t0.1] at h0;simp at h0;obtain ⟨f1,e1,t1⟩:=Option.map_eq_some_iff.1 net_f1;simp only [Prod.mk.injEq] at t1;have h1:=hg 1 f1 e1;rw [t1.2.2,t1.2.1,t1.1] at h1;simp at h1;have hc:Rows.uptoBulk y0.1<=1048576:=by simp [Rows.uptoBulk,Rows.uptoBulkAll] at hz;omega
 have hb:Rows.uptoBulk y1.1<=1048576:=by simp [Rows.uptoBulk,Rows.uptoBulkAll] at hz;omega
 obtain ⟨A,c1,zs,rfl,a1,a2,a3,a4,a5⟩:=qbh Tryz.underlying23 h0 hc;obtain ⟨N,c2,ns,rfl,b1,b2,b3,b4,b5⟩:=qfH h1 hb;exact ⟨A,N,c1,c2,⟨zs,ns⟩,rfl,rfl,a2,a3,b2,b3,⟨a1,b1⟩,a4,b4,a5,b5⟩
set_option maxRecDepth 100000 in
theorem qfL {H:Type} {enc:TypeId × Value->H} {W:Zp1} {r:Reach} {b0 base:Nat} {spare:Nat->Bool} {held:Bool} {v:Value} {d:DataW H} {p:List MemPlace}
  (hv:Value.okWide Tryz.prog W r b0 32 v) (h:DataW.Trod enc Tryz.prog W base spare held 32 v d p) (hz:Rows.uptoBulk d<=1048576):
  ∃A N P XS XC c d cp xc xd n ps x,v=.agg #[sQ A (List.length (NetD.inn n)) c,sQ N n.nodes.length d,sQ P (List.length ps) cp,sQ XS (List.length (Ten.s x)) xc,sQ XC x.c.length xd]/\
   n.ok/\NetR W A N n/\n.nodes.length<=d/\n.inn.length<=c/\c<=9223372036854775807/\Tns W P ps/\ps.length<=1048576/\ps.length<=cp/\cp<=9223372036854775807/\(P=none->cp=0)/\TenIn W XS XC xc xd x:=by
 obtain ⟨cs,rfl,hd⟩:=okWide_struct qcM hv;obtain ⟨l⟩:=cs;obtain ⟨v0,v1,v2,v3,v4,rfl⟩:=list5 (hd.trans qeL);obtain ⟨fuel,hf⟩:=h;obtain ⟨ys,n,_,hx,_,ha,hg⟩:=DataW.trod_struct qcM hf;rw [qeM] at ha;obtain ⟨y0,y1,y2,rfl⟩:=list3 ha;simp only [Prod.mk.injEq,List.map_cons,List.map_nil] at hx;obtain ⟨rfl,_⟩:=hx;obtain ⟨f0,e0,t0⟩:=Option.map_eq_some_iff.1 pcase_f0;simp only [Prod.mk.injEq] at t0;have h0:=hg 0 f0 e0;rw [t0.2.2,t0.2.1,t0.1] at h0;simp [Value.cells] at h0;have he:Rows.uptoBulk y0.1<=1048576:=by simp [Rows.uptoBulk,Rows.uptoBulkAll] at hz;omega
 obtain ⟨f1,e1,t1⟩:=Option.map_eq_some_iff.1 pcase_f1;simp only [Prod.mk.injEq] at t1;have h1:=hg 1 f1 e1;rw [t1.2.2,t1.2.1,t1.1] at h1;simp [Value.cells] at h1;have hb:Rows.uptoBulk y1.1<=1048576:=by simp [Rows.uptoBulk,Rows.uptoBulkAll] at hz;omega
 obtain ⟨f2,e2,t2⟩:=Option.map_eq_some_iff.1 pcase_f2;simp only [Prod.mk.injEq] at t2;have h2:=hg 2 f2 e2;rw [t2.2.2,t2.2.1,t2.1] at h2;simp [Value.cells] at h2;have hc:Rows.uptoBulk y2.1<=1048576:=by simp [Rows.uptoBulk,Rows.uptoBulkAll] at hz;omega
 obtain ⟨A,N,c1,c2,n,rfl,rfl,a2,a3,a4,a5,a6,a7⟩:=qh8 h0 he;obtain ⟨P,cp,ps,rfl,p1,p2,p3,p4⟩:=qh7 h1 hb
 have pn:P=none->cp=0:=by
  rcases qaB Tryz.underlying27 h1 hb with e|⟨a,len,cap,e,_⟩
  ·injection e with e1 e2 e3
   intro;exact e3
  ·injection e with e1 e2 e3
   intro e;rw [e1] at e;cases e
 obtain ⟨XS,XC,xc,xd,x,rfl,rfl,hT⟩:=qf9 h2 hc;exact ⟨A,N,P,XS,XC,c1,c2,cp,xc,xd,n,ps,x,rfl,a7.ok,a6,a4,a2,a3,p1,p4,p2,p3,pn,hT⟩
end Go.Proofs.YtimfcikmpllbpaaGreat
