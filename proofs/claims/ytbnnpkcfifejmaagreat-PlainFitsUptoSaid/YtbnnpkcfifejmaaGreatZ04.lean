/- Lemmas for the statements of this seat: contracts of functions and the plain laws. -/
import Derived.BigQuiet
import Derived.ChangeSame
import Derived.Deep.AppendLies
import Derived.Deep.CutBlock
import Derived.Deep.DeepCutAuto
import Derived.Deep.Fields
import Derived.Deep.RegionHeld3
import Derived.Deep.RegionLaw
import Derived.Deep.Slices
import Derived.Defers
import Derived.Maps.AppendAt
import Derived.OpenShut
import Derived.ProofKit
import Derived.Recover
import Derived.Test.YtbnnpkcfifejmaaGreatZ03
set_option linter.unusedVariables false
open List renaming take_succ_eq_append_getElem → Zb, replicate → Zc, drop_eq_getElem_cons → Zd, length_append → Ze, all_eq_true → Zf, take_length → Zg, mem_of_mem_take → Zh, getElem?_eq_none → Zi, flatMap_append → Zj, getElem?_toArray → Zk, getElem?_append_right → Zl, getElem?_append_left → Zm, take_append_drop → Zn, length_take → Zo, mem_of_mem_drop → Zp, length_drop → Zq, getElem?_set_self → Zr, getElem?_set_ne → Zs
open Nat renaming zero_le → Zt, succ_mul → Zu, le_trans → Zv, zero_add → Zw, add_zero → Zx, le_succ → Zy
open Bool renaming and_eq_true → Zz
open Go.Value renaming int → Za1, slice → Zb1
open Go.IntWalk renaming i64_in → Zc1
open Go.NoPanic renaming normal → Zd1
open Go.RowKit.Below renaming refl → Ze1
open Go.AllReadyH renaming cons → Zf1, nil → Zg1
open Go.World renaming size_alloc → Zh1, cell?_of_block → Zi1, block_lt_of_cell? → Zj1
open Go renaming bodyPost_ret → Zk1, wp_region_held_drew → Zl1, wp_region_noPanic → Zm1, wpAnyH_done → Zn1, wpAnyH_ready → Zo1, World → Zp1
namespace Go.Proofs.YtbnnpkcfifejmaaGreat
set_option maxHeartbeats 16000000
open Go.RowKit
structure Norm (hi lo y:Int) (s:Nat) (Y A B U V1 V0:Int):Prop where
 y0:0<=Y
 y1:Y<=18446744073709551615
 a0:2147483648<=A
 a1:A<=4294967295
 b0:0<=B
 b1:B<=4294967295
 yab:Y=A*4294967296+B
 u0:0<=U
 u1:U<Y
 v0:0<=V1
 v1:V1<=4294967295
 w0:0<=V0
 w1:V0<=4294967295
 num:(hi.toNat * 18446744073709551616+lo.toNat)*2 ^ s=U.toNat * 18446744073709551616+V1.toNat * 4294967296+V0.toNat
 den:Y.toNat=y.toNat * 2 ^ s
theorem qcy:∀(f x:Nat),x<2 ^ f->x<2 ^ Lib.bitLenAux f x/\(x≠0->1<=Lib.bitLenAux f x/\2 ^ (Lib.bitLenAux f x-1)<=x)
 | 0,x,h=>by simp at h;subst h;simp [Lib.bitLenAux]
 | f+1,x,h=>by
  unfold Lib.bitLenAux
  by_cases h0:x=0
  ·subst h0;simp
  ·rw [if_neg h0]
   have h2:x / 2<2 ^ f:=by rw [Nat.pow_succ] at h;omega
   obtain ⟨a,b⟩:=qcy f (x / 2) h2;rw [Nat.add_comm,Nat.add_sub_cancel];refine ⟨by rw [Nat.pow_succ];omega,λ_=>⟨by omega,?_⟩⟩
   by_cases h1:x / 2=0
   ·rw [h1] at a
    have:Lib.bitLenAux f 0=0:=by cases f<;>simp [Lib.bitLenAux]
    rw [h1,this];simp;omega
   ·obtain ⟨b1,b2⟩:=b h1
    obtain ⟨m,hm⟩:∃m,Lib.bitLenAux f (x / 2)=m+1:=⟨_,(Nat.sub_add_cancel b1).symm⟩
    rw [hm,Nat.add_sub_cancel] at b2;rw [hm,Nat.pow_succ];omega
theorem qaU {y:Nat} (h0:1<=y) (h1:y<=18446744073709551615):Lib.bitLen y<=64/\1<=Lib.bitLen y/\9223372036854775808<=y*2 ^ (64-Lib.bitLen y)/\y*2 ^ (64-Lib.bitLen y)<=18446744073709551615:=by
 obtain ⟨a,b⟩:=qcy 64 y oZ;have b:=(b oZ).2
 change y<2 ^ Lib.bitLen y at a
 change 2 ^ (Lib.bitLen y-1)<=y at b
 have h2:Lib.bitLen y<=64:=by
  rcases Nat.lt_or_ge 64 (Lib.bitLen y) with h|h
  ·have:2 ^ 64<=2 ^ (Lib.bitLen y-1):=Nat.pow_le_pow_right oZ oZ
   omega
  ·exact h
 have h3:1<=Lib.bitLen y:=by
  rcases Nat.eq_zero_or_pos (Lib.bitLen y) with h|h
  ·rw [h] at a;simp at a;omega
  ·exact h
 generalize Lib.bitLen y=m at *;have e1:2 ^ (m-1)*2 ^ (64-m)=9223372036854775808:=by rw [←Nat.pow_add,show m-1+(64-m)=63 by omega]
 have e2:2 ^ m*2 ^ (64-m)=18446744073709551616:=by rw [←Nat.pow_add,show m+(64-m)=64 by omega]
 have c1:2 ^ (m-1)*2 ^ (64-m)<=y*2 ^ (64-m):=mlZ _ b;have c2:y*2 ^ (64-m)<2 ^ m*2 ^ (64-m):=Nat.mul_lt_mul_of_pos_right a (Nat.two_pow_pos _);rw [e1] at c1;rw [e2] at c2;exact ⟨h2,h3,c1,by omega⟩
theorem qg1 (a:Nat):IntKind.u64.wrap (a:Int)=((a % 18446744073709551616:Nat):Int):=by rw [IntKind.wrap_u64];omega
theorem qg2 (a:Nat) (ha:a<18446744073709551616):bits .and .u64 (a:Int) 4294967295=((a % 4294967296:Nat):Int):=by
 have h:=qeN a;rw [Nat.mod_eq_of_lt ha] at h;exact h
theorem qeO (n:Nat):(2:Int) ^ n=((2 ^ n:Nat):Int):=by simp
theorem norm_end {h l d k:Nat} {A B U V1 V0:Int} {yy uu ll:Nat} (w2:uu<yy) (w3:(h*18446744073709551616+l)*2 ^ k=uu*18446744073709551616+ll) (hl:ll<18446744073709551616) (m2:9223372036854775808<=yy) (m3:yy<=18446744073709551615)
  (hA:(yy:Int) / 4294967296=A) (hB:((yy % 4294967296:Nat):Int)=B) (hU:((uu:Nat):Int)=U) (hV1:(ll:Int) / 4294967296=V1) (hV0:((ll % 4294967296:Nat):Int)=V0) (hd:yy=d*2 ^ k):
  Norm h l d k yy A B U V1 V0:=by
 subst hA hB hU hV1 hV0;refine ⟨by omega,by omega,by omega,by omega,by omega,by omega,by omega,by omega,by omega,by omega,by omega,by omega,by omega,?_,?_⟩
 ·simp only [tnZ]
  rw [w3];omega
 ·simpa using hd
theorem norm (hi lo y s:Int) (Y A B U L V1 V0:Int) (h0:0<=hi) (h1:hi<y) (h2:y<=18446744073709551615) (l0:0<=lo) (l1:lo<=18446744073709551615) (hs:s=64-(Lib.bitLen y.toNat:Int))
  (hY:IntKind.u64.wrap (y*2 ^ s.toNat)=Y) (hA:Y / 4294967296=A) (hB:bits .and .u64 Y 4294967295=B)
  (hU:bits .or .u64 (IntKind.u64.wrap (hi*2 ^ s.toNat)) (lo / 2 ^ (64-s).toNat)=U) (hL:IntKind.u64.wrap (lo*2 ^ s.toNat)=L) (hV1:L / 4294967296=V1) (hV0:bits .and .u64 L 4294967295=V0):
  Norm hi lo y s.toNat Y A B U V1 V0:=by
 obtain ⟨h,rfl⟩:=ezZ h0;obtain ⟨l,rfl⟩:=ezZ l0;obtain ⟨d,rfl⟩:=ezZ (show 0<=y by omega);obtain ⟨m0,m1,m2,m3⟩:=qaU (y:=d) oZ oZ;rw [tnZ] at hs;obtain ⟨k,hk⟩:∃k,k=64-Lib.bitLen d:=⟨_,rfl⟩
 have hc:s.toNat=k:=by omega
 have hd:(64-s).toNat=64-k:=by omega
 have ha:k<64:=by omega
 rw [←hk] at m2 m3;rw [hc] at hY hU hL;rw [hd] at hU;rw [hc];clear hs hk hc hd m0 m1;have hb:l<18446744073709551616:=by omega
 have he:h<d:=by omega
 have w1:=Kd.low_lt (lo:=l) ha hb;have w2:=Kd.high_lt (hi:=h) (lo:=l) (y:=d) ha hb he;have w3:=Kd.words (hi:=h) ha hb;simp only [qeO,←Int.natCast_mul,←Int.natCast_ediv] at hY hU hL;rw [qg1] at hY hU hL
 have hh:h*2 ^ k<18446744073709551616:=by
  generalize l / 2 ^ (64-k)=z at w2;generalize h*2 ^ k=z2 at *;generalize d*2 ^ k=z3 at *;omega
 rw [Nat.mod_eq_of_lt oZ] at hY;rw [Nat.mod_eq_of_lt hh,bits_or_u64_nat _ _ hh oZ,or_mul _ _ k (2 ^ k) rfl w1] at hU;subst hY hL;rw [qg2 _ oZ] at hB hV0;exact norm_end w2 w3 (Nat.mod_lt _ dZ) m2 m3 hA hB hU hV1 hV0 rfl
def DRel (U V Y A B:Int) (q r:Int):Prop:=0<=q/\q<=4294967297/\0<=r/\r<=4294967295/\Kd.Inv U.toNat V.toNat Y.toNat A.toNat B.toNat q.toNat r.toNat
structure DOk (U V Y A B:Int):Prop where
 y0:0<=Y
 a0:2147483648<=A
 a1:A<=4294967295
 b0:0<=B
 b1:B<=4294967295
 yab:Y.toNat=A.toNat * 4294967296+B.toNat
 u0:0<=U
 u1:U<Y
 v0:0<=V
 v1:V<=4294967295
def digit (U V Y:Int):Int:=(((U.toNat * 4294967296+V.toNat) / Y.toNat:Nat):Int)
def drest (U V Y:Int):Int:=(((U.toNat * 4294967296+V.toNat) % Y.toNat:Nat):Int)
section
variable {U V Y A B q r:Int}
theorem qcz (h:DOk U V Y A B):0<=U / A*A/\U / A*A<=U/\0<=U / A/\U / A<=4294967297/\DRel U V Y A B (U / A) (U-U / A*A):=by
 obtain ⟨y0,a0,a1,b0,b1,yab,u0,u1,v0,v1⟩:=h;obtain ⟨u,rfl⟩:=ezZ u0;obtain ⟨a,rfl⟩:=ezZ (show 0<=A by omega);have e:(u:Int) / (a:Int)=((u / a:Nat):Int):=by simp
 have e2:((u / a:Nat):Int)*(a:Int)=((u / a*a:Nat):Int):=by simp
 have h0:=Nat.div_mul_le_self u a;have hi:=Kd.Inv.start (u:=u) (v:=V.toNat) (y:=Y.toNat) (a:=a) (b:=B.toNat) oZ (by simpa using yab) oZ oZ oZ;have h1:=hi.le;have h2:=Nat.mod_lt u (show 0<a by omega);have h3:=Nat.div_add_mod u a;rw [Nat.mul_comm] at h3;rw [e,e2];unfold DRel;have e3:((u:Int)-((u / a*a:Nat):Int)).toNat=u-u / a*a:=by omega
 rw [e3];simp only [tnZ];generalize u / a*a=x at *;generalize u / a=z at *;exact ⟨by omega,by omega,by omega,by omega,by omega,by omega,by omega,by omega,hi⟩
theorem qcW (hq:0<=q) (hq1:q<=4294967295) (hB:0<=B) (hB1:B<=4294967295):0<=q*B/\q*B<=18446744065119617025:=by
 refine ⟨Int.mul_nonneg hq hB,?_⟩;have:=Int.mul_le_mul hq1 hB1 hB oZ;omega
theorem qg3 (hr0:0<=r) (hq0:0<=q) (hv0:0<=V) (hB:0<=B):Kd.more q.toNat r.toNat B.toNat V.toNat=(decide (4294967296<=q) || decide (4294967296*r+V<q*B)):=by
 obtain ⟨q,rfl⟩:=ezZ hq0;obtain ⟨r,rfl⟩:=ezZ hr0;obtain ⟨V,rfl⟩:=ezZ hv0;obtain ⟨B,rfl⟩:=ezZ hB;have e2:(q:Int)*(B:Int)=((q*B:Nat):Int):=by simp
 unfold Kd.more;rw [e2];simp only [tnZ];rw [Bool.eq_iff_iff];simp only [Bool.or_eq_true,decide_eq_true_eq];omega
theorem qbr (h:DOk U V Y A B) (hd:DRel U V Y A B q r) (hm:(decide (4294967296<=q) || decide (4294967296*r+V<q*B))=true):
  1<=q/\(r+A<4294967296->DRel U V Y A B (q-1) (r+A))/\(4294967296<=r+A->q-1=digit U V Y):=by
 obtain ⟨y0,a0,a1,b0,b1,yab,u0,u1,v0,v1⟩:=h;obtain ⟨d0,d1,d2,d3,d4⟩:=hd;rw [←qg3 d2 d0 v0 b0] at hm;obtain ⟨k1,k2,k3⟩:=d4.next yab oZ oZ hm;have e1:(q-1).toNat=q.toNat-1:=by omega
 have e2:(r+A).toNat=r.toNat+A.toNat:=by omega
 refine ⟨by omega,λhr=>⟨by omega,by omega,by omega,by omega,by rw [e1,e2];exact k3⟩,λhr=>?_⟩;have:=k3.brk yab oZ oZ oZ oZ;unfold digit;omega
theorem qcX (h:DOk U V Y A B) (hd:DRel U V Y A B q r) (hm:(decide (4294967296<=q) || decide (4294967296*r+V<q*B))=false):q=digit U V Y:=by
 obtain ⟨y0,a0,a1,b0,b1,yab,u0,u1,v0,v1⟩:=h;obtain ⟨d0,d1,d2,d3,d4⟩:=hd;rw [←qg3 d2 d0 v0 b0] at hm;have:=d4.done yab oZ hm;unfold digit;omega
theorem qdm (h:DOk U V Y A B):0<=digit U V Y/\digit U V Y<=4294967295/\0<=drest U V Y/\drest U V Y<Y:=by
 obtain ⟨y0,a0,a1,b0,b1,yab,u0,u1,v0,v1⟩:=h;have h1:=Kd.digit_lt (u:=U.toNat) (v:=V.toNat) (y:=Y.toNat) oZ oZ;have h2:=Nat.mod_lt (U.toNat * 4294967296+V.toNat) (show 0<Y.toNat by omega);unfold digit drest;generalize (U.toNat * 4294967296+V.toNat) / Y.toNat=x at *;generalize (U.toNat * 4294967296+V.toNat) % Y.toNat=z at *;omega
theorem qcY (h:DOk U V Y A B):IntKind.u64.wrap (IntKind.u64.wrap (IntKind.u64.wrap (U*4294967296)+V)-IntKind.u64.wrap (digit U V Y*Y))=drest U V Y:=by
 have hb:=qdm h;obtain ⟨y0,a0,a1,b0,b1,yab,u0,u1,v0,v1⟩:=h;have h1:=Nat.div_add_mod (U.toNat * 4294967296+V.toNat) Y.toNat
 have e:digit U V Y*Y=((Y.toNat * ((U.toNat * 4294967296+V.toNat) / Y.toNat):Nat):Int):=by
  unfold digit;rw [Int.natCast_mul,Int.mul_comm,Int.toNat_of_nonneg y0]
 rw [e];unfold drest at *;generalize (U.toNat * 4294967296+V.toNat) % Y.toNat=z at *;generalize Y.toNat * ((U.toNat * 4294967296+V.toNat) / Y.toNat)=x at *;simp only [IntKind.wrap_u64];omega
end
theorem nat_two {m q1 q0:Nat} (h:m=q1*4294967296+q0):(q1:Int)*4294967296+(q0:Int)=(m:Int):=by omega
theorem nat_shr {m r s:Nat} (h:r / 2 ^ s=m):(r:Int) / 2 ^ s=(m:Int):=by rw [←h,qeO];exact (Int.natCast_ediv _ _).symm
theorem div_nat {n y s Y u v1 v0:Nat} (h1:n*2 ^ s=u*18446744073709551616+v1*4294967296+v0) (h2:Y=y*2 ^ s) (hY:0<Y):
  n / y=(u*4294967296+v1) / Y*4294967296+((u*4294967296+v1) % Y*4294967296+v0) / Y/\((u*4294967296+v1) % Y*4294967296+v0) % Y / 2 ^ s=n % y:=by
 obtain ⟨a,b⟩:=Kd.shifted n y s;obtain ⟨c,d⟩:=Kd.two (u:=u) (v1:=v1) (v0:=v0) hY;rw [←h1] at c d;rw [←h2] at a b;exact ⟨a.symm.trans c,by rw [←d];exact b⟩
theorem div_end {hi lo y:Int} {s:Nat} {Y A B U V1 V0:Int} (n:Norm hi lo y s Y A B U V1 V0):
  digit U V1 Y*4294967296+digit (drest U V1 Y) V0 Y=(((hi.toNat * 18446744073709551616+lo.toNat) / y.toNat:Nat):Int)/\drest (drest U V1 Y) V0 Y / 2 ^ s=(((hi.toNat * 18446744073709551616+lo.toNat) % y.toNat:Nat):Int):=by
 have hY:0<Y.toNat:=by have:=n.u0;have:=n.u1;omega
 obtain ⟨a,b⟩:=div_nat n.num n.den hY;have e:(drest U V1 Y).toNat=(U.toNat * 4294967296+V1.toNat) % Y.toNat:=tnZ _;rw [←e] at a b;exact ⟨nat_two a,nat_shr b⟩
theorem qep {a b a' b':Int} (h1:a=a') (h2:b=b'):Ending.returned (.tuple #[.int .u64 a,.int .u64 b])=.returned (.tuple #[.int .u64 a',.int .u64 b']):=by rw [h1,h2]
set_option maxRecDepth 20000 in
theorem qf9 (lo y:Int) (w:Zp1) (y1:1<=y) (h2:y<=18446744073709551615) (l0:0<=lo) (l1:lo<=18446744073709551615):
  Calls Tryz.prog 116 #[.int .u64 0,.int .u64 lo,.int .u64 y] w λe w'=>e=.returned (.tuple #[.int .u64 (lo / y),.int .u64 (lo % y)])/\∃n,w'=w.drewN n:=by
 have h1:0<y:=by omega
 go_enter Tryz.func116,Tryz.ntmps116;go_wp2_with fail
 go_quiet (fail)
 go_wp2_with fail
 go_ret2
 exact ⟨qep rfl rfl,nq,rfl⟩
set_option maxRecDepth 20000 in
theorem qg4 (hi lo y q z:Int) (w:Zp1) (h0:0<=hi) (hp:1<=hi) (h1:hi<y) (h2:y<=18446744073709551615) (l0:0<=lo) (l1:lo<=18446744073709551615)
  (hq:(((hi.toNat * 18446744073709551616+lo.toNat) / y.toNat:Nat):Int)=q) (hz:(((hi.toNat * 18446744073709551616+lo.toNat) % y.toNat:Nat):Int)=z):
  Calls Tryz.prog 116 #[.int .u64 hi,.int .u64 lo,.int .u64 y] w λe w'=>e=.returned (.tuple #[.int .u64 q,.int .u64 z])/\w=w':=by
 have y1:1<=y:=by omega
 obtain ⟨HQ,HZ⟩:=zd2 hq hz;clear hq hz;have d1:(hi==0)=false:=by simp;omega
 go_enter Tryz.func116,Tryz.ntmps116;go_wp2_with fail;refine (Tryz.bits_LeadingZeros64 y _ oZ oZ).mono ?_;rintro e w1 ⟨rfl,hl⟩;subst hl;obtain ⟨s,hs⟩:∃s:Int,s=64-(Lib.bitLen y.toNat:Int):=⟨_,rfl⟩
 rw [←hs];obtain ⟨m0,m1,_,_⟩:=qaU (y:=y.toNat) oZ oZ;have s0:0<=s:=by omega
 have s1:s<=63:=by omega
 have HS:=zI hs;clear hs m0 m1;go_upto_region 15 with fail;generalize hY:IntKind.u64.wrap (y*2 ^ s.toNat)=Y;generalize hA:Y / 4294967296=A;generalize hB:bits .and .u64 Y 4294967295=B;generalize hU:bits .or .u64 (IntKind.u64.wrap (hi*2 ^ s.toNat)) (lo / 2 ^ (64-s).toNat)=U;generalize hL:IntKind.u64.wrap (lo*2 ^ s.toNat)=L;generalize hV1:L / 4294967296=V1;generalize hV0:bits .and .u64 L 4294967295=V0;have N:=zI (norm hi lo y s Y A B U L V1 V0 h0 h1 h2 l0 l1 HS.out hY hA hB hU hL hV1 hV0);generalize IntKind.u64.wrap (hi*2 ^ s.toNat)=junk1;generalize lo / 2 ^ (64-s).toNat=junk2;clear hY hA hB hU hL hV1 hV0;obtain ⟨n1,n2,n3,n4,n5,n6,n14,n7,n8,n9,n10,n11,n12,n15,n16⟩:=N.out;have hh:DOk U V1 Y A B:=⟨n1,n3,n4,n5,n6,by omega,n7,n8,n9,n10⟩
 have n13:U<=18446744073709551614:=by omega
 have hf:=zI hh;obtain ⟨g1,g2,g3,g4,g5⟩:=qcz hh;obtain ⟨g6,g7,g8,g9⟩:=qdm hh;obtain ⟨hg,H0⟩:=zd2 g5 h0;clear n14 n15 n16 hh g5;have t1:0<=U-U / A*A:=by omega
 go_upto_block 0 with fail
 go_cut [15] (λq wx=>w1=wx/\q=.int .u64 (digit U V1 Y))
 case first=>
  go_wp2_with fail
  go_loop [15,16] (λqv rv=>∃q r:Int,qv=.int .u64 q/\rv=.int .u64 r/\DRel U V1 Y A B q r) (λqv _=>(intOf qv).toNat)
  case atStart=>exact ⟨_,_,rfl,rfl,hg.out⟩
  case round=>
   obtain ⟨q,r,rfl,rfl,hd⟩:=hrel;obtain ⟨d0,d1,d2,d3,_⟩:=id hd;have HD:=zI hd;clear hd g1 g2 g3 g4 g6 g7 g8 g9
   by_cases hq:4294967296<=q
   ·have hm:(decide (4294967296<=q) || decide (4294967296*r+V1<q*B))=true:=by simp [hq]
    obtain ⟨k1,k2,k3⟩:=qbr hf.out HD.out hm;obtain ⟨K2,K3⟩:=zd2 k2 k3;clear hm k2 k3
    by_cases hr:r+A<4294967296
    ·go_wp2_with fail
     go_round
     case rel=>exact ⟨q-1,r+A,rfl,rfl,K2.out hr⟩
     case measure=>simp [intOf];omega
    ·have hb:4294967296<=r+A:=by omega
     go_wp2_with fail
     go_meet
     exact ⟨rfl,by rw [K3.out hb]⟩
   ·have hj:q<=4294967295:=by omega
    obtain ⟨p0,p1⟩:=qcW d0 hj n5 n6
    by_cases hc:4294967296*r+V1<q*B
    ·have hm:(decide (4294967296<=q) || decide (4294967296*r+V1<q*B))=true:=by simp [hc]
     obtain ⟨k1,k2,k3⟩:=qbr hf.out HD.out hm;obtain ⟨K2,K3⟩:=zd2 k2 k3;clear hm k2 k3
     by_cases hr:r+A<4294967296
     ·go_wp2_with fail
      go_round
      case rel=>exact ⟨q-1,r+A,rfl,rfl,K2.out hr⟩
      case measure=>simp [intOf];omega
     ·have hb:4294967296<=r+A:=by omega
      go_wp2_with fail
      go_meet
      exact ⟨rfl,by rw [K3.out hb]⟩
    ·have hm:(decide (4294967296<=q) || decide (4294967296*r+V1<q*B))=false:=by simp [hc];omega
     have K3:=zI (qcX hf.out HD.out hm);clear hm;go_wp2_with fail
     go_meet
     exact ⟨rfl,by rw [←K3.out]⟩
 case rest=>
  obtain ⟨rfl,rfl⟩:=hcut;clear g1 g2 g3 g4 t1 hg;have HR:=zI (qcY hf.out);obtain ⟨e1,e2⟩:=div_end N.out;rw [HQ.out] at e1;rw [HZ.out] at e2;obtain ⟨E1,E2⟩:=zd2 e1 e2
  have ha:DOk (drest U V1 Y) V0 Y A B:=by
   obtain ⟨a0,a1,a2,a3,a4,a5,a6,a7,a8,a9⟩:=hf.out;exact ⟨a0,a1,a2,a3,a4,a5,g8,g9,n11,n12⟩
  have hk:=zI (qcY ha);obtain ⟨p1,p2,p3,p4,p5⟩:=qcz ha;obtain ⟨p6,p7,p8,p9⟩:=qdm ha;obtain ⟨hg,he⟩:=zd2 p5 ha;clear e1 e2 ha p5 N hf n7 n8 n13 H0;generalize digit U V1 Y=Q1 at *;go_upto_region 22 with fail;rw [HR.out];generalize drest U V1 Y=R at *;generalize IntKind.u64.wrap (Q1*Y)=junk3;generalize IntKind.u64.wrap (U*4294967296)=junk4;generalize IntKind.u64.wrap (junk4+V1)=junk5;have t1:0<=R-R / A*A:=by omega
  have t2:R<=18446744073709551614:=by omega
  go_upto_block 2 with fail
  go_cut [18] (λq wx=>w1=wx/\q=.int .u64 (digit R V0 Y))
  case first=>
   go_wp2_with fail
   go_loop [18,16] (λqv rv=>∃q r:Int,qv=.int .u64 q/\rv=.int .u64 r/\DRel R V0 Y A B q r) (λqv _=>(intOf qv).toNat)
   case atStart=>exact ⟨_,_,rfl,rfl,hg.out⟩
   case round=>
    obtain ⟨q,r,rfl,rfl,hd⟩:=hrel;obtain ⟨d0,d1,d2,d3,_⟩:=id hd;have HD:=zI hd;clear hd p1 p2 p3 p4 p6 p7 p8 p9
    by_cases hq:4294967296<=q
    ·have hm:(decide (4294967296<=q) || decide (4294967296*r+V0<q*B))=true:=by simp [hq]
     obtain ⟨k1,k2,k3⟩:=qbr he.out HD.out hm;obtain ⟨K2,K3⟩:=zd2 k2 k3;clear hm k2 k3
     by_cases hr:r+A<4294967296
     ·go_wp2_with fail
      go_round
      case rel=>exact ⟨q-1,r+A,rfl,rfl,K2.out hr⟩
      case measure=>simp [intOf];omega
     ·have hb:4294967296<=r+A:=by omega
      go_wp2_with fail
      go_meet
      exact ⟨rfl,by rw [K3.out hb]⟩
    ·have hj:q<=4294967295:=by omega
     obtain ⟨z0,z1⟩:=qcW d0 hj n5 n6
     by_cases hc:4294967296*r+V0<q*B
     ·have hm:(decide (4294967296<=q) || decide (4294967296*r+V0<q*B))=true:=by simp [hc]
      obtain ⟨k1,k2,k3⟩:=qbr he.out HD.out hm;obtain ⟨K2,K3⟩:=zd2 k2 k3;clear hm k2 k3
      by_cases hr:r+A<4294967296
      ·go_wp2_with fail
       go_round
       case rel=>exact ⟨q-1,r+A,rfl,rfl,K2.out hr⟩
       case measure=>simp [intOf];omega
      ·have hb:4294967296<=r+A:=by omega
       go_wp2_with fail
       go_meet
       exact ⟨rfl,by rw [K3.out hb]⟩
     ·have hm:(decide (4294967296<=q) || decide (4294967296*r+V0<q*B))=false:=by simp [hc];omega
      have K3:=zI (qcX he.out HD.out hm);clear hm;go_wp2_with fail
      go_meet
      exact ⟨rfl,by rw [←K3.out]⟩
  case rest=>
   obtain ⟨rfl,rfl⟩:=hcut;clear p1 p2 p3 p4 t1 hg;generalize digit R V0 Y=Q0 at *;go_wp2_with fail;rw [hk.out]
   go_ret2
   exact ⟨qep E1.out E2.out,rfl⟩
theorem div64 (hi lo y q z:Int) (w:Zp1) (h0:0<=hi) (h1:hi<y) (h2:y<=18446744073709551615) (l0:0<=lo) (l1:lo<=18446744073709551615)
  (hq:(((hi.toNat * 18446744073709551616+lo.toNat) / y.toNat:Nat):Int)=q) (hz:(((hi.toNat * 18446744073709551616+lo.toNat) % y.toNat:Nat):Int)=z):
  Calls Tryz.prog 116 #[.int .u64 hi,.int .u64 lo,.int .u64 y] w λe w'=>e=.returned (.tuple #[.int .u64 q,.int .u64 z])/\∃n,w'=w.drewN n:=by
 by_cases hp:hi=0
 ·subst hp
  rw [Int.toNat_zero,Nat.zero_mul,Zw] at hq hz;rw [Int.natCast_ediv,Int.toNat_of_nonneg l0,Int.toNat_of_nonneg (show 0<=y by omega)] at hq;rw [Int.natCast_emod,Int.toNat_of_nonneg l0,Int.toNat_of_nonneg (show 0<=y by omega)] at hz;refine (qf9 lo y w oZ h2 l0 l1).mono ?_;rintro e w' ⟨rfl,h⟩;exact ⟨qep hq hz,h⟩
 ·refine (qg4 hi lo y q z w h0 oZ h1 h2 l0 l1 hq hz).mono ?_
  rintro e w' ⟨rfl,rfl⟩;exact ⟨rfl,0,rfl⟩
theorem div_over {a b:Nat} (hb:1<=b) (h:b<=a / 4294967296):9223372036854775808<=Fx.rnd (a*4294967296) b:=by
 have h1:9223372036854775808<=a*4294967296 / b:=by
  rw [Nat.le_div_iff_mul_le oZ];omega
 unfold Fx.rnd
 split<;>omega
theorem rnd_ge {p b:Nat} (h:9223372036854775808<=p / b):9223372036854775808<=Fx.rnd p b:=by
 unfold Fx.rnd
 split<;>omega
set_option maxRecDepth 20000 in
theorem qg5 (x y:Int) (w:Zp1) (hx:Fx.In x) (hy:Fx.In y):Calls Tryz.prog 61 #[.int .i64 x,.int .i64 y] w λe w'=>e=.returned (.int .i64 (Fx.div x y))/\∃n,w'=w.drewN n:=by
 by_cases hd:y=0
 ·subst hd
  by_cases hc:x=0
  ·subst hc
   go_enter Tryz.func61,Tryz.ntmps61;go_wp2_with fail;go_ret;exact ⟨rfl,0,rfl⟩
  ·have d:(x==0)=false:=by simpa using hc
   have HE:=zI (show Fx.edge (decide (x<0))=Fx.div x 0 by unfold Fx.div;rw [if_pos rfl,if_neg hc]);clear hc hx hy;go_enter Tryz.func61,Tryz.ntmps61;go_wp2_with fail;refine (qbq _ _).mono ?_;rintro e w1 ⟨rfl,rfl⟩;go_wp2_with fail;go_ret;exact ⟨qa9 HE.out,0,rfl⟩
 ·have d:(y==0)=false:=by simpa using hd
  have HD:=zI (show Fx.clamp (Fx.sgn (Fx.neg2 x y) (Fx.rnd (x.natAbs*4294967296) y.natAbs))=Fx.div x y by unfold Fx.div;rw [if_neg hd]);have hh:1<=y.natAbs:=by omega
  have hf:=qbe hy;have hk:=qbe hx;obtain ⟨HX,HY,hj,hg,hl⟩:=zd5 hx hy hh hf hk;clear hx hy hd hh hf hk;go_enter Tryz.func61,Tryz.ntmps61;go_wp2_with fail;generalize hN:(!(decide (x<0)==decide (y<0)))=nb;rw [show Fx.neg2 x y=nb from hN] at HD;clear hN;refine (qcn x _ HX.out).mono ?_;rintro e w1 ⟨rfl,rfl⟩;go_wp2_with fail;refine (qcn y _ HY.out).mono ?_;rintro e w1 ⟨rfl,rfl⟩;obtain ⟨a,ha⟩:∃a:Int,a=(x.natAbs:Int):=⟨_,rfl⟩
  obtain ⟨b,hb⟩:∃b:Int,b=(y.natAbs:Int):=⟨_,rfl⟩
  have a0:0<=a:=by omega
  have b1:1<=b:=by have:=hj.out;omega
  have a2:a<=9223372036854775808:=by have:=hl.out;omega
  have b2:b<=9223372036854775808:=by have:=hg.out;omega
  have ea:x.natAbs=a.toNat:=by omega
  have eb:y.natAbs=b.toNat:=by omega
  rw [ea,eb] at HD;rw [←ha,←hb];clear ha hb ea eb hj hg hl;go_upto_region 8 with fail;generalize hhi:a / 4294967296=hi;generalize hlo:IntKind.u64.wrap (a*4294967296)=lo;have h0:0<=hi:=by omega
  have h1:hi<=2147483648:=by omega
  have l0:0<=lo:=by rw [IntKind.wrap_u64] at hlo;omega
  have l1:lo<=18446744073709551615:=by rw [IntKind.wrap_u64] at hlo;omega
  obtain ⟨HH,HL⟩:=zd2 hhi hlo;clear hhi hlo
  by_cases ho:b<=hi
  ·have HE:RowKit.Hid (Fx.edge nb=Fx.div x y):=by
    rw [←HD.out];have:=HH.out;exact (Fx.clamp_sgn_big (div_over oZ oZ)).symm
   go_wp2_with fail;refine (qbq _ _).mono ?_;rintro e w1 ⟨rfl,rfl⟩;go_wp2_with fail;go_ret;exact ⟨qa9 HE.out,0,rfl⟩
  ·have hm:hi<b:=by omega
   have hp:hi.toNat * 18446744073709551616+lo.toNat=a.toNat * 4294967296:=by
    have h5:=HH.out;have h6:=HL.out;rw [IntKind.wrap_u64] at h6;omega
   have HP:=zI hp;clear hp;obtain ⟨q,hq⟩:∃q:Int,q=((a.toNat * 4294967296 / b.toNat:Nat):Int):=⟨_,rfl⟩
   obtain ⟨z,hz⟩:∃z:Int,z=((a.toNat * 4294967296 % b.toNat:Nat):Int):=⟨_,rfl⟩
   have q0:0<=q:=by rw [hq];exact Int.natCast_nonneg _
   have q1:q<=18446744073709551615:=by
    have h3:a.toNat * 4294967296 / b.toNat<18446744073709551616:=by
     rw [Nat.div_lt_iff_lt_mul oZ];have:=HH.out;omega
    rw [hq];generalize a.toNat * 4294967296 / b.toNat=m at *;omega
   have z0:0<=z:=by rw [hz];exact Int.natCast_nonneg _
   have z1:z<b:=by
    have h3:=Nat.mod_lt (a.toNat * 4294967296) (show 0<b.toNat by omega);rw [hz];generalize a.toNat * 4294967296 % b.toNat=m at *;omega
   obtain ⟨HQ,HZ⟩:=zd2 hq hz;clear hq hz;have HA:RowKit.Hid (∀n:Int,n.toNat=Fx.rnd (a.toNat * 4294967296) b.toNat->Fx.clamp (Fx.sgn nb n.toNat)=Fx.div x y):=λn hn=>by rw [hn];exact HD.out
   have odd:bits .and .u64 q 1=q % 2:=by
    obtain ⟨n,rfl⟩:=ezZ q0;rw [qg0 n oZ];omega
   go_wp2_with fail;refine (div64 hi lo b q z _ h0 hm oZ l0 l1 (by rw [HP.out];exact HQ.out.symm) (by rw [HP.out];exact HZ.out.symm)).mono ?_;rintro e w1 ⟨rfl,n,rfl⟩
   by_cases he:9223372036854775808<=q
   ·have HE:RowKit.Hid (Fx.edge nb=Fx.div x y):=by
     rw [←HD.out];have:=HQ.out;refine (Fx.clamp_sgn_big (rnd_ge ?_)).symm;generalize a.toNat * 4294967296 / b.toNat=m at *;omega
    go_wp2_with fail;refine (qbq _ _).mono ?_;rintro e w1 ⟨rfl,rfl⟩;go_wp2_with fail;go_ret;exact ⟨qa9 HE.out,n,rfl⟩
   ·have hs:q<=9223372036854775807:=by omega
    clear he q1
    have hr:Fx.rnd (a.toNat * 4294967296) b.toNat=if b.toNat<2*z.toNat∨(2*z.toNat=b.toNat/\q.toNat % 2=1) then q.toNat+1 else q.toNat:=by
     unfold Fx.rnd;rw [HQ.out,HZ.out,tnZ,tnZ]
    have HR:=zI hr;clear hr
    by_cases c1:b-z<z
    ·have hz:(q+1).toNat=Fx.rnd (a.toNat * 4294967296) b.toNat:=by rw [HR.out,if_pos oZ];omega
     have Hz:=zI hz;clear hz;go_wp2_with fail;refine (qah (q+1) nb _ oZ oZ).mono ?_;rintro e w1 ⟨rfl,rfl⟩;go_wp2_with fail;go_ret;exact ⟨qa9 (HA.out _ Hz.out),n,rfl⟩
    ·by_cases c2:z=b-z
     ·have d2:(z==b-z)=true:=by simpa using c2
      have c3:2*z=b:=by omega
      by_cases c4:q % 2=1
      ·have d3:(q % 2==1)=true:=by simpa using c4
       have hz:(q+1).toNat=Fx.rnd (a.toNat * 4294967296) b.toNat:=by rw [HR.out,if_pos oZ];omega
       have Hz:=zI hz;clear hz c2 c3 c4;go_wp2_with fail;refine (qah (q+1) nb _ oZ oZ).mono ?_;rintro e w1 ⟨rfl,rfl⟩;go_wp2_with fail;go_ret;exact ⟨qa9 (HA.out _ Hz.out),n,rfl⟩
      ·have d3:(q % 2==1)=false:=by simpa using c4
       have hz:q.toNat=Fx.rnd (a.toNat * 4294967296) b.toNat:=by rw [HR.out,if_neg oZ]
       have Hz:=zI hz;clear hz c2 c3 c4;go_wp2_with fail;refine (qah q nb _ oZ oZ).mono ?_;rintro e w1 ⟨rfl,rfl⟩;go_wp2_with fail;go_ret;exact ⟨qa9 (HA.out _ Hz.out),n,rfl⟩
     ·have d2:(z==b-z)=false:=by simpa using c2
      have hz:q.toNat=Fx.rnd (a.toNat * 4294967296) b.toNat:=by rw [HR.out,if_neg oZ]
      have Hz:=zI hz;clear hz c2;go_wp2_with fail;refine (qah q nb _ oZ oZ).mono ?_;rintro e w1 ⟨rfl,rfl⟩;go_wp2_with fail;go_ret;exact ⟨qa9 (HA.out _ Hz.out),n,rfl⟩
open Go.ChangeShapes Go.WideShapes Go.Deep Go.RowKit
section
variable {H:Type} {enc:TypeId × Value->H} {P:Program} {w:Zp1} {base:Nat} {spare:Nat->Bool} {held:Bool}
end
theorem qg6 {w:Zp1} {a:Addr} {v:Value} (h:w.cell? (a.add 0)=some v):∃b off,a=⟨b,off,none⟩:=by
 obtain ⟨b,off,spot⟩:=a;have hs:spot=none:=by simpa [Addr.add] using World.cell?_spot h
 subst hs;exact ⟨b,off,rfl⟩
theorem qc5 (b off j:Nat):(⟨b,off,none⟩:Addr).add j=⟨b,off+j,none⟩:=by
 unfold Addr.add;split<;>simp_all
section
variable {H:Type} {enc:TypeId × Value->H} {P:Program} {w:Zp1} {base:Nat} {spare:Nat->Bool} {held:Bool}
theorem qdX {t e:TypeId} {k:IntKind} {fuel:Nat} {v:Value} {x:DataW H × List MemPlace} (ht:P.underlying t=some (.slice e)) (he:P.underlying e=some (.int k)) (hc:P.cellsOf e=1) (h:DataW.trod enc P w base spare held fuel t [v]=some x):
  ∃A cap zs,v=.slice A zs.length cap/\zs.length<=9223372036854775807/\zs.length<=cap/\Ints k w A zs/\∀n∈zs,(Lit.int k n).wf=true:=by
 rcases open_ints ht he hc h with ⟨hb,_⟩|⟨a,len,cap,zs,hb,_,hl,hm,hz,_,ha,hh⟩
 ·simp at hb;subst hb
  exact ⟨none,0,[],rfl,by simp,by simp,Ints.nil,by simp⟩
 ·simp at hb;subst hb
  have hi:len<=zs.length:=by rw [hz];split<;>omega
  have hf:(zs.take len).length=len:=by rw [Zo];omega
  refine ⟨some a,cap,zs.take len,by rw [hf],by rw [hf];unfold maxLen at hm;omega,by omega,λj hj=>?_,λn hn=>hh n (Zh hn)⟩;have hg:j<len:=by omega
  obtain ⟨b,off,rfl⟩:=qg6 (w:=w) (a:=a) (v:=.int k (zs.getD 0 0)) (ha 0 oZ);have hd:=ha j oZ;rw [qc5] at hd;refine ⟨b,off,rfl,Zj1 _ _ hd,?_⟩;rw [hd];have e:(zs.take len).getD j 0=zs.getD j 0:=by simp [gdZ,hg]
  rw [e]
end
theorem In_at {l:List Int} (h:∀z∈l,Fx.In z) {k:Nat} (hk:k<l.length):Fx.In l[k]:=h _ (gmZ hk)
theorem sum_succ {l:List Int} {k:Nat} (hk:k<l.length):Fx.sum (l.take (k+1))=Fx.add (Fx.sum (l.take k)) l[k]:=by
 unfold Fx.sum;rw [Zb hk,List.foldl_append]
 rfl
theorem dot_succ {a b:List Int} {k:Nat} (hk:k<a.length) (hk2:k<b.length):Fx.dot (a.take (k+1)) (b.take (k+1))=Fx.add (Fx.dot (a.take k) (b.take k)) (Fx.mul a[k] b[k]):=by
 unfold Fx.dot;rw [Zb hk,Zb hk2,List.zip_append soZ,List.foldl_append]
 rfl
theorem qaX {l:List Int} {k:Nat} (hk:k<l.length):l.getD k 0=l[k]:=by rw [gdZ,geZ hk];rfl
theorem fix_sum (A:Option Addr) (c:Nat) (xs:List Int) (w:Zp1) (hl:xs.length<=9223372036854775807) (hI:Ints .i64 w A xs) (hin:∀z∈xs,Fx.In z):
  Calls Tryz.prog 143 #[.slice A xs.length c] w λe w'=>e=.returned (.int .i64 (Fx.sum xs))/\w=w':=by
 obtain ⟨hb,HI⟩:=zd2 hin hI;clear hI;clear hin;go_enter Tryz.func143,Tryz.ntmps143;go_wp2_with fail
 go_loop [3,8] (λs i=>∃k:Nat,k<=xs.length/\i=.int .i64 k/\s=.int .i64 (Fx.sum (xs.take k))) (λ_ i=>xs.length-(intOf i).toNat)
 case atStart=>exact ⟨0,Zt _,rfl,rfl⟩
 case round=>
  obtain ⟨k,hk,rfl,rfl⟩:=hrel
  by_cases ha:k<xs.length
  ·obtain ⟨b,off,rfl,-,hc⟩:=HI.out k ha
   rw [qaX ha] at hc;have hx:=In_at hb.out ha;have hs:=sum_succ ha;have h0:=Fx.sum_in (xs.take k);generalize Fx.sum (xs.take k)=s at *;generalize xs[k]=x at *;obtain ⟨HS,HX,H0⟩:=zd3 hs hx h0;clear hs hx h0;go_wp2_with fail;refine (qaM s x _ H0.out HX.out).mono ?_;rintro e w1 ⟨rfl,rfl⟩;go_wp2_with fail
   go_round
   case rel=>exact ⟨k+1,by omega,by go_num,by rw [HS.out]⟩
   case measure=>simp [intOf];omega
  ·obtain rfl:k=xs.length:=by omega
   rw [Zg];go_wp2_with fail;go_ret;exact ⟨rfl,rfl⟩
theorem fix_dot (A B:Option Addr) (c d:Nat) (a b:List Int) (w:Zp1) (hl:a.length<=1000000) (hn:b.length=a.length) (hI:Ints .i64 w A a) (hJ:Ints .i64 w B b) (ha:∀z∈a,Fx.In z) (hb:∀z∈b,Fx.In z):
  Calls Tryz.prog 142 #[.slice A a.length c,.slice B a.length d] w λe w'=>e=.returned (.int .i64 (Fx.dot a b))/\∃n,w'=w.drewN n:=by
 obtain ⟨HN,HI,HJ,Ha,Hb⟩:=zd5 hn hI hJ ha hb;clear hI hJ ha hb;clear hn;go_enter Tryz.func142,Tryz.ntmps142;go_wp2_with fail
 go_loopw [5,12] (λs i wr=>∃k n:Nat,k<=a.length/\i=.int .i64 k/\s=.int .i64 (Fx.dot (a.take k) (b.take k))/\wr=w.drewN n) (λ_ i _=>a.length-(intOf i).toNat)
 case atStart=>exact ⟨0,0,Zt _,rfl,rfl,rfl⟩
 case round=>
  obtain ⟨k,n,hk,rfl,rfl,hw⟩:=hrel;have hi:Ints .i64 wr A a:=by rw [hw];exact HI.out.drewN n
  have hh:Ints .i64 wr B b:=by rw [hw];exact HJ.out.drewN n
  obtain ⟨Hw,hm,hq⟩:=zd3 hw hi hh;clear hw hi hh
  by_cases he:k<a.length
  ·have hd:k<b.length:=by have:=HN.out;omega
   obtain ⟨ba,oa,rfl,-,hc⟩:=hm.out k he;obtain ⟨bb,ob,rfl,-,hj⟩:=hq.out k hd;rw [qaX he] at hc;rw [qaX hd] at hj;have hx:=In_at Ha.out he;have hy:=In_at Hb.out hd;have hs:=dot_succ he hd;have h0:=Fx.dot_in (a.take k) (b.take k);generalize Fx.dot (a.take k) (b.take k)=s at *;generalize a[k]=x at *;generalize b[k]=y at *;have hf:=λn=>qaA x y (wr.drewN n) hx hy
   have hg:=λn=>qaM s (Fx.mul x y) (wr.drewN n) h0 (Fx.mul_in x y)
   have HS:=zI hs;clear hs hx hy h0 hd;obtain ⟨ho,hp⟩:=zd2 hf hg;clear hf hg;have k1:(k:Int)<(a.length:Int):=by omega
   have k2:(0:Int)<=(k:Int):=by omega
   go_wp2_with fail
   go_quiet (first|(go_at_call 54;exact qaB (ho.out _))|(go_at_call 55;exact qaB (hp.out _)))
   go_wp2_with fail;go_roundw
   case rel=>exact ⟨k+1,n+nq,by omega,by go_num,by rw [HS.out],by rw [Hw.out,World.drewN_drewN]⟩
   case measure=>simp [intOf];omega
  ·obtain rfl:k=a.length:=by omega
   have e:a.length=b.length:=HN.out.symm;rw [Zg,show b.take a.length=b by rw [e,Zg]];clear e;go_wp2_with fail;go_ret;exact ⟨rfl,n,Hw.out⟩
theorem qdY (x l h:Int) (w:Zp1):Calls Tryz.prog 156 #[.int .i64 x,.int .i64 l,.int .i64 h] w λe w'=>e=.returned (.int .i64 (Fx.held x l h))/\w=w':=by
 by_cases h1:h<x
 ·have E:=zI (show h=Fx.held x l h by unfold Fx.held;rw [if_pos h1])
  go_enter Tryz.func156,Tryz.ntmps156;go_wp2_with fail;go_ret;exact ⟨qa9 E.out,rfl⟩
 ·by_cases h2:x<l
  ·have E:=zI (show l=Fx.held x l h by unfold Fx.held;rw [if_neg h1,if_pos h2])
   go_enter Tryz.func156,Tryz.ntmps156;go_wp2_with fail;go_ret;exact ⟨qa9 E.out,rfl⟩
  ·have E:=zI (show x=Fx.held x l h by unfold Fx.held;rw [if_neg h1,if_neg h2])
   go_enter Tryz.func156,Tryz.ntmps156;go_wp2_with fail;go_ret;exact ⟨qa9 E.out,rfl⟩
theorem qb5 (w:Zp1):Calls Tryz.prog 120 #[.int .i64 4294967296] w λe w'=>e=.returned (.int .i64 (-4294967296))/\w=w':=by
 go_enter Tryz.func120,Tryz.ntmps120;go_wp2_with fail;go_ret;exact ⟨rfl,rfl⟩
theorem qc6 (n:Int) (w:Zp1) (h0:0<=n) (h1:n<2147483648):Calls Tryz.prog 62 #[.int .i64 n] w λe w'=>e=.returned (.int .i64 (n*4294967296))/\w=w':=by
 go_enter Tryz.func62,Tryz.ntmps62;go_wp2_with fail;go_ret;exact ⟨rfl,rfl⟩
structure Ten where
 s:List Int
 c:List Int
namespace Tn
def right (t:Ten):Bool:=Sh.right t.s&&decide ((t.c.length:Int)=Safe.prod t.s)
theorem right_false {t:Ten} (h:Sh.right t.s=false):right t=false:=by simp [right,h]
theorem right_true {t:Ten} (h:Sh.right t.s=true):right t=decide ((t.c.length:Int)=Safe.prod t.s):=by simp [right,h]
end Tn
def TenR (w:Zp1) (S C:Option Addr) (t:Ten):Prop:=Ints .i64 w S t.s/\Ints .i64 w C t.c
def TenN (B:Nat) (w:Zp1) (v:Value) (t:Ten):Prop:=
 ∃g h,v=.agg #[.slice (some ⟨g,0,none⟩) t.s.length t.s.length,.slice (some ⟨h,0,none⟩) t.c.length t.c.length]/\B<=g/\B<=h/\
  Blk w g 3 (t.s.map (Za1 .i64)).toArray/\Blk w h 22 (t.c.map (Za1 .i64)).toArray
theorem Blk.ints {w:Zp1} {g:Nat} {t:TypeId} {k:IntKind} {zs:List Int} (h:Blk w g t (zs.map (Za1 k)).toArray):Ints k w (some ⟨g,0,none⟩) zs:=Ints.of_row λj hj=>by
 rw [Zw,h.cell j];simp [hj]
theorem qa2 (S C:Option Addr) (c d:Nat) (t:Ten) (w:Zp1) (hl:t.s.length<=9223372036854775807) (hl':t.c.length<=9223372036854775807) (hI:Ints .i64 w S t.s):
  Calls Tryz.prog 51 #[.agg #[.slice S t.s.length c,.slice C t.c.length d]] w λe w'=>e=.returned (.bool (Tn.right t))/\Below w.heap.size w w':=by
 have HI:=zI (hI.alloc (.cells #[.slice S t.s.length c,.slice C t.c.length d] 30));clear hI;have ha:Below w.heap.size w (w.alloc (.cells #[.slice S t.s.length c,.slice C t.c.length d] 30)):=(Ze1 _ _).alloc (lrZ _) _;go_enter Tryz.func51,Tryz.ntmps51;go_wp2_with fail;refine (qad S c t.s _ oZ HI.out).mono ?_;rintro e w1 ⟨rfl,h1⟩;have hz:=h1.size;rw [Zh1] at h1 hz;have hc:w1.cell? ⟨w.heap.size,1,none⟩=some (.slice C t.c.length d):=by rw [h1.cell (p:=⟨w.heap.size,1,none⟩) (Nat.lt_succ_self _)];simp
 have hb:=ha.trans (h1.mono (Zy _));clear h1 ha HI;cases hr:Sh.right t.s
 ·have HS:=zI (show Sh.size t.s=(0,20) by simp [Sh.size,hr])
  have HR:=zI (Tn.right_false hr);clear hr;rw [HS.out];go_wp2_with fail;go_ret;exact ⟨by rw [HR.out];rfl,hb⟩
 ·have HS:=zI (show Sh.size t.s=(Safe.prod t.s,0) by simp [Sh.size,hr])
  have HR:=zI (Tn.right_true hr);clear hr;rw [HS.out];go_wp2_with fail;go_ret;refine ⟨?_,hb⟩;rw [HR.out]
  by_cases he:(t.c.length:Int)=Safe.prod t.s
  ·simp [he]
  ·simp [he]
def TenPost (t:Ten) (w:Zp1) (e:Ending) (w':Zp1):Prop:=∃v,e=.returned v/\TenN w.heap.size w' v t/\Below w.heap.size w w'
theorem qa8 (S C:Option Addr) (c d:Nat) (t:Ten) (w:Zp1) (hl:t.s.length<=1000000) (hl':t.c.length<=1000000) (hT:TenR w S C t):
  Calls Tryz.prog 52 #[.agg #[.slice S t.s.length c,.slice C t.c.length d]] w (TenPost t w):=by
 obtain ⟨i0,hi,hG,hB,hD⟩:=info_parts qbL;obtain ⟨hI,hC⟩:=hT;obtain ⟨HI,HC⟩:=zd2 hI hC;clear hI hC;go_enter Tryz.func52,Tryz.ntmps52;go_wp2_with (at_make;refine wpList_make_full _ rfl _ _ 28 rfl w.heap.size 22 i0 (.int .i64 0) 1 Tryz.underlying28 hi hG hB _ _ _ _ t.c.length rfl rfl (by first|rfl|simp) (by first|rfl|simp) ?b2 ?b3 ?b4 ?_)
 case b2=>rw [hD];omega
 case b3=>unfold maxLen;omega
 case b4=>simp;omega
 intro w1 hown hgrow;have he:=qaS hown;have hd:=hown.1;generalize hw0:(w.alloc (.cells #[.slice S t.s.length c,.slice C t.c.length d] 30)).alloc (.cells #[.slice none 0 0,.slice none 0 0] 30)=w0 at hgrow;have hF:w0.heap.size=w.heap.size+2:=by subst hw0;simp
 have hx:Below w.heap.size w w0:=by subst hw0;exact ((Ze1 _ _).alloc (lrZ _) _).alloc sZ _
 have hq:Blk w0 w.heap.size 30 #[.slice S t.s.length c,.slice C t.c.length d]:=by subst hw0;exact (Blk.new w _ _).alloc _
 have ht:Blk w0 (w.heap.size+1) 30 #[.slice none 0 0,.slice none 0 0]:=by subst hw0;have:=Blk.new (w.alloc (.cells #[.slice S t.s.length c,.slice C t.c.length d] 30)) 30 #[.slice none 0 0,.slice none 0 0];rwa [Zh1] at this
 clear hw0;have hb:=hq.grown hgrow sZ;have hh:=ht.grown hgrow sZ;have hn:Below w.heap.size w w1:=hx.grown hgrow oZ sZ;have hH:=hgrow.size;have hw:=zI (HC.out.below hn (lrZ _));have c0:=hb.cell 0;have c1:=hb.cell 1;simp at c0 c1;generalize (madeCells #[Za1 .i64 0] t.c.length).toList=cur at *;clear hown hgrow HC hq ht hx;go_wp2_with (with_reducible refine wpList_copy_splice rfl (.tmp 8) (.tmp 10) 28 28 rfl 22 Tryz.underlying28 ?d1 (some ⟨w.heap.size+1+1,0,none⟩) C t.c.length t.c.length t.c.length d rfl rfl (w.heap.size+1+1) 0 cur 22 he (t.c.map (Za1 .i64)) ?d2 ?d3 ?d4 ?d5 (w.heap.size+2) w1 (Ze1 _ _) (lrZ _) ?_)
 case d1=>kernel_rfl
 case d2=>simp
 case d3=>intro hp;exact hw.out.src' (by simpa using hp)
 case d4=>simp at hd ⊢;omega
 case d5=>intro v hv;obtain ⟨x,_,rfl⟩:=List.mem_map.1 hv;rfl
 intro w2 hr hj;have hs:=qc0 (cur:=cur) (cs:=t.c.map (Za1 .i64)) (by simp at hd ⊢;omega);have HF:=zI (show Blk w2 (w.heap.size+1+1) 22 (t.c.map (Za1 .i64)).toArray by rw [←hs];exact hr.out);have hm:=hb.below hj oZ;have hc:=hh.below hj oZ;have hk:=hn.trans (hj.mono oZ);have hE:=hj.size;have ho:=zI (HI.out.below hk (lrZ _));clear hr hn hd hs he c0 c1 hb hh hw HI hj;have c0:=hm.cell 0;simp at c0;go_wp2_with fail;refine (qae S c t.s _ oZ ho.out).mono ?_;rintro e w3 ⟨g,rfl,hg,hu,h3⟩;have ha:=hc.below h3 hc.lt;have hz:=HF.out.below h3 HF.out.lt;have hy:Blk w3 g 3 (t.s.map (Za1 .i64)).toArray:=hu;have c1:=ha.cell 0;have c2:=ha.cell 1;have f1:=ha.frozen 0;have f2:=ha.frozen 1;simp at c1 c2;have hA:=hk.trans (h3.mono hk.size);obtain ⟨HK,HF,HG⟩:=zd3 ha hz hy;have hf:w.heap.size+1≠g:=by have:=hk.size;omega
 clear hm hc hk c0 h3 hu ho ha hz hy;go_wp2_with fail;refine Zk1 (v:=.agg #[.slice (some ⟨g,0,none⟩) t.s.length t.s.length,.slice (some ⟨w.heap.size+1+1,0,none⟩) t.c.length t.c.length]) (by simp [results,Tryz.results52,go_sem,c1,c2]) rfl ?_;exact ⟨_,rfl,⟨g,w.heap.size+1+1,rfl,by omega,by omega,(HG.out.far (p:=⟨w.heap.size+1,0,none⟩) (Ne.symm hf) _).far (p:=⟨w.heap.size+1,1,none⟩) (Ne.symm hf) _,(HF.out.far (p:=⟨w.heap.size+1,0,none⟩) sZ _).far (p:=⟨w.heap.size+1,1,none⟩) sZ _⟩,(hA.setCell (p:=⟨w.heap.size+1,0,none⟩) (Zy _) _).setCell (p:=⟨w.heap.size+1,1,none⟩) (Zy _) _⟩
def MakeP (s:List Int) (f:Int) (w:Zp1) (e:Ending) (w':Zp1):Prop:=
 (Sh.right s=false/\e=.returned (.tuple #[.agg #[.slice none 0 0,.slice none 0 0],.int .i64 20])∨Sh.right s=true/\∃v,e=.returned (.tuple #[v,.int .i64 0])/\TenN w.heap.size w' v ⟨s,Zc (Safe.prod s).toNat f⟩)/\Below w.heap.size w w'
theorem fill_all {cs:List Value} {n:Nat} {f:Int} (hl:cs.length=n) (h:∀j,j<n->cs[j]? = some (.int .i64 f)):cs=(Zc n f).map (Za1 .i64):=by
 apply List.ext_getElem?;intro j
 by_cases hj:j<n
 ·rw [h j hj];simp [hj]
 ·rw [Zi oZ,Zi soZ]
theorem qbD (S:Option Addr) (c:Nat) (s:List Int) (f:Int) (w:Zp1) (hl:s.length<=1000000) (hI:Ints .i64 w S s):
  Calls Tryz.prog 75 #[.slice S s.length c,.int .i64 f] w (MakeP s f w):=by
 obtain ⟨i0,hi,hR,hO,hP⟩:=info_parts qbL;have hA:=hI.alloc (.cells #[.slice none 0 0,.slice none 0 0] 30);have hz:=Blk.new w 30 #[.slice none 0 0,.slice none 0 0];have hE:Below w.heap.size w (w.alloc (.cells #[.slice none 0 0,.slice none 0 0] 30)):=(Ze1 _ _).alloc (lrZ _) _;obtain ⟨HI,hJ,hH⟩:=zd3 hI hA hz;clear hI hA hz;go_enter Tryz.func75,Tryz.ntmps75;go_wp2_with fail;refine (qad S c s _ oZ hJ.out).mono ?_;rintro e w1 ⟨rfl,h1⟩;have hc:=hH.out.below h1 sZ;have hw:=hE.trans (h1.mono sZ);have hy:=h1.size;rw [Zh1] at hy;clear h1 hE hJ hH;cases hr:Sh.right s
 ·have HS:=zI (show Sh.size s=(0,20) by simp [Sh.size,hr])
  rw [HS.out];have c0:=hc.cell 0;have c1:=hc.cell 1;have f0:=hc.frozen 0;have f1:=hc.frozen 1;simp at c0 c1;obtain ⟨hB,Hr⟩:=zd2 hc hr;clear hc hr;go_wp2_with fail;refine Zk1 (v:=.tuple #[.agg #[.slice none 0 0,.slice none 0 0],.int .i64 20]) (by simp [results,Tryz.results75,go_sem,c0,c1]) rfl ?_;exact ⟨.inl ⟨Hr.out,rfl⟩,(hw.setCell (p:=⟨w.heap.size,0,none⟩) (lrZ _) _).setCell (p:=⟨w.heap.size,1,none⟩) (lrZ _) _⟩
 ·have HS:=zI (show Sh.size s=(Safe.prod s,0) by simp [Sh.size,hr])
  obtain ⟨_,_,_,_,hN,hQ⟩:=Sh.right_mul hr;rw [HS.out];have HP:=zI (rfl:(Safe.prod s).toNat=(Safe.prod s).toNat);obtain ⟨n,hn⟩:=ezZ (show 0<=Safe.prod s by omega);have HN:=zI (show (Safe.prod s).toNat=n by omega);rw [hn] at hN hQ ⊢;obtain ⟨hB,Hr⟩:=zd2 hc hr;clear hc hr;clear HP HS hn;go_wp2_with (at_make;refine wpList_make_full _ rfl _ _ 28 rfl w.heap.size 22 i0 (.int .i64 0) 1 Tryz.underlying28 hi hR hO _ _ _ _ n rfl rfl (by first|rfl|simp) (by first|rfl|simp) ?b2 ?b3 ?b4 ?_)
  case b2=>rw [hP];omega
  case b3=>unfold maxLen;omega
  case b4=>omega
  intro w2 hown hgrow;have he:=qaS hown;have hu:=hown.1;have hv:=lt_of_block he;have hK:=hB.out.grown hgrow sZ;have hD:Below w.heap.size w w2:=hw.grown hgrow oZ sZ;generalize hg:w1.heap.size=g at *;generalize (madeCells #[Za1 .i64 0] n).toList=cur at *;have hm:=zI (show Blk w2 g 22 cur.toArray from he);have hh:=zI (show cur.length=n by omega);have hF:=zI hK;clear hK;clear hown hgrow he hu hg hw;go_wp2_with fail
  go_loopw [9,23] (λ_ i wr=>∃(k:Nat) (cs:List Value),k<=n/\i=.int .i64 k/\cs.length=n/\Blk wr g 22 cs.toArray/\(∀j,j<k->cs[j]? = some (.int .i64 f))/\Blk wr w.heap.size 30 #[.slice none 0 0,.slice none 0 0]/\Below w.heap.size w wr) (λ_ i _=>n-(intOf i).toNat)
  case atStart=>exact ⟨0,cur,Zt _,rfl,hh.out,hm.out,λj hj=>by omega,hF.out,hD⟩
  case round=>
   clear hm hh hF hD;obtain ⟨k,cs,hk,rfl,hf,hd,hb,hp,ha⟩:=hrel
   by_cases hv:k<n
   ·obtain ⟨v0,c0⟩:∃v,wr.cell? ⟨g,k,none⟩=some v:=⟨cs[k],by rw [hd.cell k];simp [hf,hv]⟩
    have f0:=hd.frozen k;obtain ⟨hG,ht,hx,hs⟩:=zd4 hf hd hb hp;clear hf hd hb hp;go_wp2_with fail;go_roundw
    case rel=>
     refine ⟨k+1,cs.set k (.int .i64 f),by omega,by go_num,by rw [List.length_set];exact hG.out,?_,?_,hs.out.far (p:=⟨g,k,none⟩) soZ _,ha.setCell (p:=⟨g,k,none⟩) soZ _⟩
     ·have:=ht.out.set_ k (.int .i64 f);simpa using this
     ·intro j hj
      rw [List.getElem?_set]
      by_cases e:k=j
      ·subst e;simp [hG.out,hv]
      ·rw [if_neg e];exact hx.out j oZ
    case measure=>simp [intOf];omega
   ·obtain rfl:k=n:=by omega
    have HE:=zI (fill_all hf hb);rw [HE.out] at hd;have hS:=ha.size;have hL:=hd.lt;obtain ⟨ht,hs⟩:=zd2 hd hp;clear hd hp;clear hb hf;go_wp2_with fail;refine (qae S c s _ oZ (HI.out.below ha (lrZ _))).mono ?_;rintro e w3 ⟨q,rfl,hq,hC,h3⟩;have ho:=hs.out.below h3 hs.out.lt;have c0:=ho.cell 0;have c1:=ho.cell 1;have f0:=ho.frozen 0;have f1:=ho.frozen 1;simp at c0 c1;have HG:=zI (show Blk w3 q 3 (s.map (Za1 .i64)).toArray from hC);have HH:=zI (ht.out.below h3 ht.out.lt);have hM:=ha.trans (h3.mono ha.size);clear ho hC h3 ha;go_wp2_with fail;refine Zk1 (v:=.tuple #[.agg #[.slice (some ⟨q,0,none⟩) s.length s.length,.slice (some ⟨g,0,none⟩) k k],.int .i64 0]) (by simp [results,Tryz.results75,go_sem,c0,c1]) rfl ?_;refine ⟨.inr ⟨Hr.out,_,rfl,q,g,by rw [HN.out];simp,by omega,by omega,?_,?_⟩,(hM.setCell (p:=⟨w.heap.size,0,none⟩) (lrZ _) _).setCell (p:=⟨w.heap.size,1,none⟩) (lrZ _) _⟩
    ·exact (HG.out.far (p:=⟨w.heap.size,0,none⟩) soZ _).far (p:=⟨w.heap.size,1,none⟩) soZ _
    ·rw [HN.out];exact (HH.out.far (p:=⟨w.heap.size,0,none⟩) soZ _).far (p:=⟨w.heap.size,1,none⟩) soZ _
namespace Tn
def eq (a b:Ten):Bool:=(a.s==b.s)&&(a.c==b.c)
end Tn
def OfP (t:Ten) (w:Zp1) (e:Ending) (w':Zp1):Prop:=
 (Tn.right t=false/\e=.returned (.tuple #[.agg #[.slice none 0 0,.slice none 0 0],.int .i64 20])∨Tn.right t=true/\∃v,e=.returned (.tuple #[v,.int .i64 0])/\TenN w.heap.size w' v t)/\Below w.heap.size w w'
theorem qcA (S C:Option Addr) (c d:Nat) (t:Ten) (w:Zp1) (hl:t.s.length<=1048576) (hl':t.c.length<=1048576) (hT:TenR w S C t):
  Calls Tryz.prog 41 #[.slice S t.s.length c,.slice C t.c.length d] w (OfP t w):=by
 have HT:=zI hT;clear hT;have hm:=(Blk.new w 30 #[.slice none 0 0,.slice none 0 0]).alloc (.cells #[.slice S t.s.length c,.slice C t.c.length d] 30);have hj:=Blk.new (w.alloc (.cells #[.slice none 0 0,.slice none 0 0] 30)) 30 #[.slice S t.s.length c,.slice C t.c.length d];rw [Zh1] at hj;have hf:Below w.heap.size w ((w.alloc (.cells #[.slice none 0 0,.slice none 0 0] 30)).alloc (.cells #[.slice S t.s.length c,.slice C t.c.length d] 30)):=((Ze1 _ _).alloc (lrZ _) _).alloc sZ _;obtain ⟨hk,hi⟩:=zd2 hm hj;clear hm hj;go_enter Tryz.func41,Tryz.ntmps41;go_wp2_with fail;refine (qa2 S C c d t _ oZ oZ (HT.out.1.below hf (lrZ _))).mono ?_;rintro e w1 ⟨rfl,h1⟩;have ha:=hk.out.below h1 hk.out.lt;have hd:=hi.out.below h1 hi.out.lt;have he:=hf.trans (h1.mono hf.size);clear h1 hf hk hi;cases hr:Tn.right t
 ·have c0:=ha.cell 0
  have c1:=ha.cell 1;have f0:=ha.frozen 0;have f1:=ha.frozen 1;simp at c0 c1;have Hr:=zI hr;clear hr;go_wp2_with fail;refine Zk1 (v:=.tuple #[.agg #[.slice none 0 0,.slice none 0 0],.int .i64 20]) (by simp [results,Tryz.results41,go_sem,c0,c1]) rfl ?_;exact ⟨.inl ⟨Hr.out,rfl⟩,(he.setCell (p:=⟨w.heap.size,0,none⟩) (lrZ _) _).setCell (p:=⟨w.heap.size,1,none⟩) (lrZ _) _⟩
 ·have hb:t.s.length<=1000000/\t.c.length<=1000000:=by
   have hn:=hr;simp only [Tn.right,Zz,decide_eq_true_eq] at hn;obtain ⟨_,q1,_,_,_,q2⟩:=Sh.right_mul hn.1;omega
  have d0:=hd.cell 0;have d1:=hd.cell 1;simp at d0 d1;have Hr:=zI hr;clear hr;go_wp2_with fail;refine (qa8 S C c d t _ hb.1 hb.2 ⟨HT.out.1.below he (lrZ _),HT.out.2.below he (lrZ _)⟩).mono ?_;rintro e w2 ⟨v,rfl,⟨g,h,rfl,hg,hh,hG,hH⟩,h2⟩;have hc:=ha.below h2 ha.lt;have hp:=he.trans (h2.mono he.size);have ho:=ha.lt;have c0:=hc.cell 0;have c1:=hc.cell 1;have f0:=hc.frozen 0;have f1:=hc.frozen 1;simp at c0 c1;obtain ⟨HG,HH⟩:=zd2 hG hH;clear hG hH;clear ha hd d0 d1 he h2;go_wp2_with fail;refine Zk1 (v:=.tuple #[.agg #[.slice (some ⟨g,0,none⟩) t.s.length t.s.length,.slice (some ⟨h,0,none⟩) t.c.length t.c.length],.int .i64 0]) (by simp [results,Tryz.results41,go_sem,c0,c1]) rfl ?_;exact ⟨.inr ⟨Hr.out,_,rfl,g,h,rfl,by omega,by omega,(HG.out.far (p:=⟨w.heap.size,0,none⟩) soZ _).far (p:=⟨w.heap.size,1,none⟩) soZ _,(HH.out.far (p:=⟨w.heap.size,0,none⟩) soZ _).far (p:=⟨w.heap.size,1,none⟩) soZ _⟩,(hp.setCell (p:=⟨w.heap.size,0,none⟩) (lrZ _) _).setCell (p:=⟨w.heap.size,1,none⟩) (lrZ _) _⟩
namespace Ly
def In (t:Ten):Prop:=∀z∈t.c,Fx.In z
def none_:Ten:=⟨[],[]⟩
def got (l:List Ten) (i:Nat):Ten:=l.getD i none_
def tab (n:Nat) (f:Nat->Int):List Int:=(List.range n).map f
def at_ (l:List Int) (i:Nat):Int:=l.getD i 0
def zeros (n:Nat):List Int:=Zc n 0
def side (s:List Int) (i:Nat):Nat:=(at_ s i).toNat
def span (l:List Int):Nat:=(Safe.prod l).toNat
def alike (a b:Ten):Bool:=Tn.right a&&Tn.right b&&decide (a.s=b.s)
def add (a b:Ten):Ten × Int:=if alike a b then (⟨a.s,tab a.c.length λi=>Fx.add (at_ a.c i) (at_ b.c i)⟩,0) else (none_,20)
def cutRows (c:List Int) (row a n:Nat) (k:Nat):List Int:=(List.range k).flatMap λi=>(c.drop (i*row+a)).take n
def cut (x:Ten) (sd frm til:Int):Ten × Int:=
 if Tn.right x then
  if (Od.cut x.s sd frm til).2=0 then
   let inner:=span ((Od.cut x.s sd frm til).1.drop (sd.toNat+1))
   let row:=side x.s sd.toNat * inner
   (⟨(Od.cut x.s sd frm til).1,cutRows x.c row (frm.toNat * inner) ((til.toNat-frm.toNat)*inner) (x.c.length / row)⟩,0)
  else (none_,(Od.cut x.s sd frm til).2)
 else (none_,20)
def of_ (s c:List Int):Ten × Int:=if Tn.right ⟨s,c⟩ then (⟨s,c⟩,0) else (none_,20)
def one:Int:=4294967296
def line (x:Int):Int:=Fx.add (Fx.mul x 1073741824) 2147483648
def cell (kind k x y:Int):Int:=
 if kind=1 then (if x<0 then 0 else x)
 else if kind=2 then (if 0<x then x else Fx.mul x k)
 else if kind=3 then Fx.held x (-4294967296) 4294967296
 else if kind=4 then Fx.held (line x) 0 4294967296
 else if kind=5 then Fx.mul x k
 else if kind=6 then Fx.add x y
 else if kind=7 then Fx.mul x y
 else 0
def slope (kind k x y g:Int):Int × Int:=
 if kind=1 then (if 0<x then (g,0) else (0,0))
 else if kind=2 then (if 0<x then (g,0) else (Fx.mul g k,0))
 else if kind=3 then (if -4294967296<x/\x<4294967296 then (g,0) else (0,0))
 else if kind=4 then (if 0<line x/\line x<4294967296 then (Fx.mul g 1073741824,0) else (0,0))
 else if kind=5 then (Fx.mul g k,0)
 else if kind=6 then (g,g)
 else if kind=7 then (Fx.mul g y,Fx.mul g x)
 else (0,0)
def second (x:List Ten) (i:Nat):Int:=if x.length<2 then 0 else at_ (got x 1).c i
def ptAgree (kind:Int) (x:List Ten):Int:=
 if Od.ptIns kind=0 then 21 else if (x.length:Int)≠Od.ptIns kind then 20 else if x.all (λt=>Tn.right t&&decide (t.s=(got x 0).s)) then 0 else 20
def point (kind k:Int) (x:List Ten):Ten × Int:=
 if ptAgree kind x=0 then (⟨(got x 0).s,tab (got x 0).c.length λi=>cell kind k (at_ (got x 0).c i) (second x i)⟩,0) else (none_,ptAgree kind x)
def slopes (kind k:Int) (x:List Ten) (g:Ten) (i:Nat):Int × Int:=slope kind k (at_ (got x 0).c i) (second x i) (at_ g.c i)
def pointBack (kind k:Int) (g:Ten) (x:List Ten):List Ten × Int:=
 if ptAgree kind x=0 then
  if Tn.right g&&decide (g.s=(got x 0).s) then
   (if x.length<2 then [⟨(got x 0).s,tab (got x 0).c.length λi=>(slopes kind k x g i).1⟩]
    else [⟨(got x 0).s,tab (got x 0).c.length λi=>(slopes kind k x g i).1⟩,⟨(got x 1).s,tab (got x 0).c.length λi=>(slopes kind k x g i).2⟩],0)
  else ([],20)
 else ([],ptAgree kind x)
def denseOk (w b x:Ten):Bool:=Tn.right w&&decide (w.s.length=2)&&Tn.right b&&Tn.right x&&decide (b.s=[at_ w.s 0])&&decide ((x.c.length:Int)=at_ w.s 1)
def rowOf (w:List Int) (n i:Nat):List Int:=(w.drop (i*n)).take n
def dense (w b x:Ten):Ten × Int:=
 if denseOk w b x then (⟨b.s,tab b.c.length λi=>Fx.add (Fx.dot (rowOf w.c x.c.length i) x.c) (at_ b.c i)⟩,0) else (none_,20)
def denseX (w g x:List Int):Nat->List Int
 | 0=>zeros x.length
 | i+1=>tab x.length λj=>Fx.add (at_ (denseX w g x i) j) (Fx.mul (at_ w (i*x.length+j)) (at_ g i))
def denseW (g x:List Int):List Int:=tab (g.length*x.length) λk=>Fx.mul (at_ g (k / x.length)) (at_ x (k % x.length))
def denseBack (w b x g:Ten):(Ten × Ten × Ten) × Int:=
 if denseOk w b x&&Tn.right g&&decide (g.s=b.s) then ((⟨w.s,denseW g.c x.c⟩,g,⟨x.s,denseX w.c g.c x.c g.c.length⟩),0) else ((none_,none_,none_),20)
structure Frame where
 outs:Nat
 ins:Nat
 k0:Nat
 k1:Nat
 i0:Nat
 i1:Nat
 o0:Nat
 o1:Nat
 step:Nat
def last2 (l:List Int):Nat × Nat:=if l.length=1 then (1,side l 0) else (side l 0,side l 1)
def frame (w x out:List Int) (step:Int):Frame:=
 ⟨side w 0,side w 1,(last2 (w.drop 2)).1,(last2 (w.drop 2)).2,(last2 (x.drop 1)).1,(last2 (x.drop 1)).2,(last2 (out.drop 1)).1,(last2 (out.drop 1)).2,step.toNat⟩
structure Touch where
 o:Nat
 w:Nat
 x:Nat
def Frame.rowT (f:Frame) (p i j q t:Nat):List Touch:=
 (List.range f.k1).map λu=>⟨(p*f.o0+i)*f.o1+j,(p*f.ins+q)*(f.k0*f.k1)+t * f.k1+u,q*(f.i0*f.i1)+(i*f.step*f.i1+j*f.step)+t * f.i1+u⟩
def Frame.cellT (f:Frame) (p i j:Nat):List Touch:=(List.range f.ins).flatMap λq=>(List.range f.k0).flatMap λt=>f.rowT p i j q t
def Frame.all (f:Frame):List Touch:=(List.range f.outs).flatMap λp=>(List.range f.o0).flatMap λi=>(List.range f.o1).flatMap λj=>f.cellT p i j
def addAt (l:List Int) (i:Nat) (v:Int):List Int:=l.set i (Fx.add (at_ l i) v)
def convC (w x:List Int) (ts:List Touch) (n:Nat):List Int:=ts.foldl (λo t=>addAt o t.o (Fx.mul (at_ w t.w) (at_ x t.x))) (zeros n)
def convW (g x:List Int) (ts:List Touch) (n:Nat):List Int:=ts.foldl (λo t=>addAt o t.w (Fx.mul (at_ g t.o) (at_ x t.x))) (zeros n)
def convX (g w:List Int) (ts:List Touch) (n:Nat):List Int:=ts.foldl (λo t=>addAt o t.x (Fx.mul (at_ g t.o) (at_ w t.w))) (zeros n)
def convErr (w x:Ten) (step:Int):Int:=if Tn.right w&&Tn.right x then (Od.conv w.s x.s step).2 else 20
def convT (w x:Ten) (step:Int):List Touch:=(frame w.s x.s (Od.conv w.s x.s step).1 step).all
def conv (w x:Ten) (step:Int):Ten × Int:=
 if convErr w x step=0 then (⟨(Od.conv w.s x.s step).1,convC w.c x.c (convT w x step) (span (Od.conv w.s x.s step).1)⟩,0) else (none_,convErr w x step)
def convBack (w x g:Ten) (step:Int):(Ten × Ten) × Int:=
 if convErr w x step=0 then
  if Tn.right g&&decide (g.s=(Od.conv w.s x.s step).1) then
   ((⟨w.s,convW g.c x.c (convT w x step) w.c.length⟩,⟨x.s,convX g.c w.c (convT w x step) x.c.length⟩),0)
  else ((none_,none_),20)
 else ((none_,none_),convErr w x step)
def best (l:List Int):Nat->Int
 | 0=>-1
 | k+1=>if best l k<0∨at_ l (best l k).toNat<at_ l k then k else best l k
def poolErr (x:Ten) (width step:Int):Int:=if Tn.right x then (Od.pool x.s width step).2 else 20
def from_ (sd n step i:Nat):Nat:=i / n*sd+i % n*step
def win (c:List Int) (sd n width step i:Nat):List Int:=(c.drop (from_ sd n step i)).take width
def poolCell (top:Bool) (l:List Int) (width:Int):Int:=if top then at_ l (best l l.length).toNat else Fx.div (Fx.sum l) (width*4294967296)
def qbx (s:List Int):Nat:=side s (s.length-1)
def poolS (x:Ten) (width step:Int):List Int:=(Od.pool x.s width step).1
def pool (top:Bool) (x:Ten) (width step:Int):Ten × Int:=
 if poolErr x width step=0 then
  (⟨poolS x width step,tab (span (poolS x width step)) λi=>poolCell top (win x.c (qbx x.s) (qbx (poolS x width step)) width.toNat step.toNat i) width⟩,0)
 else (none_,poolErr x width step)
def addRow (l:List Int) (a:Nat) (v:Int):Nat->List Int
 | 0=>l
 | j+1=>addAt (addRow l a v j) (a+j) v
def poolStep (top:Bool) (x:List Int) (sd n:Nat) (width:Int) (step:Nat) (acc:List Int) (i:Nat) (v:Int):List Int:=
 if top then addAt acc (from_ sd n step i+(best (win x sd n width.toNat step i) width.toNat).toNat) v
 else addRow acc (from_ sd n step i) (Fx.div v (width*4294967296)) width.toNat
def poolX (top:Bool) (x g:List Int) (sd n:Nat) (width:Int) (step:Nat):Nat->List Int
 | 0=>zeros x.length
 | i+1=>poolStep top x sd n width step (poolX top x g sd n width step i) i (at_ g i)
def poolBack (top:Bool) (x g:Ten) (width step:Int):Ten × Int:=
 if poolErr x width step=0 then
  if Tn.right g&&decide (g.s=poolS x width step) then
   (⟨x.s,poolX top x.c g.c (qbx x.s) (qbx (poolS x width step)) width step.toNat g.c.length⟩,0)
  else (none_,20)
 else (none_,poolErr x width step)
def joinedS (sd:Int) (s:List Int):List Ten->List Int × Int
 | []=>(s,0)
 | t::r=>if Tn.right t then (if (Od.join s t.s sd).2=0 then joinedS sd (Od.join s t.s sd).1 r else ([],(Od.join s t.s sd).2)) else ([],20)
def joined (sd:Int) (x:List Ten):List Int × Int:=
 match x with
 | []=>([],20)
 | t::r=>if Tn.right t then (if r.length=0/\(sd<0∨(t.s.length:Int)<=sd) then ([],11) else joinedS sd t.s r) else ([],20)
def joinRow (rows:Nat) (i:Nat) (t:Ten):List Int:=(t.c.drop (i*(t.c.length / rows))).take (t.c.length / rows)
def joinC (rows:Nat) (x:List Ten) (k:Nat):List Int:=(List.range k).flatMap λi=>x.flatMap (joinRow rows i)
def join (sd:Int) (x:List Ten):Ten × Int:=
 if (joined sd x).2=0 then
  let rows:=span ((joined sd x).1.take sd.toNat)
  (⟨(joined sd x).1,joinC rows x rows⟩,0)
 else (none_,(joined sd x).2)
def qb0 (sd:Int) (g:Ten) (frm:Int):List Ten->List Ten × Int
 | []=>([],0)
 | t::r=>
  if (cut g sd frm (frm+at_ t.s sd.toNat)).2=0 then
   (if (qb0 sd g (frm+at_ t.s sd.toNat) r).2=0 then ((cut g sd frm (frm+at_ t.s sd.toNat)).1::(qb0 sd g (frm+at_ t.s sd.toNat) r).1,0) else ([],(qb0 sd g (frm+at_ t.s sd.toNat) r).2))
  else ([],(cut g sd frm (frm+at_ t.s sd.toNat)).2)
def joinBack (sd:Int) (g:Ten) (x:List Ten):List Ten × Int:=
 if (joined sd x).2=0 then (if Tn.right g&&decide (g.s=(joined sd x).1) then qb0 sd g 0 x else ([],20)) else ([],(joined sd x).2)
def cutX (n row a part:Nat) (g:List Int):Nat->List Int
 | 0=>zeros n
 | i+1=>splice (cutX n row a part g i) (i*row+a) ((g.drop (i*part)).take part)
def cutBack (x g:Ten) (sd frm til:Int):Ten × Int:=
 if Tn.right x then
  if (Od.cut x.s sd frm til).2=0 then
   if Tn.right g&&decide (g.s=(Od.cut x.s sd frm til).1) then
    let inner:=span ((Od.cut x.s sd frm til).1.drop (sd.toNat+1))
    let row:=side x.s sd.toNat * inner
    (⟨x.s,cutX x.c.length row (frm.toNat * inner) ((til.toNat-frm.toNat)*inner) g.c (x.c.length / row)⟩,0)
   else (none_,20)
  else (none_,(Od.cut x.s sd frm til).2)
 else (none_,20)
def turn (x:Ten) (s:List Int):Ten × Int:=if Tn.right x then of_ s x.c else (none_,20)
def turnBack (x g:Ten):Ten × Int:=if Tn.right x&&Tn.right g then of_ x.s g.c else (none_,20)
def lay (o:OpD) (p x:List Ten):Ten × Int:=
 if o.kind=8 then dense (got p 0) (got p 1) (got x 0)
 else if o.kind=9 then add (got x 0) (got p 0)
 else if o.kind=10 then conv (got p 0) (got x 0) o.step
 else if o.kind=11 then pool true (got x 0) o.width o.step
 else if o.kind=12 then pool false (got x 0) o.width o.step
 else if o.kind=13 then join o.side x
 else if o.kind=14 then cut (got x 0) o.side o.frm o.to
 else if o.kind=15 then turn (got x 0) o.s
 else point o.kind o.k x
def go (o:OpD) (p x:List Ten):Ten × Int:=if Od.counts o p.length x.length=0 then lay o p x else (none_,Od.counts o p.length x.length)
structure Bk where
 p:List Ten
 x:List Ten
def bnone:Bk:=⟨[],[]⟩
def bsingle (r:Ten × Int):Bk × Int:=if r.2=0 then (⟨[],[r.1]⟩,0) else (bnone,r.2)
def bseveral (r:List Ten × Int):Bk × Int:=if r.2=0 then (⟨[],r.1⟩,0) else (bnone,r.2)
def bbias (b x g:Ten):Bk × Int:=
 if (add x b).2=0 then (if Tn.right g&&decide (g.s=(add x b).1.s) then (⟨[g],[g]⟩,0) else (bnone,20)) else (bnone,(add x b).2)
def bturn (x g:Ten) (s:List Int):Bk × Int:=
 if (turn x s).2=0 then (if Tn.right g&&decide (g.s=s) then bsingle (turnBack x g) else (bnone,20)) else (bnone,(turn x s).2)
def layBack (o:OpD) (p x:List Ten) (g:Ten):Bk × Int:=
 if o.kind=8 then (if (denseBack (got p 0) (got p 1) (got x 0) g).2=0 then (⟨[(denseBack (got p 0) (got p 1) (got x 0) g).1.1,(denseBack (got p 0) (got p 1) (got x 0) g).1.2.1],[(denseBack (got p 0) (got p 1) (got x 0) g).1.2.2]⟩,0) else (bnone,(denseBack (got p 0) (got p 1) (got x 0) g).2))
 else if o.kind=9 then bbias (got p 0) (got x 0) g
 else if o.kind=10 then (if (convBack (got p 0) (got x 0) g o.step).2=0 then (⟨[(convBack (got p 0) (got x 0) g o.step).1.1],[(convBack (got p 0) (got x 0) g o.step).1.2]⟩,0) else (bnone,(convBack (got p 0) (got x 0) g o.step).2))
 else if o.kind=11 then bsingle (poolBack true (got x 0) g o.width o.step)
 else if o.kind=12 then bsingle (poolBack false (got x 0) g o.width o.step)
 else if o.kind=13 then bseveral (joinBack o.side g x)
 else if o.kind=14 then bsingle (cutBack (got x 0) g o.side o.frm o.to)
 else if o.kind=15 then bturn (got x 0) g o.s
 else bseveral (pointBack o.kind o.k g x)
def back (o:OpD) (p x:List Ten) (g:Ten):Bk × Int:=if Od.counts o p.length x.length=0 then layBack o p x g else (bnone,Od.counts o p.length x.length)
end Ly
def Tens (w:Zp1) (A:Option Addr) (ts:List Ten):Prop:=
 ∀j (hj:j<ts.length),∃b off S c C d,A=some ⟨b,off,none⟩/\b<w.heap.size/\w.cell? ⟨b,off+j*2,none⟩=some (.slice S ts[j].s.length c)/\w.cell? ⟨b,off+j*2+1,none⟩=some (.slice C ts[j].c.length d)/\TenR w S C ts[j]/\ts[j].s.length<=9223372036854775807/\ts[j].c.length<=9223372036854775807
theorem TenR.below {B:Nat} {w w':Zp1} {S C:Option Addr} {t:Ten} (h:TenR w S C t) (hb:Below B w w') (hB:w.heap.size<=B):TenR w' S C t:=⟨h.1.below hb hB,h.2.below hb hB⟩
theorem TenR.drew {w:Zp1} {S C:Option Addr} {t:Ten} (h:TenR w S C t):TenR w.drew S C t:=h
theorem Tens.below {B:Nat} {w w':Zp1} {A:Option Addr} {ts:List Ten} (h:Tens w A ts) (hb:Below B w w') (hB:w.heap.size<=B):Tens w' A ts:=λj hj=>by
 obtain ⟨b,off,S,c,C,d,e,hl,c0,c1,hT,h2⟩:=h j hj;exact ⟨b,off,S,c,C,d,e,ltZ hl hb.size,(hb.cell (p:=⟨b,off+j*2,none⟩) (ltZ hl hB)).trans c0,(hb.cell (p:=⟨b,off+j*2+1,none⟩) (ltZ hl hB)).trans c1,hT.below hb hB,h2⟩
theorem qdn {α:Type} {p:α->Bool} {l:List α} {k:Nat} (hk:k<l.length) (h:(l.take k).all p=true) (hp:p l[k]=true):(l.take (k+1)).all p=true:=by
 rw [Zb hk,List.all_append,h];simp [hp]
theorem qdZ {α:Type} {p:α->Bool} {l:List α} {k:Nat} (hk:k<l.length) (hp:p l[k]=false):l.all p=false:=by
 rw [List.all_eq_false];exact ⟨l[k],gmZ hk,by simp [hp]⟩
namespace Tn
def alike (a b:List Ten):Bool:=decide (a.length=b.length)&&a.all right&&b.all right&&(a.map (·.s)==b.map (·.s))
theorem alike_a {a b:List Ten} (h:a.all right=false):alike a b=false:=by simp [alike,h]
theorem alike_b {a b:List Ten} (h:b.all right=false):alike a b=false:=by simp [alike,h]
theorem right_len {t:Ten} (h:right t=true):t.s.length<=4/\1<=t.s.length/\t.c.length<=65536:=by
 simp [right] at h;obtain ⟨_,h1,h2,_,_,h3⟩:=Sh.right_mul h.1;omega
end Tn
namespace Tn
def small (a:List Ten):Prop:=∀t∈a,t.s.length<=1000000/\t.c.length<=1000000
end Tn
theorem kinds7 {k:Int} (h1:1<=k) (h7:k<=7):k=1∨k=2∨k=3∨k=4∨k=5∨k=6∨k=7:=by omega
theorem qbs (x:Int) (w:Zp1) (hx:Fx.In x):Calls Tryz.prog 121 #[.int .i64 x] w λe w'=>e=.returned (.int .i64 (Ly.line x))/\w=w':=by
 have Hx:=zI hx;clear hx;go_enter Tryz.func121,Tryz.ntmps121;go_wp2_with fail;refine (qaA x 1073741824 _ Hx.out (by unfold Fx.In;omega)).mono ?_;rintro e w1 ⟨rfl,rfl⟩;go_wp2_with fail;refine (qaM (Fx.mul x 1073741824) 2147483648 _ (Fx.mul_in _ _) (by unfold Fx.In;omega)).mono ?_;rintro e w1 ⟨rfl,rfl⟩;go_wp2_with fail;go_ret;exact ⟨rfl,rfl⟩
namespace Ly
theorem cell_in {kind k x y:Int} (hx:Fx.In x):Fx.In (cell kind k x y):=by
 unfold cell;have o1:Fx.In 4294967296:=by unfold Fx.In;omega
 have o2:Fx.In (-4294967296):=by unfold Fx.In;omega
 repeat' split
 all_goals first|exact hx|exact Fx.in_zero|exact Fx.mul_in _ _|exact Fx.add_in _ _|exact Fx.held_in hx o2 o1|exact Fx.held_in (Fx.add_in _ _) Fx.in_zero o1
theorem slope_in {kind k x y g:Int} (hg:Fx.In g):Fx.In (slope kind k x y g).1/\Fx.In (slope kind k x y g).2:=by
 unfold slope
 repeat' split
 all_goals refine ⟨?_,?_⟩
 all_goals first|exact hg|exact Fx.in_zero|exact Fx.mul_in _ _
theorem cell1 (k x y:Int):cell 1 k x y=if x<0 then 0 else x:=by unfold cell;rw [if_pos dZ]
theorem cell2 (k x y:Int):cell 2 k x y=if 0<x then x else Fx.mul x k:=by unfold cell;rw [if_neg dZ];rw [if_pos dZ]
theorem cell3 (k x y:Int):cell 3 k x y=Fx.held x (-4294967296) 4294967296:=by unfold cell;rw [if_neg dZ];rw [if_neg dZ];rw [if_pos dZ]
theorem cell4 (k x y:Int):cell 4 k x y=Fx.held (line x) 0 4294967296:=by unfold cell;rw [if_neg dZ];rw [if_neg dZ];rw [if_neg dZ];rw [if_pos dZ]
theorem cell5 (k x y:Int):cell 5 k x y=Fx.mul x k:=by unfold cell;rw [if_neg dZ];rw [if_neg dZ];rw [if_neg dZ];rw [if_neg dZ];rw [if_pos dZ]
theorem cell6 (k x y:Int):cell 6 k x y=Fx.add x y:=by unfold cell;rw [if_neg dZ];rw [if_neg dZ];rw [if_neg dZ];rw [if_neg dZ];rw [if_neg dZ];rw [if_pos dZ]
theorem cell7 (k x y:Int):cell 7 k x y=Fx.mul x y:=by unfold cell;rw [if_neg dZ];rw [if_neg dZ];rw [if_neg dZ];rw [if_neg dZ];rw [if_neg dZ];rw [if_neg dZ];rw [if_pos dZ]
theorem slope1 (k x y g:Int):slope 1 k x y g=if 0<x then (g,0) else (0,0):=by unfold slope;rw [if_pos dZ]
theorem slope2 (k x y g:Int):slope 2 k x y g=if 0<x then (g,0) else (Fx.mul g k,0):=by unfold slope;rw [if_neg dZ];rw [if_pos dZ]
theorem slope3 (k x y g:Int):slope 3 k x y g=if -4294967296<x/\x<4294967296 then (g,0) else (0,0):=by unfold slope;rw [if_neg dZ];rw [if_neg dZ];rw [if_pos dZ]
theorem slope4 (k x y g:Int):slope 4 k x y g=if 0<line x/\line x<4294967296 then (Fx.mul g 1073741824,0) else (0,0):=by unfold slope;rw [if_neg dZ];rw [if_neg dZ];rw [if_neg dZ];rw [if_pos dZ]
theorem slope5 (k x y g:Int):slope 5 k x y g=(Fx.mul g k,0):=by unfold slope;rw [if_neg dZ];rw [if_neg dZ];rw [if_neg dZ];rw [if_neg dZ];rw [if_pos dZ]
theorem slope6 (k x y g:Int):slope 6 k x y g=(g,g):=by unfold slope;rw [if_neg dZ];rw [if_neg dZ];rw [if_neg dZ];rw [if_neg dZ];rw [if_neg dZ];rw [if_pos dZ]
theorem slope7 (k x y g:Int):slope 7 k x y g=(Fx.mul g y,Fx.mul g x):=by unfold slope;rw [if_neg dZ];rw [if_neg dZ];rw [if_neg dZ];rw [if_neg dZ];rw [if_neg dZ];rw [if_neg dZ];rw [if_pos dZ]
end Ly
theorem qfa (kind k x y:Int) (w:Zp1) (h1:1<=kind) (h7:kind<=7) (hk:Fx.In k) (hx:Fx.In x) (hy:Fx.In y):
  Calls Tryz.prog 144 #[.int .i64 kind,.int .i64 k,.int .i64 x,.int .i64 y] w λe w'=>e=.returned (.int .i64 (Ly.cell kind k x y))/\w=w':=by
 obtain ⟨Hk,Hx,Hy⟩:=zd3 hk hx hy;clear hk hx hy;rcases kinds7 h1 h7 with rfl|rfl|rfl|rfl|rfl|rfl|rfl
 all_goals clear h1 h7
 ·by_cases h:x<0
  ·have hm:=zI (show Ly.cell 1 k x y=0 by rw [Ly.cell1,if_pos h])
   have d1:decide (x<0)=true:=by simpa using h
   have d2:decide (0<x)=false:=by simp;omega
   have d3:decide (x<=0)=true:=by simp;omega
   have d4:decide (0<=x)=false:=by simp;omega
   go_enter Tryz.func144,Tryz.ntmps144;go_wp2_with fail;go_ret;exact ⟨by (rw [hm.out]<;>simp<;>omega),rfl⟩
  ·have hm:=zI (show Ly.cell 1 k x y=x by rw [Ly.cell1,if_neg h])
   have d1:decide (x<0)=false:=by simpa using h
   have d4:decide (0<=x)=true:=by simp;omega
   go_enter Tryz.func144,Tryz.ntmps144;go_wp2_with fail;go_ret;exact ⟨by (rw [hm.out]<;>simp<;>omega),rfl⟩
 ·by_cases h:0<x
  ·have hm:=zI (show x=Ly.cell 2 k x y by rw [Ly.cell2,if_pos h])
   go_enter Tryz.func144,Tryz.ntmps144;go_wp2_with fail;go_ret;exact ⟨qa9 hm.out,rfl⟩
  ·have hm:=zI (show Fx.mul x k=Ly.cell 2 k x y by rw [Ly.cell2,if_neg h])
   go_enter Tryz.func144,Tryz.ntmps144;go_wp2_with fail;refine (qaA x k _ Hx.out Hk.out).mono ?_;rintro e w1 ⟨rfl,rfl⟩;go_wp2_with fail;go_ret;exact ⟨qa9 hm.out,rfl⟩
 ·go_enter Tryz.func144,Tryz.ntmps144
  go_wp2_with fail;refine (qb5 _).mono ?_;rintro e w1 ⟨rfl,rfl⟩;go_wp2_with fail;refine (qdY _ _ _ _).mono ?_;rintro e w1 ⟨rfl,rfl⟩;go_wp2_with fail;go_ret;exact ⟨qa9 (Ly.cell3 k x y).symm,rfl⟩
 ·go_enter Tryz.func144,Tryz.ntmps144
  go_wp2_with fail;refine (qbs x _ Hx.out).mono ?_;rintro e w1 ⟨rfl,rfl⟩;go_wp2_with fail;refine (qdY _ _ _ _).mono ?_;rintro e w1 ⟨rfl,rfl⟩;go_wp2_with fail;go_ret;exact ⟨qa9 (Ly.cell4 k x y).symm,rfl⟩
 ·go_enter Tryz.func144,Tryz.ntmps144
  go_wp2_with fail;refine (qaA x k _ Hx.out Hk.out).mono ?_;rintro e w1 ⟨rfl,rfl⟩;go_wp2_with fail;go_ret;exact ⟨qa9 (Ly.cell5 k x y).symm,rfl⟩
 ·go_enter Tryz.func144,Tryz.ntmps144
  go_wp2_with fail;refine (qaM x y _ Hx.out Hy.out).mono ?_;rintro e w1 ⟨rfl,rfl⟩;go_wp2_with fail;go_ret;exact ⟨qa9 (Ly.cell6 k x y).symm,rfl⟩
 ·go_enter Tryz.func144,Tryz.ntmps144
  go_wp2_with fail;refine (qaA x y _ Hx.out Hy.out).mono ?_;rintro e w1 ⟨rfl,rfl⟩;go_wp2_with fail;go_ret;exact ⟨qa9 (Ly.cell7 k x y).symm,rfl⟩
theorem qaw {a b a' b':Int} (h:(a,b)=(a',b')):Ending.returned (.tuple #[.int .i64 a,.int .i64 b])=.returned (.tuple #[.int .i64 a',.int .i64 b']):=by injection h with h1 h2;rw [h1,h2]
theorem qcB (kind k x y g:Int) (w:Zp1) (h1:1<=kind) (h7:kind<=7) (hk:Fx.In k) (hx:Fx.In x) (hy:Fx.In y) (hg:Fx.In g):
  Calls Tryz.prog 67 #[.int .i64 kind,.int .i64 k,.int .i64 x,.int .i64 y,.int .i64 g] w λe w'=>e=.returned (.tuple #[.int .i64 (Ly.slope kind k x y g).1,.int .i64 (Ly.slope kind k x y g).2])/\w=w':=by
 obtain ⟨Hk,Hx,Hy,Hg⟩:=zd4 hk hx hy hg;clear hk hx hy hg;rcases kinds7 h1 h7 with rfl|rfl|rfl|rfl|rfl|rfl|rfl
 all_goals clear h1 h7
 ·by_cases h:0<x
  ·have hm:=zI (show (g,0)=Ly.slope 1 k x y g by rw [Ly.slope1,if_pos h])
   go_enter Tryz.func67,Tryz.ntmps67;go_wp2_with fail
   go_ret2
   exact ⟨qaw hm.out,rfl⟩
  ·have hm:=zI (show (0,0)=Ly.slope 1 k x y g by rw [Ly.slope1,if_neg h])
   go_enter Tryz.func67,Tryz.ntmps67;go_wp2_with fail
   go_ret2
   exact ⟨qaw hm.out,rfl⟩
 ·by_cases h:0<x
  ·have hm:=zI (show (g,0)=Ly.slope 2 k x y g by rw [Ly.slope2,if_pos h])
   go_enter Tryz.func67,Tryz.ntmps67;go_wp2_with fail
   go_ret2
   exact ⟨qaw hm.out,rfl⟩
  ·have hm:=zI (show (Fx.mul g k,0)=Ly.slope 2 k x y g by rw [Ly.slope2,if_neg h])
   go_enter Tryz.func67,Tryz.ntmps67;go_wp2_with fail;refine (qaA g k _ Hg.out Hk.out).mono ?_;rintro e w1 ⟨rfl,rfl⟩;go_wp2_with fail
   go_ret2
   exact ⟨qaw hm.out,rfl⟩
 ·by_cases h : -4294967296<x
  ·by_cases h2:x<4294967296
   ·have hm:=zI (show (g,0)=Ly.slope 3 k x y g by rw [Ly.slope3,if_pos ⟨h,h2⟩])
    go_enter Tryz.func67,Tryz.ntmps67;go_wp2_with fail;refine (qb5 _).mono ?_;rintro e w1 ⟨rfl,rfl⟩;go_wp2_with fail
    go_ret2
    exact ⟨qaw hm.out,rfl⟩
   ·have hm:=zI (show (0,0)=Ly.slope 3 k x y g by rw [Ly.slope3,if_neg (λk=>h2 k.2)])
    go_enter Tryz.func67,Tryz.ntmps67;go_wp2_with fail;refine (qb5 _).mono ?_;rintro e w1 ⟨rfl,rfl⟩;go_wp2_with fail
    go_ret2
    exact ⟨qaw hm.out,rfl⟩
  ·have hm:=zI (show (0,0)=Ly.slope 3 k x y g by rw [Ly.slope3,if_neg (λk=>h k.1)])
   go_enter Tryz.func67,Tryz.ntmps67;go_wp2_with fail;refine (qb5 _).mono ?_;rintro e w1 ⟨rfl,rfl⟩;go_wp2_with fail
   go_ret2
   exact ⟨qaw hm.out,rfl⟩
 ·by_cases h:0<Ly.line x
  ·by_cases h2:Ly.line x<4294967296
   ·have hm:=zI (show (Fx.mul g 1073741824,0)=Ly.slope 4 k x y g by rw [Ly.slope4,if_pos ⟨h,h2⟩])
    go_enter Tryz.func67,Tryz.ntmps67;go_wp2_with fail;refine (qbs x _ Hx.out).mono ?_;rintro e w1 ⟨rfl,rfl⟩;go_wp2_with fail;refine (qaA g 1073741824 _ Hg.out (by unfold Fx.In;omega)).mono ?_;rintro e w1 ⟨rfl,rfl⟩;go_wp2_with fail
    go_ret2
    exact ⟨qaw hm.out,rfl⟩
   ·have hm:=zI (show (0,0)=Ly.slope 4 k x y g by rw [Ly.slope4,if_neg (λk=>h2 k.2)])
    go_enter Tryz.func67,Tryz.ntmps67;go_wp2_with fail;refine (qbs x _ Hx.out).mono ?_;rintro e w1 ⟨rfl,rfl⟩;go_wp2_with fail
    go_ret2
    exact ⟨qaw hm.out,rfl⟩
  ·have hm:=zI (show (0,0)=Ly.slope 4 k x y g by rw [Ly.slope4,if_neg (λk=>h k.1)])
   go_enter Tryz.func67,Tryz.ntmps67;go_wp2_with fail;refine (qbs x _ Hx.out).mono ?_;rintro e w1 ⟨rfl,rfl⟩;go_wp2_with fail
   go_ret2
   exact ⟨qaw hm.out,rfl⟩
 ·go_enter Tryz.func67,Tryz.ntmps67
  go_wp2_with fail;refine (qaA g k _ Hg.out Hk.out).mono ?_;rintro e w1 ⟨rfl,rfl⟩;go_wp2_with fail
  go_ret2
  exact ⟨qaw (Ly.slope5 k x y g).symm,rfl⟩
 ·go_enter Tryz.func67,Tryz.ntmps67
  go_wp2_with fail
  go_ret2
  exact ⟨qaw (Ly.slope6 k x y g).symm,rfl⟩
 ·go_enter Tryz.func67,Tryz.ntmps67
  go_wp2_with fail;refine (qaA g y _ Hg.out Hy.out).mono ?_;rintro e w1 ⟨rfl,rfl⟩;go_wp2_with fail;refine (qaA g x _ Hg.out Hx.out).mono ?_;rintro e w1 ⟨rfl,rfl⟩;go_wp2_with fail
  go_ret2
  exact ⟨qaw (Ly.slope7 k x y g).symm,rfl⟩
structure TenIn (w:Zp1) (S C:Option Addr) (c d:Nat) (t:Ten):Prop where
 r:TenR w S C t
 s1:t.s.length<=c
 s2:c<=9223372036854775807
 c1:t.c.length<=d
 c2:d<=9223372036854775807
 l1:t.s.length<=1048576
 l2:t.c.length<=1048576
 num:Ly.In t
theorem TenIn.below {B:Nat} {w w':Zp1} {S C:Option Addr} {c d:Nat} {t:Ten} (h:TenIn w S C c d t) (hb:Below B w w') (hB:w.heap.size<=B):TenIn w' S C c d t:={ h with r:=h.r.below hb hB }
theorem TenIn.later {w w':Zp1} {S C:Option Addr} {c d:Nat} {t:Ten} (h:TenIn w S C c d t) (hb:Later w w'):TenIn w' S C c d t:=h.below hb (lrZ _)
theorem TenIn.cell {w:Zp1} {S C:Option Addr} {c d:Nat} {t:Ten} (h:TenIn w S C c d t) {k:Nat} (hk:k<t.c.length):∃b off,C=some ⟨b,off,none⟩/\b<w.heap.size/\w.cell? ⟨b,off+k,none⟩=some (.int .i64 (Ly.at_ t.c k)):=h.r.2 k hk
def Tns (w:Zp1) (A:Option Addr) (ts:List Ten):Prop:=
 ∀j (hj:j<ts.length),∃b off S c C d,A=some ⟨b,off,none⟩/\b<w.heap.size/\w.cell? ⟨b,off+j*2,none⟩=some (.slice S ts[j].s.length c)/\w.cell? ⟨b,off+j*2+1,none⟩=some (.slice C ts[j].c.length d)/\TenIn w S C c d ts[j]
theorem Tns.below {B:Nat} {w w':Zp1} {A:Option Addr} {ts:List Ten} (h:Tns w A ts) (hb:Below B w w') (hB:w.heap.size<=B):Tns w' A ts:=λj hj=>by
 obtain ⟨b,off,S,c,C,d,e,hl,c0,c1,hT⟩:=h j hj;exact ⟨b,off,S,c,C,d,e,ltZ hl hb.size,(hb.cell (p:=⟨b,off+j*2,none⟩) (ltZ hl hB)).trans c0,(hb.cell (p:=⟨b,off+j*2+1,none⟩) (ltZ hl hB)).trans c1,hT.below hb hB⟩
theorem Tns.later {w w':Zp1} {A:Option Addr} {ts:List Ten} (h:Tns w A ts) (hb:Later w w'):Tns w' A ts:=h.below hb (lrZ _)
theorem qam {l:List Ten} {k:Nat} (h:k<l.length):Ly.got l k=l[k]:=by unfold Ly.got;rw [gdZ,geZ h];rfl
theorem Tns.at_ {w:Zp1} {A:Option Addr} {ts:List Ten} (h:Tns w A ts) {j:Nat} (hj:j<ts.length):
  ∃b off S c C d,A=some ⟨b,off,none⟩/\b<w.heap.size/\w.cell? ⟨b,off+j*2,none⟩=some (.slice S (Ly.got ts j).s.length c)/\w.cell? ⟨b,off+j*2+1,none⟩=some (.slice C (Ly.got ts j).c.length d)/\TenIn w S C c d (Ly.got ts j):=by
 rw [qam hj];exact h j hj
theorem Tns.first {w:Zp1} {A:Option Addr} {ts:List Ten} (h:Tns w A ts) (hj:0<ts.length):
  ∃b off S c C d,A=some ⟨b,off,none⟩/\b<w.heap.size/\w.cell? ⟨b,off,none⟩=some (.slice S (Ly.got ts 0).s.length c)/\w.cell? ⟨b,off+1,none⟩=some (.slice C (Ly.got ts 0).c.length d)/\TenIn w S C c d (Ly.got ts 0):=by
 obtain ⟨b,off,S,c,C,d,h1,h2,h3,h4,h5⟩:=h.at_ hj;exact ⟨b,off,S,c,C,d,h1,h2,by simpa using h3,by simpa using h4,h5⟩
def TenO (B:Nat) (w:Zp1) (v:Value) (t:Ten):Prop:=
 ∃S c C d,v=.agg #[.slice S t.s.length c,.slice C t.c.length d]/\TenIn w S C c d t/\(∀a,S=some a->B<=a.block)/\(∀a,C=some a->B<=a.block/\a.block<w.heap.size/\∀j,w.frozen? ⟨a.block,j,none⟩=false)
theorem TenO.later {B:Nat} {w w':Zp1} {v:Value} {t:Ten} (h:TenO B w v t) (hb:Later w w'):TenO B w' v t:=by
 obtain ⟨S,c,C,d,h1,h2,h3,h4⟩:=h;refine ⟨S,c,C,d,h1,h2.later hb,h3,λa e=>?_⟩;obtain ⟨k1,k2,k3⟩:=h4 a e;exact ⟨k1,ltZ k2 hb.size,λj=>(Below.frozen hb (p:=⟨a.block,j,none⟩) k2).trans (k3 j)⟩
theorem TenO.base {B B':Nat} {w:Zp1} {v:Value} {t:Ten} (h:TenO B w v t) (hB:B'<=B):TenO B' w v t:=by
 obtain ⟨S,c,C,d,h1,h2,h3,h4⟩:=h;exact ⟨S,c,C,d,h1,h2,λa e=>Zv hB (h3 a e),λa e=>⟨Zv hB (h4 a e).1,(h4 a e).2⟩⟩
theorem TenN.o {B:Nat} {w:Zp1} {v:Value} {t:Ten} (h:TenN B w v t) (h1:t.s.length<=1048576) (h2:t.c.length<=1048576) (hn:Ly.In t):TenO B w v t:=by
 obtain ⟨g,i,rfl,hg,hi,kg,ki⟩:=h;refine ⟨_,_,_,_,rfl,⟨⟨kg.ints,ki.ints⟩,lrZ _,by omega,lrZ _,by omega,h1,h2,hn⟩,λa e=>?_,λa e=>?_⟩
 ·injection e with e;subst e;exact hg
 ·injection e with e;subst e;exact ⟨hi,ki.lt,λj=>ki.frozen j⟩
theorem Blk.intsL {w:Zp1} {g:Nat} {t:TypeId} (l:List Int) (h:Blk w g t (l.map (Za1 .i64)).toArray):Ints .i64 w (some ⟨g,0,none⟩) l:=Ints.of_row λj hj=>by
 rw [Zw,h.cell];simp [hj]
theorem qa0 {w:Zp1} {p q:Addr} {u v:Value} (h:w.cell? q=some v) (hne:q.block≠p.block):(w.setCell p u).cell? q=some v:=(Zi1 (Below.heap_setCell w p u q.block hne)).trans h
theorem qcC {w:Zp1} {p b:Nat} (hne:b≠p) (u u2:Value):((w.setCell ⟨p,0,none⟩ u).setCell ⟨p,1,none⟩ u2).heap[b]? = w.heap[b]?:=
 (Below.heap_setCell _ ⟨p,1,none⟩ u2 b hne).trans (Below.heap_setCell w ⟨p,0,none⟩ u b hne)
theorem Ints.box {w:Zp1} {A:Option Addr} {zs:List Int} {p:Nat} {T:TypeId} (h:Ints .i64 w A zs) (hz:Blk w p T #[.slice none 0 0,.slice none 0 0]) (u u2:Value):Ints .i64 ((w.setCell ⟨p,0,none⟩ u).setCell ⟨p,1,none⟩ u2) A zs:=λj hj=>by
 obtain ⟨b,off,e,hl,hc⟩:=h j hj
 have ha:b≠p:=by
  rintro rfl;rw [hz.cell] at hc
  match h:off+j with
  | 0=>rw [h] at hc;simp at hc
  | 1=>rw [h] at hc;simp at hc
  | n+2=>rw [h] at hc;simp at hc
 exact ⟨b,off,e,by simpa using hl,(Zi1 (qcC ha u u2)).trans hc⟩
theorem TenO.box {B:Nat} {w:Zp1} {v u u2:Value} {t:Ten} {p:Nat} {T:TypeId} (h:TenO B w v t) (hz:Blk w p T #[.slice none 0 0,.slice none 0 0]):TenO B ((w.setCell ⟨p,0,none⟩ u).setCell ⟨p,1,none⟩ u2) v t:=by
 obtain ⟨S,c,C,d,h1,h2,h3,h4⟩:=h;refine ⟨S,c,C,d,h1,{ h2 with r:=⟨h2.r.1.box hz u u2,h2.r.2.box hz u u2⟩ },h3,λa e=>?_⟩;obtain ⟨k1,k2,k3⟩:=h4 a e;exact ⟨k1,by simpa using k2,λj=>by rw [World.frozen?_setCell,World.frozen?_setCell];exact k3 j⟩
def GoP (r:Ten × Int) (w:Zp1) (e:Ending) (w':Zp1):Prop:=
 (r.2≠0/\e=.returned (.tuple #[.agg #[.slice none 0 0,.slice none 0 0],.int .i64 r.2])∨r.2=0/\∃v,e=.returned (.tuple #[v,.int .i64 0])/\TenO w.heap.size w' v r.1)/\Below w.heap.size w w'
theorem GoP.fail {n:Int} {r:Ten × Int} {w w':Zp1} (hr:r=(Ly.none_,n)) (hn:n≠0) (hb:Below w.heap.size w w'):GoP r w (.returned (.tuple #[.agg #[.slice none 0 0,.slice none 0 0],.int .i64 n])) w':=by
 subst hr;exact ⟨.inl ⟨hn,rfl⟩,hb⟩
theorem GoP.fail2 {n:Int} {r:Ten × Int} {w w':Zp1} (hr:r.2=n) (hn:n≠0) (hb:Below w.heap.size w w'):GoP r w (.returned (.tuple #[.agg #[.slice none 0 0,.slice none 0 0],.int .i64 n])) w':=by
 subst hr;exact ⟨.inl ⟨hn,rfl⟩,hb⟩
theorem GoP.ok {t:Ten} {r:Ten × Int} {v:Value} {w w':Zp1} (hr:r=(t,0)) (hv:TenO w.heap.size w' v t) (hb:Below w.heap.size w w'):GoP r w (.returned (.tuple #[v,.int .i64 0])) w':=by
 subst hr;exact ⟨.inr ⟨rfl,v,rfl,hv⟩,hb⟩
theorem GoP.from_ {r:Ten × Int} {w w1 w':Zp1} {e:Ending} (h:GoP r w1 e w') (hb:Below w.heap.size w w1):GoP r w e w':=by
 refine ⟨?_,hb.trans (h.2.mono hb.size)⟩;rcases h.1 with h1|⟨h1,v,h2,h3⟩
 ·exact .inl h1
 ·exact .inr ⟨h1,v,h2,h3.base hb.size⟩
namespace Ly
theorem tab_len (n:Nat) (f:Nat->Int):(tab n f).length=n:=by simp [tab]
theorem tab_get {n:Nat} {f:Nat->Int} {k:Nat} (hk:k<(tab n f).length):(tab n f)[k]=f k:=by simp [tab]
theorem tab_in {n:Nat} {f:Nat->Int} (h:∀i,i<n->Fx.In (f i)):∀z∈tab n f,Fx.In z:=λz hz=>by
 unfold tab at hz;obtain ⟨i,hi,rfl⟩:=List.mem_map.1 hz;exact h i (List.mem_range.1 hi)
theorem at_in {l:List Int} (h:∀z∈l,Fx.In z) (i:Nat):Fx.In (at_ l i):=by
 unfold at_;rw [gdZ];rcases Nat.lt_or_ge i l.length with hi|hi
 ·rw [geZ hi];exact h _ (gmZ hi)
 ·rw [Zi hi];exact Fx.in_zero
theorem at_get {l:List Int} {i:Nat} (hi:i<l.length):at_ l i=l[i]:=by unfold at_;rw [gdZ,geZ hi];rfl
theorem got_in {l:List Ten} (h:∀t∈l,In t) (i:Nat):In (got l i):=by
 unfold got;rw [gdZ];rcases Nat.lt_or_ge i l.length with hi|hi
 ·rw [geZ hi];exact h _ (gmZ hi)
 ·rw [Zi hi];intro z hz;simp [none_] at hz
theorem mid_step (C L:List Int) {k:Nat} (hk:k<C.length) (hn:C.length=L.length):(C.take k++L.drop k).set k C[k]=C.take (k+1)++L.drop (k+1):=by
 have h1:(C.take k).length=k:=by simp;omega
 rw [List.set_append_right _ _ oZ,h1,Nat.sub_self,Zd oZ,List.set_cons_zero,Zb hk,List.append_assoc]
 rfl
theorem mid_len (C L:List Int) (k:Nat) (hk:k<=C.length) (hn:C.length=L.length):(C.take k++L.drop k).length=C.length:=by simp;omega
theorem mid_end (C L:List Int) (k:Nat) (hk:k=C.length) (hn:C.length=L.length):C.take k++L.drop k=C:=by subst hk;rw [Zg,hn,List.drop_length,List.append_nil]
end Ly
theorem Tns.in_ {w:Zp1} {A:Option Addr} {ts:List Ten} (h:Tns w A ts):∀t∈ts,Ly.In t:=λt ht=>by
 obtain ⟨j,hj,rfl⟩:=List.getElem_of_mem ht;obtain ⟨b,off,S,c,C,d,h1,h2,h3,h4,h5⟩:=h j hj;exact h5.num
theorem Lau {w w1:Zp1} (h:Later w w1:=by with_reducible repeat (first|exact Later.refl _|apply Later.drew|apply Later.drewN|apply Later.alloc|refine Later.call ?_ (by assumption))):Later w w1:=h
theorem ga {α:Type} {xs:List α} {i:Nat} (h:i<xs.toArray.size):xs.toArray[i]=xs[i]:=List.getElem_toArray h
theorem gs {α:Type} (a:α) (al:List α) (i:Nat) (h:i+1<(a::al).length):(a::al)[i+1]=al[i]'(by simpa using h):=List.getElem_cons_succ ..
theorem gz {α:Type} (a:α) (al:List α) (h:0<(a::al).length):(a::al)[0]=a:=List.getElem_cons_zero ..
theorem sa {α:Type} (l:List α) (i:Nat) (a:α):l.toArray.setIfInBounds i a=(l.set i a).toArray:=List.setIfInBounds_toArray ..
theorem sz {α:Type} {x:α} {xs:List α} {a:α}:(x::xs).set 0 a=a::xs:=List.set_cons_zero
theorem ss {α:Type} {x:α} {xs:List α} {i:Nat} {a:α}:(x::xs).set (i+1) a=x::xs.set i a:=List.set_cons_succ
section
variable {P:Program} {ops:Array Oper} {Q:Exit->Act->Zp1->Prop} {md:Region.Mode} {S:Zp1->Prop} {fuel:Nat} {listed:Array Bool} {a:Act} {w:Zp1}
theorem tk (i:Nat) {oi:Oper} {v:Value} {a2:Act} (h:wpAnyH P md ops Q S fuel (listed.setIfInBounds i true) a2 w)
  (hi:ops[i]? = some oi:=by rfl) (hs:Region.noSelect ops=true:=by kernel_rfl) (hf:Region.free md ops listed i=true:=by kernel_rfl) (hr:(Region.ready md ops listed).contains i=true:=by kernel_rfl)
  (hg:Region.wanted oi (yielded ops a.tmps)=true:=by rfl)
  (hy:∀w,S w->(execOp a.eval oi).run P w=.ok (.value v) w:=by (simp only [List.getElem_toArray,List.getElem_cons_succ,List.getElem_cons_zero];intro w hb;(try dsimp only at hb);go_simp;first|done|with_reducible rfl))
  (hS:S w:=by assumption)
  (ha:a.put oi.dst v=a2:=by ((try simp only [List.getElem_toArray,List.getElem_cons_succ,List.getElem_cons_zero,Act.put,List.setIfInBounds_toArray,List.set_cons_zero,List.set_cons_succ])<;>rfl))
  (hQ:∀c a w,Q (.panic c) (a.put oi.dst v) w->Q (.panic c) a w:=by exact λ_ _ _ h=>h):wpAnyH P md ops Q S (fuel+1) listed a w:=
 wpAnyH_take hi hs hf hr hQ (.inl ⟨hg,hy⟩) hS (ha▸h)
theorem tn (i:Nat) {oi:Oper} {a2:Act} (h:wpAnyH P md ops Q S fuel (listed.setIfInBounds i true) a2 w)
  (hi:ops[i]? = some oi:=by rfl) (hs:Region.noSelect ops=true:=by kernel_rfl) (hf:Region.free md ops listed i=true:=by kernel_rfl) (hr:(Region.ready md ops listed).contains i=true:=by kernel_rfl)
  (hg:Region.wanted oi (yielded ops a.tmps)=false:=by rfl)
  (hS:S w:=by assumption)
  (ha:a.put oi.dst undef=a2:=by ((try simp only [List.getElem_toArray,List.getElem_cons_succ,List.getElem_cons_zero,Act.put,List.setIfInBounds_toArray,List.set_cons_zero,List.set_cons_succ])<;>rfl))
  (hQ:∀c a w,Q (.panic c) (a.put oi.dst undef) w->Q (.panic c) a w:=by exact λ_ _ _ h=>h):wpAnyH P md ops Q S (fuel+1) listed a w:=
 wpAnyH_take hi hs hf hr hQ (.inr ⟨hg,rfl⟩) hS (ha▸h)
theorem rd (i:Nat) {oi:Oper}
  (h:∀K':Act->Zp1->Prop,Shut (∀a w,S w->(S w->wpAnyH P md ops Q S fuel (listed.setIfInBounds i true) a w)->K' a w)->if Region.wanted oi (yielded ops a.tmps)=true then Oper.wp P oi a w K' Q else K' (a.put oi.dst undef) w)
  (hr:Region.ready md ops listed=[i]:=by kernel_rfl) (hi:ops[i]? = some oi:=by rfl):wpAnyH P md ops Q S (fuel+1) listed a w:=
 Zo1 hr sZ (Zf1 hi h Zg1)
end
theorem qg7 {x:List Ten} (h:¬x.length<2) (i:Nat):Ly.second x i=Ly.at_ (Ly.got x 1).c i:=by unfold Ly.second;rw [if_neg h]
theorem qbf (A:Option Addr) (c:Nat) (x:List Ten) (i:Nat) (w:Zp1) (hl:x.length<=1048576) (hT:Tns w A x) (hi:2<=x.length->i<(Ly.got x 1).c.length):
  Calls Tryz.prog 68 #[.slice A x.length c,.int .i64 i] w λe w'=>e=.returned (.int .i64 (Ly.second x i))/\w=w':=by
 by_cases h:x.length<2
 ·have E:=zI (show (0:Int)=Ly.second x i by unfold Ly.second;rw [if_pos h])
  go_enter Tryz.func68,Tryz.ntmps68;go_wp2_with fail;go_ret;exact ⟨qa9 E.out,rfl⟩
 ·obtain ⟨b,off,S,sc,C,d,rfl,hb,c0,c1,ha⟩:=hT.at_ (j:=1) oZ
  have hi:=hi oZ;have he:=ha.l2;have hd:=ha.c1;obtain ⟨b2,off2,rfl,-,hc⟩:=ha.cell hi;have E:=zI (qg7 h i).symm;have k1:(i:Int)<((Ly.got x 1).c.length:Int):=by omega
  have k2:(0:Int)<=(i:Int):=by omega
  simp only [Nat.one_mul] at c0 c1;generalize (Ly.got x 1).c.length=m at *;generalize Ly.at_ (Ly.got x 1).c i=z at *;clear hT ha;go_enter Tryz.func68,Tryz.ntmps68;go_wp2_with fail;go_ret;exact ⟨qa9 E.out,rfl⟩
namespace Ly
def okTo (x:List Ten) (t:Ten):Bool:=Tn.right t&&decide (t.s=(got x 0).s)
theorem agree_op {kind:Int} {x:List Ten} (h:Od.ptIns kind=0):ptAgree kind x=21:=by unfold ptAgree;rw [if_pos h]
theorem agree_len {kind:Int} {x:List Ten} (h:Od.ptIns kind≠0) (h2:(x.length:Int)≠Od.ptIns kind):ptAgree kind x=20:=by unfold ptAgree;rw [if_neg h,if_pos h2]
theorem agree_all {kind:Int} {x:List Ten} (h:Od.ptIns kind≠0) (h2:(x.length:Int)=Od.ptIns kind):ptAgree kind x=if x.all (okTo x) then 0 else 20:=by unfold ptAgree okTo;rw [if_neg h,if_neg (λk=>k h2)]
theorem ptIns_cases (k:Int):(Od.ptIns k=0)∨(Od.ptIns k=1/\1<=k/\k<=5)∨(Od.ptIns k=2/\6<=k/\k<=7):=by
 unfold Od.ptIns
 split
 ·right;left;omega
 ·split
  ·right;right;omega
  ·left;rfl
theorem agree_yes {kind:Int} {x:List Ten} (h:ptAgree kind x=0):1<=kind/\kind<=7/\(x.length:Int)=Od.ptIns kind/\1<=x.length/\x.length<=2/\∀t∈x,okTo x t=true:=by
 by_cases h1:Od.ptIns kind=0
 ·rw [agree_op h1] at h;omega
 by_cases h2:(x.length:Int)=Od.ptIns kind
 ·rw [agree_all h1 h2] at h
  by_cases h3:x.all (okTo x)=true
  ·have h4:=ptIns_cases kind
   exact ⟨by omega,by omega,h2,by omega,by omega,List.all_eq_true.1 h3⟩
  ·rw [if_neg h3] at h;omega
 ·rw [agree_len h1 h2] at h;omega
theorem ok_right {x:List Ten} {t:Ten} (h:okTo x t=true):Tn.right t=true/\t.s=(got x 0).s:=by simpa [okTo] using h
end Ly
theorem qbE (kind:Int) (A:Option Addr) (f:Nat) (x:List Ten) (w:Zp1) (hl:x.length<=1048576) (hT:Tns w A x):
  Calls Tryz.prog 66 #[.int .i64 kind,.slice A x.length f] w λe w'=>e=.returned (.int .i64 (Ly.ptAgree kind x))/\Below w.heap.size w w':=by
 by_cases h1:Od.ptIns kind=0
 ·have E:=zI (Ly.agree_op (x:=x) h1).symm
  clear hT;go_enter Tryz.func66,Tryz.ntmps66;go_wp2_with fail;refine (qbO kind _).mono ?_;rintro e w1 ⟨rfl,rfl⟩;rw [h1];clear h1;go_wp2_with fail;go_ret;exact ⟨qa9 E.out,Ze1 _ _⟩
 by_cases h2:(x.length:Int)=Od.ptIns kind
 case neg=>
  have E:=zI (Ly.agree_len h1 h2).symm;have d1:(Od.ptIns kind==0)=false:=by simpa using h1
  have d2:((x.length:Int)==Od.ptIns kind)=false:=by simpa using h2
  have d3:((x.length:Int) != Od.ptIns kind)=true:=by simpa using h2
  clear h1 h2 hT;go_enter Tryz.func66,Tryz.ntmps66;go_wp2_with fail;refine (qbO kind _).mono ?_;rintro e w1 ⟨rfl,rfl⟩;generalize Od.ptIns kind=n at *;go_wp2_with fail;go_ret;exact ⟨qa9 E.out,Ze1 _ _⟩
 have HA:=zI (Ly.agree_all h1 h2)
 have hg:1<=x.length:=by
  have:=Ly.ptIns_cases kind;omega
 obtain ⟨b,off,S0,sc0,C0,cd0,rfl,hN,z0,z1,hm⟩:=hT.first hg
 have hF:=hm.r.1;have hI:=hm.l1;obtain ⟨H2,HT,hH,hK⟩:=zd4 h2 hT hF hm;clear hT hF hm;clear h1 h2 z1
 have d1:((x.length:Int)==0)=false:=by
                                                 have h3:(x.length:Int)≠0:=by omega
                                                 simpa using h3
 have k1:(0:Int)<(x.length:Int):=by omega
 have k2:0<x.length:=hg;go_enter Tryz.func66,Tryz.ntmps66;go_wp2_with fail;refine (qbO kind _).mono ?_;rintro e w1 ⟨rfl,rfl⟩;rw [←H2.out];go_wp2_with fail;generalize hs0:(Ly.got x 0).s=s0 at *
 go_loopw [18] (λi wx=>∃k:Nat,k<=x.length/\i=.int .i64 (k:Int)/\(x.take k).all (Ly.okTo x)=true/\Later w wx) (λi _=>x.length-(intOf i).toNat)
 case atStart=>exact ⟨0,by omega,rfl,rfl,Later.refl _⟩
 case round=>
  obtain ⟨k,hk,rfl,ha,hd⟩:=hrel
  by_cases hn:k<x.length
  ·obtain ⟨b',off',S,sc,C,cd,e,-,y0,y1,ht⟩:=(HT.out.later hd).at_ hn
   injection e with e;injection e with e1 e2;subst e1 e2
   have y2:wr.cell? ⟨b,off,none⟩=some (.slice S0 s0.length sc0):=hd.cell z0;have hx:Ly.got x k=x[k]:=qam hn;have ho:=qdn (p:=Ly.okTo x) hn ha;have hq:=qdZ (p:=Ly.okTo x) hn;have hE:Ly.okTo x x[k]=(Tn.right (Ly.got x k)&&((Ly.got x k).s==s0)):=by rw [←hx];unfold Ly.okTo;rw [hs0];congr 1;rw [Bool.eq_iff_iff];simp
   rw [hE] at ho hq;have hJ:=ht.l1;have hL:=ht.l2;have hz:=ht.r.1;have h2:Later wr (wr.alloc (.cells #[.slice S (Ly.got x k).s.length sc,.slice C (Ly.got x k).c.length cd] 30)):=(Later.refl wr).alloc _;have hC:=Blk.new wr 30 #[.slice S (Ly.got x k).s.length sc,.slice C (Ly.got x k).c.length cd];have hy:=hd.trans h2;have hM:=zI hs0;clear hx hs0 hE ha;generalize Ly.got x k=t at *;have hp:=zI h2;clear h2;obtain ⟨hD,Ht,hA,hv,hj,hG,hB⟩:=zd7 hd ht hz hC hy ho hq;clear hd ht hz hC hy ho hq;go_wp2_with fail;clear y0 y1;generalize wr.alloc (.cells #[.slice S t.s.length sc,.slice C t.c.length cd] 30)=w2 at *;have x0:w2.cell? ⟨wr.heap.size,0,none⟩=some (.slice S t.s.length sc):=by rw [hv.out.cell];rfl
   have x1:w2.cell? ⟨wr.heap.size,1,none⟩=some (.slice C t.c.length cd):=by rw [hv.out.cell];rfl
   have x2:w2.cell? ⟨b,off,none⟩=some (.slice S0 s0.length sc0):=hp.out.cell y2;clear y2;have hb:=λ(V:Zp1) (h:Later w2 V)=>qa2 S C sc cd t V oZ oZ (hA.out.below (hp.out.trans h) (lrZ _))
   cases hr:Tn.right t
   ·rw [hr] at hb
    have HN:=zI (hB.out (by rw [hr];rfl));clear hr;have hi:=zI hb;clear hb
    first
     | (go_region_with ((go_at_call 51;(with_reducible refine (hi.out _ (Lau:Later w2 _)).mono ?_);rintro e wa ⟨rfl,hw⟩)))
     | skip
    all_goals
     have hc:=hj.out.trans (Lau:Later w2 wa);have hh:=zI hc;clear hc;go_wp2_with fail;go_ret;exact ⟨qa9 (by rw [HA.out,HN.out];rfl),hh.out⟩
   ·have hf:=λ(V:Zp1) (h:Later w2 V)=>qaa S S0 sc sc0 t.s s0 V oZ oZ (hA.out.below (hp.out.trans h) (lrZ _)) (hH.out.below (hj.out.trans h) (lrZ _))
    rw [hr] at hb;cases he:(t.s==s0)
    ·have HN:=zI (hB.out (by rw [hr,he];rfl))
     rw [he] at hf;clear hr he;obtain ⟨hi,hs⟩:=zd2 hb hf;clear hb hf
     go_region_held3 (λW=>W.cell? ⟨wr.heap.size,0,none⟩=some (.slice S t.s.length sc)/\W.cell? ⟨wr.heap.size,1,none⟩=some (.slice C t.c.length cd)/\W.cell? ⟨b,off,none⟩=some (.slice S0 s0.length sc0)) (first|(with_reducible exact ⟨x0,x1,x2⟩)|exact ⟨Later.cell (Lau:Later w2 _) x0,Later.cell (Lau:Later w2 _) x1,Later.cell (Lau:Later w2 _) x2⟩)
      (first
       | (go_at_call 51;(with_reducible refine (hi.out _ (Lau:Later w2 _)).mono ?_);rintro e wa ⟨rfl,hw⟩)
       | (go_at_call 43;(with_reducible refine (hs.out _ (Lau:Later w2 _)).mono ?_);rintro e wd ⟨rfl,qd,rfl⟩))
     all_goals
      have hc:=hj.out.trans (Lau:Later w2 (wa.drewN qd));have hh:=zI hc;clear hc;go_wp2_with fail;go_ret;exact ⟨qa9 (by rw [HA.out,HN.out];rfl),hh.out⟩
    ·have HN:=zI (hG.out (by rw [hr,he];rfl))
     rw [he] at hf;clear hr he;obtain ⟨hi,hs⟩:=zd2 hb hf;clear hb hf
     go_region_held3 (λW=>W.cell? ⟨wr.heap.size,0,none⟩=some (.slice S t.s.length sc)/\W.cell? ⟨wr.heap.size,1,none⟩=some (.slice C t.c.length cd)/\W.cell? ⟨b,off,none⟩=some (.slice S0 s0.length sc0)) (first|(with_reducible exact ⟨x0,x1,x2⟩)|exact ⟨Later.cell (Lau:Later w2 _) x0,Later.cell (Lau:Later w2 _) x1,Later.cell (Lau:Later w2 _) x2⟩)
      (first
       | (go_at_call 51;(with_reducible refine (hi.out _ (Lau:Later w2 _)).mono ?_);rintro e wa ⟨rfl,hw⟩)
       | (go_at_call 43;(with_reducible refine (hs.out _ (Lau:Later w2 _)).mono ?_);rintro e wd ⟨rfl,qd,rfl⟩))
     all_goals
      have hc:=hj.out.trans (Lau:Later w2 (wa.drewN qd));have hh:=zI hc;clear hc;go_wp2_with fail;go_roundw
      case rel=>exact ⟨k+1,by omega,by go_num,HN.out,hh.out⟩
      case measure=>simp [intOf];omega
  ·obtain rfl:k=x.length:=by omega
   rw [Zg] at ha;obtain ⟨hu,hD⟩:=zd2 ha hd;clear ha hd;go_wp2_with fail;go_ret;exact ⟨qa9 (by rw [HA.out,if_pos hu.out]),hD.out⟩
namespace Ly
theorem point_err {kind k:Int} {x:List Ten} (h:ptAgree kind x≠0):point kind k x=(none_,ptAgree kind x):=by unfold point;rw [if_neg h]
theorem point_ok {kind k:Int} {x:List Ten} (h:ptAgree kind x=0):point kind k x=(⟨(got x 0).s,tab (got x 0).c.length λi=>cell kind k (at_ (got x 0).c i) (second x i)⟩,0):=by unfold point;rw [if_pos h]
theorem right_ok {t:Ten} (h:Tn.right t=true):t.s.length<=4/\t.c.length<=65536:=by have:=Tn.right_len h;omega
theorem same_len {a b:Ten} (ha:Tn.right a=true) (hb:Tn.right b=true) (h:a.s=b.s):a.c.length=b.c.length:=by
 simp [Tn.right] at ha hb;rw [h] at ha;omega
end Ly
theorem Blk.row_get {w:Zp1} {h:Nat} {t:TypeId} {l:List Int} {k:Nat} (hb:Blk w h t (l.map (Za1 .i64)).toArray) (hk:k<l.length):w.cell? ⟨h,k,none⟩=some (.int .i64 l[k]):=by
 rw [hb.cell,Zk,geZ (by simpa using hk)];simp
theorem point_go (kind k0:Int) (A:Option Addr) (f:Nat) (x:List Ten) (w:Zp1) (hl:x.length<=1048576) (hT:Tns w A x) (hk0:Fx.In k0):
  Calls Tryz.prog 101 #[.int .i64 kind,.int .i64 k0,.slice A x.length f] w (GoP (Ly.point kind k0 x) w):=by
 have Hp:Later w (w.alloc (.cells #[.slice none 0 0,.slice none 0 0] 30)):=(Later.refl w).alloc _;have hz:=Blk.new w 30 #[.slice none 0 0,.slice none 0 0];obtain ⟨HT,hY,Hz,HI⟩:=zd4 hT Hp hz hk0;clear hT Hp hz hk0;go_enter Tryz.func101,Tryz.ntmps101;go_wp2_with fail;generalize w.alloc (.cells #[.slice none 0 0,.slice none 0 0] 30)=w1 at *;refine (qbE kind A f x w1 hl (HT.out.later hY.out)).mono ?_;rintro e w2 ⟨rfl,h9⟩;have hA:=hY.out.call h9;have hj:=(show Later w1 w2 from h9).blk Hz.out;clear h9 Hz hY
 by_cases hg:Ly.ptAgree kind x=0
 case neg=>
  have HE:=zI (Ly.point_err (k:=k0) hg);have d1:(Ly.ptAgree kind x==0)=false:=by simpa using hg
  have d2:(Ly.ptAgree kind x != 0)=true:=by simpa using hg
  have Hg:=zI hg;clear hg;generalize Ly.ptAgree kind x=g at *;have c0:=hj.cell 0;have c1:=hj.cell 1;have f0:=hj.frozen 0;have f1:=hj.frozen 1;simp at c0 c1;obtain ⟨hX,hU⟩:=zd2 hA hj;clear hA hj;go_wp2_with fail;refine Zk1 (v:=.tuple #[.agg #[.slice none 0 0,.slice none 0 0],.int .i64 g]) (by simp [results,Tryz.results101,go_sem,c0,c1]) rfl ?_;exact GoP.fail HE.out Hg.out ((hX.out.set (p:=⟨w.heap.size,0,none⟩) (lrZ _) _).set (p:=⟨w.heap.size,1,none⟩) (lrZ _) _)
 have HE:=zI (Ly.point_ok (k:=k0) hg);obtain ⟨k1,k7,-,l1,l2,hp⟩:=Ly.agree_yes hg;rw [hg];obtain ⟨hW,-⟩:=Ly.ok_right (hp _ (by rw [qam (show 0<x.length by omega)];exact gmZ _):Ly.okTo x (Ly.got x 0)=true)
 have hD:2<=x.length->(Ly.got x 1).c.length=(Ly.got x 0).c.length:=λh=>by
  obtain ⟨a,b⟩:=Ly.ok_right (hp _ (by rw [qam (show 1<x.length by omega)];exact gmZ _):Ly.okTo x (Ly.got x 1)=true);exact Ly.same_len a hW b
 obtain ⟨Hc,Hg⟩:=zd2 hD hg;clear hg hp hD;obtain ⟨b,off,S,sc,C,cd,rfl,HY,z0,z1,ht⟩:=(HT.out.later hA).first oZ
 obtain ⟨r1,r2⟩:=Ly.right_ok hW;have Hn:=ht.r;have hq:=ht.num
 have hb:∀i,Fx.In (Ly.second x i):=λi=>by
  unfold Ly.second
  split
  ·exact Fx.in_zero
  ·exact Ly.at_in (Ly.got_in HT.out.in_ 1) i
 generalize hR:(Ly.tab (Ly.got x 0).c.length λi=>Ly.cell kind k0 (Ly.at_ (Ly.got x 0).c i) (Ly.second x i))=R at *;have Hj:R.length=(Ly.got x 0).c.length:=by rw [←hR,Ly.tab_len]
 have Hk:∀i (hi:i<R.length),R[i]=Ly.cell kind k0 (Ly.at_ (Ly.got x 0).c i) (Ly.second x i):=λi hi=>by subst hR;exact Ly.tab_get hi
 have hC:∀z∈R,Fx.In z:=by rw [←hR];exact Ly.tab_in λi _=>Ly.cell_in (Ly.at_in hq i)
 clear hR;generalize ht0:Ly.got x 0=t at *;obtain ⟨H3,HX,hr⟩:=zd3 ht0 hW Hj;clear ht0 hW Hj;obtain ⟨y0,y1,hX,hU,Ht,Hd,He,hn,HH⟩:=zd9 z0 z1 hA hj ht Hn hq hb Hk;have h6:=zI hC;clear hA hj ht Hn hq hb Hk hC;go_wp2_with fail;clear z0 z1;refine (qa8 S C sc cd t w2 oZ oZ Hd.out).mono ?_;rintro e w3 ⟨v,rfl,⟨g,h,rfl,hg,hh,hG,hH⟩,HD⟩;have hS:Later w2 w3:=HD;have hM:Later w3 (w3.alloc (.cells #[.slice (some ⟨g,0,none⟩) t.s.length t.s.length,.slice (some ⟨h,0,none⟩) t.c.length t.c.length] 30)):=(Later.refl w3).alloc _;have ho:=Blk.new w3 30 #[.slice (some ⟨g,0,none⟩) t.s.length t.s.length,.slice (some ⟨h,0,none⟩) t.c.length t.c.length];have hv:=hS.trans hM;have Hw:=hX.out.trans hv;have Hl:=hv.blk hU.out;have Hf:=hM.blk hG;have HC:=hM.blk hH;have H5:=hX.out.size;have HW:=hS.size;have H1:=hH.lt;have H4:=hG.lt;have HV:=hU.out.lt
 have h7:g≠h:=by
  intro e;subst e;have h1:(Obj.cells (t.s.map (Za1 .i64)).toArray 3 (0,0))=_:=Option.some.inj (hG.symm.trans hH);injection h1 with _ h2 _
  exact absurd h2 dZ
 have z1:=hv.cell y1.out;clear HD hU hG hH y0 y1;have Z1:=zI z1;clear z1;obtain ⟨HL,HN,Ho,Hr,HP,HQ,HG,HJ⟩:=zd8 hS hM ho hv Hw Hl Hf HC;clear hS hM ho hv Hw Hl Hf HC;go_upto_region 5 with fail;generalize w3.alloc (.cells #[.slice (some ⟨g,0,none⟩) t.s.length t.s.length,.slice (some ⟨h,0,none⟩) t.c.length t.c.length] 30)=w4 at *;generalize hpe:w3.heap.size=p at *;have H2:h<p:=by omega
 have HU:w.heap.size<p:=by omega
 have z1:=Z1.out;have H6:=zI (Hd.out.2.below Hr.out (lrZ _));clear Z1 HN HL hpe;go_wp2_with fail;clear z1;have Hv:Blk w4 h 22 ((R.take 0++t.c.drop 0).map (Za1 .i64)).toArray:=by simpa using HJ.out
 have Hs:=zI Hv;clear Hv
 go_loopw [28] (λi wx=>∃k:Nat,k<=t.c.length/\i=.int .i64 (k:Int)/\Blk wx h 22 ((R.take k++t.c.drop k).map (Za1 .i64)).toArray/\Blk wx p 30 #[.slice (some ⟨g,0,none⟩) t.s.length t.s.length,.slice (some ⟨h,0,none⟩) t.c.length t.c.length]/\Blk wx w.heap.size 30 #[.slice none 0 0,.slice none 0 0]/\Blk wx g 3 (t.s.map (Za1 .i64)).toArray/\Later w wx/\Later w2 wx) (λi _=>t.c.length-(intOf i).toNat)
 case atStart=>exact ⟨0,Zt _,rfl,Hs.out,Ho.out,HQ.out,HG.out,HP.out,Hr.out⟩
 case round=>
  obtain ⟨k,hk,rfl,hm,hf,hd,hx,hs,ha⟩:=hrel;clear Hs
  by_cases Hq:k<t.c.length
  ·obtain ⟨b2,off2,rfl,-,HK⟩:=(Hd.out.2.below ha (lrZ _)) k Hq
   rw [show t.c.getD k 0=Ly.at_ t.c k from rfl] at HK;have he:k<R.length:=by have:=hr.out;omega
   have hP:=Ly.mid_step R t.c he hr.out;have hB:=Ly.mid_len R t.c k oZ hr.out;have Ha:=HH.out k he;have hE:=Ly.at_in He.out k;have hN:=hn.out k;have Hx:=HT.out.later hs;have hc:2<=x.length->k<(Ly.got x 1).c.length:=λh=>by rw [Hc.out h];exact Hq
   have Hh:=λ(V:Zp1) (hV:Later w V)=>qbf (some ⟨b,off,none⟩) f x k V hl (HT.out.later hV) hc
   have h5:=λ(V:Zp1)=>qfa kind k0 (Ly.at_ t.c k) (Ly.second x k) V k1 k7 HI.out hE hN
   rw [Ha] at hP;rw [←Ha] at h5 hP;have hL:∀(V:Zp1),Calls Tryz.prog 144 #[.int .i64 kind,.int .i64 k0,.int .i64 (Ly.at_ t.c k),.int .i64 (Ly.second x k)] V λe w'=>e=.returned (.int .i64 R[k])/\V=w':=h5
   generalize hy:R[k]=y at *;generalize Ly.at_ t.c k=xk at *;generalize Ly.second x k=sk at *;have o1:wr.cell? ⟨p,1,none⟩=some (.slice (some ⟨h,0,none⟩) t.c.length t.c.length):=by rw [hf.cell];rfl
   obtain ⟨u,hu⟩:∃u,wr.cell? ⟨h,k,none⟩=some u:=⟨_,hm.row_get (by rw [hB];exact he)⟩
   have fu:=hm.frozen k
   have Hy:Blk (wr.setCell ⟨h,k,none⟩ (.int .i64 y)) h 22 ((R.take (k+1)++t.c.drop (k+1)).map (Za1 .i64)).toArray:=by
    have:=hm.set_ k (.int .i64 y);rw [←hP,List.map_set];simpa using this
   have hK:=hf.far (p:=⟨h,k,none⟩) soZ (.int .i64 y);have hO:=hd.far (p:=⟨h,k,none⟩) soZ (.int .i64 y);have hF:Blk (wr.setCell ⟨h,k,none⟩ (.int .i64 y)) g 3 (t.s.map (Za1 .i64)).toArray:=hx.far (p:=⟨h,k,none⟩) h7 (.int .i64 y);have hw:=hs.set (p:=⟨h,k,none⟩) soZ (.int .i64 y);have hJ:=ha.set (p:=⟨h,k,none⟩) hh (.int .i64 y);have kk1:(k:Int)<(t.c.length:Int):=by omega
   have kk2:(0:Int)<=(k:Int):=by omega
   clear hy hB Ha hE hN he h5;obtain ⟨Hm,HS,HR,HB,HO,hZ,h4,h3,Hb⟩:=zd9 hm hf hd hx Hy hK hO hF hw;obtain ⟨h0,HZ,HM⟩:=zd3 hJ hP Hh;have h8:=zI hL;obtain ⟨H0,Hi⟩:=zd2 Hx hc;have Hu:=zI ha;have hI:=zI hs;clear hm hf hd hx Hy hK hO hF hw hJ hP Hh hL Hx hc ha hs;go_wp2_with fail
   go_region_law ((first
    | (go_simp;go_at_call 68;(with_reducible refine (HM.out _ (by first|exact hI.out|exact hI.out.drew|exact hI.out.drewN _)).mono ?_);rintro e wa ⟨rfl,rfl⟩)
    | (go_simp;go_at_call 144;(with_reducible refine (h8.out _).mono ?_);rintro e wb ⟨rfl,rfl⟩)))
   all_goals
    go_wp2_with fail;go_roundw
    case rel=>exact ⟨k+1,by omega,by go_num,HO.out.drew,hZ.out.drew,h4.out.drew,h3.out.drew,Hb.out.drew,h0.out.drew⟩
    case measure=>simp [intOf];omega
  ·obtain rfl:k=t.c.length:=by omega
   rw [Ly.mid_end R t.c _ hr.out.symm hr.out] at hm;have o0:wr.cell? ⟨p,0,none⟩=some (.slice (some ⟨g,0,none⟩) t.s.length t.s.length):=by rw [hf.cell];rfl
   have o1:wr.cell? ⟨p,1,none⟩=some (.slice (some ⟨h,0,none⟩) t.c.length t.c.length):=by rw [hf.cell];rfl
   have c0:=hd.cell 0;have c1:=hd.cell 1;have f0:=hd.frozen 0;have f1:=hd.frozen 1;simp at c0 c1;have hQ:=(hd.set_ 0 (.slice (some ⟨g,0,none⟩) t.s.length t.s.length)).set_ 1 (.slice (some ⟨h,0,none⟩) t.c.length t.c.length);have d0:=hQ.cell 0;have d1:=hQ.cell 1;simp at d0 d1;have HF:g≠w.heap.size:=by omega
   have HA:h≠w.heap.size:=by omega
   obtain ⟨Hm,HS,HR,HB,hI,H7⟩:=zd6 hm hf hd hx hs hQ;clear hm hf hd hx hs hQ;go_wp2_with fail;refine Zk1 (v:=.tuple #[.agg #[.slice (some ⟨g,0,none⟩) t.s.length t.s.length,.slice (some ⟨h,0,none⟩) t.c.length t.c.length],.int .i64 0]) (by simp [results,Tryz.results101,go_sem,d0,d1]) rfl ?_;refine GoP.ok HE.out (TenN.o ⟨g,h,by simp [hr.out],by omega,by omega,(HB.out.far (p:=⟨w.heap.size,0,none⟩) HF _).far (p:=⟨w.heap.size,1,none⟩) HF _,(Hm.out.far (p:=⟨w.heap.size,0,none⟩) HA _).far (p:=⟨w.heap.size,1,none⟩) HA _⟩ (by show t.s.length<=_;omega) (by have:=hr.out;show R.length<=_;omega) h6.out) ((hI.out.set (p:=⟨w.heap.size,0,none⟩) (lrZ _) _).set (p:=⟨w.heap.size,1,none⟩) (lrZ _) _)
namespace Ly
theorem alike_a {a b:Ten} (h:Tn.right a=false):alike a b=false:=by simp [alike,h]
theorem alike_b {a b:Ten} (h:Tn.right b=false):alike a b=false:=by simp [alike,h]
theorem alike_s {a b:Ten} (h:Tn.right a=true) (h2:Tn.right b=true):alike a b=(a.s==b.s):=by simp [alike,h,h2];rw [Bool.eq_iff_iff];simp
theorem alike_yes {a b:Ten} (h:alike a b=true):Tn.right a=true/\Tn.right b=true/\a.s=b.s:=by simpa [alike,and_assoc] using h
theorem add_err {a b:Ten} (h:alike a b=false):add a b=(none_,20):=by simp [add,h]
theorem add_ok {a b:Ten} (h:alike a b=true):add a b=(⟨a.s,tab a.c.length λi=>Fx.add (at_ a.c i) (at_ b.c i)⟩,0):=by simp [add,h]
end Ly
theorem qaV (w:Zp1) (t t':TypeId) (a b:Array Value):Blk ((w.alloc (.cells a t)).alloc (.cells b t')) w.heap.size t a/\Blk ((w.alloc (.cells a t)).alloc (.cells b t')) (w.heap.size+1) t' b/\Later w ((w.alloc (.cells a t)).alloc (.cells b t')):=by
 refine ⟨(Blk.new w t a).alloc _,?_,((Later.refl w).alloc _).alloc _⟩;have:=Blk.new (w.alloc (.cells a t)) t' b
 rwa [Zh1] at this
theorem qe0 (S C S' C':Option Addr) (c d c' d':Nat) (a b:Ten) (w:Zp1) (ha:TenIn w S C c d a) (hb:TenIn w S' C' c' d' b):
  Calls Tryz.prog 84 #[.agg #[.slice S a.s.length c,.slice C a.c.length d],.agg #[.slice S' b.s.length c',.slice C' b.c.length d']] w λe w'=>e=.returned (.bool (Ly.alike a b))/\Below w.heap.size w w':=by
 obtain ⟨hj,hm,he⟩:=qaV w 30 30 #[.slice S a.s.length c,.slice C a.c.length d] #[.slice S' b.s.length c',.slice C' b.c.length d'];have la:=ha.l1;have lb:=hb.l1;have la2:=ha.l2;have lb2:=hb.l2;obtain ⟨hq,hl,hh,Ha,Hb⟩:=zd5 hj hm he ha hb;clear hj hm he ha hb;go_enter Tryz.func84,Tryz.ntmps84;go_wp2_with fail;generalize (w.alloc (.cells #[.slice S a.s.length c,.slice C a.c.length d] 30)).alloc (.cells #[.slice S' b.s.length c',.slice C' b.c.length d'] 30)=w2 at *;have x0:w2.cell? ⟨w.heap.size,0,none⟩=some (.slice S a.s.length c):=by rw [hq.out.cell];rfl
 have x1:w2.cell? ⟨w.heap.size,1,none⟩=some (.slice C a.c.length d):=by rw [hq.out.cell];rfl
 have x2:w2.cell? ⟨w.heap.size+1,0,none⟩=some (.slice S' b.s.length c'):=by rw [hl.out.cell];rfl
 have x3:w2.cell? ⟨w.heap.size+1,1,none⟩=some (.slice C' b.c.length d'):=by rw [hl.out.cell];rfl
 have hA:=(Ha.out.later hh.out)
 have hB:=(Hb.out.later hh.out)
 have hn:=λ(V:Zp1) (h:Later w2 V)=>qa2 S C c d a V oZ oZ (hA.later h).r.1
 have ho:=λ(V:Zp1) (h:Later w2 V)=>qa2 S' C' c' d' b V oZ oZ (hB.later h).r.1
 have hf:=λ(V:Zp1) (h:Later w2 V)=>qaa S S' c c' a.s b.s V oZ oZ (hA.later h).r.1 (hB.later h).r.1
 clear hA hB;obtain ⟨hu,hv,hs⟩:=zd3 hn ho hf;clear hn ho hf;refine (hu.out w2 (Later.refl _)).mono ?_;rintro e w3 ⟨rfl,hp⟩;have hc:Later w2 w3:=hp;have y2:=hc.cell x2;have y0:=hc.cell x0;have y3:=hc.cell x3;clear x0 x1 x2 x3 hp;cases hr:Tn.right a
 ·have HE:=zI (Ly.alike_a (b:=b) hr)
  clear hr;have hg:=zI hc;clear hc;go_wp2_with fail;go_ret;exact ⟨by rw [HE.out];rfl,hh.out.trans hg.out⟩
 ·have he:=hv.out w3 hc
  have hf:=hs.out;obtain ⟨hg,Hq,ht⟩:=zd3 hc he hf;clear hc he hf;go_wp2_with fail;refine (Hq.out).mono ?_;rintro e w4 ⟨rfl,hk⟩;have hd:Later w3 w4:=hk;have z2:=hd.cell y2;have z0:=hd.cell y0;clear y0 y2 y3 hk;cases hr2:Tn.right b
  ·have HE:=zI (Ly.alike_b (a:=a) hr2)
   clear hr hr2;have hi:=zI hd;clear hd;go_wp2_with fail;go_ret;exact ⟨by rw [HE.out];rfl,(hh.out.trans hg.out).trans hi.out⟩
  ·have HE:=zI (Ly.alike_s hr hr2)
   clear hr hr2;have hi:=zI hd;clear hd;go_wp2_with fail;refine (ht.out w4 (hg.out.trans hi.out)).mono ?_;rintro e w5 ⟨rfl,q,rfl⟩;go_wp2_with fail;go_ret;exact ⟨by rw [HE.out];rfl,((hh.out.trans hg.out).trans hi.out).drewN q⟩
namespace Ly
theorem mid_at (C L:List Int) {k:Nat} (hk:k<L.length) (hn:C.length=L.length):∃h:k<(C.take k++L.drop k).length,(C.take k++L.drop k)[k]=L[k]:=by
 have h1:(C.take k).length=k:=by simp;omega
 refine ⟨by simp;omega,?_⟩;rw [List.getElem_append_right oZ];simp [h1]
end Ly
theorem qal (w:Zp1) (t t' t2:TypeId) (a b z:Array Value):Blk (((w.alloc (.cells a t)).alloc (.cells b t')).alloc (.cells z t2)) w.heap.size t a/\Blk (((w.alloc (.cells a t)).alloc (.cells b t')).alloc (.cells z t2)) (w.heap.size+1) t' b/\Blk (((w.alloc (.cells a t)).alloc (.cells b t')).alloc (.cells z t2)) (w.heap.size+2) t2 z/\Later w (((w.alloc (.cells a t)).alloc (.cells b t')).alloc (.cells z t2)):=by
 obtain ⟨h1,h2,h3⟩:=qaV w t t' a b;refine ⟨h1.alloc _,h2.alloc _,?_,h3.alloc _⟩;have:=Blk.new ((w.alloc (.cells a t)).alloc (.cells b t')) t2 z
 rwa [Zh1,Zh1] at this
theorem qb1 {w:Zp1} {g h:Nat} {s c:List Int} (hG:Blk w g 3 (s.map (Za1 .i64)).toArray) (hH:Blk w h 22 (c.map (Za1 .i64)).toArray):g≠h:=by
 intro e;subst e;have h1:(Obj.cells (s.map (Za1 .i64)).toArray 3 (0,0))=_:=Option.some.inj (hG.symm.trans hH);injection h1 with _ h2 _
 exact absurd h2 dZ
theorem qcZ (S C S' C':Option Addr) (c d c' d':Nat) (a b:Ten) (w:Zp1) (ha:TenIn w S C c d a) (hb:TenIn w S' C' c' d' b):
  Calls Tryz.prog 34 #[.agg #[.slice S a.s.length c,.slice C a.c.length d],.agg #[.slice S' b.s.length c',.slice C' b.c.length d']] w (GoP (Ly.add a b) w):=by
 obtain ⟨Hh,h2,hz,Hl⟩:=qal w 30 30 30 #[.slice S a.s.length c,.slice C a.c.length d] #[.slice S' b.s.length c',.slice C' b.c.length d'] #[.slice none 0 0,.slice none 0 0];obtain ⟨Hc,Hj,Hz,hF,Ha,Hb⟩:=zd6 Hh h2 hz Hl ha hb;clear Hh h2 hz Hl ha hb;go_enter Tryz.func34,Tryz.ntmps34;go_wp2_with fail;generalize ((w.alloc (.cells #[.slice S a.s.length c,.slice C a.c.length d] 30)).alloc (.cells #[.slice S' b.s.length c',.slice C' b.c.length d'] 30)).alloc (.cells #[.slice none 0 0,.slice none 0 0] 30)=w1 at *;refine (qe0 S C S' C' c d c' d' a b w1 (Ha.out.later hF.out) (Hb.out.later hF.out)).mono ?_;rintro e w2 ⟨rfl,h7⟩;have ht:Later w1 w2:=h7;have hK:=hF.out.trans ht;have hf:=ht.blk Hz.out;have hp:=ht.blk Hc.out;have hc:=ht.blk Hj.out;clear h7 Hz hF Hc Hj ht;cases hg:Ly.alike a b
 ·have HE:=zI (Ly.add_err hg)
  clear hg;have c0:=hf.cell 0;have c1:=hf.cell 1;have f0:=hf.frozen 0;have f1:=hf.frozen 1;simp at c0 c1;obtain ⟨hy,hL,Hy⟩:=zd3 hK hf hp;have hQ:=zI hc;clear hK hf hp hc;go_wp2_with fail;refine Zk1 (v:=.tuple #[.agg #[.slice none 0 0,.slice none 0 0],.int .i64 20]) (by simp [results,Tryz.results34,go_sem,c0,c1]) rfl ?_;exact GoP.fail HE.out dZ ((hy.out.set (p:=⟨w.heap.size+2,0,none⟩) sZ _).set (p:=⟨w.heap.size+2,1,none⟩) sZ _)
 obtain ⟨hO,hZ,hs⟩:=Ly.alike_yes hg;have HE:=zI (Ly.add_ok hg);have he:b.c.length=a.c.length:=(Ly.same_len hO hZ hs).symm;obtain ⟨r1,r2⟩:=Ly.right_ok hO;generalize hR:(Ly.tab a.c.length λi=>Fx.add (Ly.at_ a.c i) (Ly.at_ b.c i))=R at *;have Hd:R.length=a.c.length:=by rw [←hR,Ly.tab_len]
 have Hf:∀i (hi:i<R.length),R[i]=Fx.add (Ly.at_ a.c i) (Ly.at_ b.c i):=λi hi=>by subst hR;exact Ly.tab_get hi
 have hA:∀z∈R,Fx.In z:=by rw [←hR];exact Ly.tab_in λi _=>Fx.add_in _ _
 have x0:=hp.cell 0;have x1:=hp.cell 1;have x2:=hc.cell 0;have x3:=hc.cell 1;simp at x0 x1 x2 x3;obtain ⟨HL,hj⟩:=zd2 he Hd;have Hi:=Ha.out.num;have h9:=Hb.out.num;clear hR hg hO hZ hs he Hd;obtain ⟨hy,hL,Hy⟩:=zd3 hK hf hp;have hQ:=zI hc;obtain ⟨Hv,hX,Hx,HJ⟩:=zd4 Hf hA Hi h9;clear hK hf hp hc Hf hA Hi h9;go_wp2_with fail;have X3:=zI x3;clear x0 x1 x2 x3;refine (qa8 S C c d a w2 oZ oZ (Ha.out.later hy.out).r).mono ?_;rintro e w3 ⟨v,rfl,⟨g,h,rfl,hg,hh,hG,hH⟩,Hp⟩;have hJ:Later w2 w3:=Hp;have hx:Later w3 (w3.alloc (.cells #[.slice (some ⟨g,0,none⟩) a.s.length a.s.length,.slice (some ⟨h,0,none⟩) a.c.length a.c.length] 30)):=(Later.refl w3).alloc _;have ho:=Blk.new w3 30 #[.slice (some ⟨g,0,none⟩) a.s.length a.s.length,.slice (some ⟨h,0,none⟩) a.c.length a.c.length];have hr:=hJ.trans hx;have h1:=hy.out.trans hr;have Hg:=hr.blk hL.out;have hY:=hx.blk hG;have Hn:=hx.blk hH;have HR:=hy.out.size;have HT:=hJ.size;have HK:=hH.lt;have HP:=hG.lt;have HQ:=hL.out.lt;have hN:=qb1 hG hH;have x3:=hr.cell X3.out;clear Hp hL hG hH X3;have X3:=zI x3;clear x3;obtain ⟨HG,Hu,Ho,HW,HA,HD,Ht,HB⟩:=zd8 hJ hx ho hr h1 Hg hY Hn;clear hJ hx ho hr h1 Hg hY Hn;go_upto_region 4 with fail;generalize w3.alloc (.cells #[.slice (some ⟨g,0,none⟩) a.s.length a.s.length,.slice (some ⟨h,0,none⟩) a.c.length a.c.length] 30)=w4 at *;generalize hpe:w3.heap.size=p at *;have HM:h<p:=by omega
 have HO:w.heap.size+2<p:=by omega
 have x3:=X3.out;clear X3 Hu HG hpe;go_wp2_with fail;clear x3;have h0:Blk w4 h 22 ((R.take 0++a.c.drop 0).map (Za1 .i64)).toArray:=by simpa using HB.out
 have Hs:=zI h0;clear h0
 go_loopw [19] (λi wx=>∃k:Nat,k<=b.c.length/\i=.int .i64 (k:Int)/\Blk wx h 22 ((R.take k++a.c.drop k).map (Za1 .i64)).toArray/\Blk wx p 30 #[.slice (some ⟨g,0,none⟩) a.s.length a.s.length,.slice (some ⟨h,0,none⟩) a.c.length a.c.length]/\Blk wx (w.heap.size+2) 30 #[.slice none 0 0,.slice none 0 0]/\Blk wx g 3 (a.s.map (Za1 .i64)).toArray/\Later w wx) (λi _=>b.c.length-(intOf i).toNat)
 case atStart=>exact ⟨0,Zt _,rfl,Hs.out,Ho.out,HD.out,Ht.out,HA.out⟩
 case round=>
  obtain ⟨k,hk,rfl,hm,hl,hd,hw,hq⟩:=hrel;clear Hs;have HS:b.c.length<=a.c.length:=Nat.le_of_eq HL.out
  by_cases HC:k<b.c.length
  ·obtain ⟨b2,off2,rfl,-,HU⟩:=(Hb.out.later hq).cell HC
   have hn:k<R.length:=by have:=hj.out;omega
   have hM:=Ly.mid_step R a.c hn hj.out;have he:=Ly.mid_len R a.c k oZ hj.out;obtain ⟨Hk,He⟩:=Ly.mid_at R a.c (k:=k) oZ hj.out;have hS:=hm.row_get Hk;rw [He,←Ly.at_get (show k<a.c.length by omega)] at hS;have h6:=Hv.out k hn;have hC:=Ly.at_in Hx.out k;have hB:=Ly.at_in HJ.out k;have h5:=λ(V:Zp1)=>qaM (Ly.at_ a.c k) (Ly.at_ b.c k) V hC hB
   rw [h6] at hM;generalize Ly.at_ a.c k=xk at *;generalize Ly.at_ b.c k=yk at *;have o1:wr.cell? ⟨p,1,none⟩=some (.slice (some ⟨h,0,none⟩) a.c.length a.c.length):=by rw [hl.cell];rfl
   have fu:=hm.frozen k
   have h3:Blk (wr.setCell ⟨h,k,none⟩ (.int .i64 (Fx.add xk yk))) h 22 ((R.take (k+1)++a.c.drop (k+1)).map (Za1 .i64)).toArray:=by
    have:=hm.set_ k (.int .i64 (Fx.add xk yk));rw [←hM,List.map_set];simpa using this
   have hu:=hl.far (p:=⟨h,k,none⟩) soZ (.int .i64 (Fx.add xk yk));have hE:=hd.far (p:=⟨h,k,none⟩) soZ (.int .i64 (Fx.add xk yk));have hD:Blk (wr.setCell ⟨h,k,none⟩ (.int .i64 (Fx.add xk yk))) g 3 (a.s.map (Za1 .i64)).toArray:=hw.far (p:=⟨h,k,none⟩) hN (.int .i64 (Fx.add xk yk));have hv:=hq.set (p:=⟨h,k,none⟩) soZ (.int .i64 (Fx.add xk yk));have kk1:(k:Int)<(a.c.length:Int):=by omega
   have kk2:(0:Int)<=(k:Int):=by omega
   have kk3:(k:Int)<(b.c.length:Int):=by omega
   clear he h6 hC hB hn Hk He;obtain ⟨Hm,HI,HF,h8,Hw,hP,hV,hU,hT⟩:=zd9 hm hl hd hw h3 hu hE hD hv;obtain ⟨HV,HH,Hq⟩:=zd3 hM h5 hq;clear hm hl hd hw h3 hu hE hD hv hM h5 hq;go_wp2_with fail
   go_region_law ((first
    | (go_simp;go_at_call 55;(with_reducible refine (HH.out _).mono ?_);rintro e wa ⟨rfl,rfl⟩)))
   all_goals
    go_wp2_with fail;go_roundw
    case rel=>exact ⟨k+1,by omega,by go_num,Hw.out.drew,hP.out.drew,hV.out.drew,hU.out.drew,hT.out.drew⟩
    case measure=>simp [intOf];omega
  ·have hW:k=a.c.length:=by have:=HL.out;omega
   rw [Ly.mid_end R a.c _ (by rw [hW];exact hj.out.symm) hj.out] at hm;obtain rfl:k=b.c.length:=by omega
   have HN:=zI hW;clear hW;have o0:wr.cell? ⟨p,0,none⟩=some (.slice (some ⟨g,0,none⟩) a.s.length a.s.length):=by rw [hl.cell];rfl
   have o1:wr.cell? ⟨p,1,none⟩=some (.slice (some ⟨h,0,none⟩) a.c.length a.c.length):=by rw [hl.cell];rfl
   have c0:=hd.cell 0;have c1:=hd.cell 1;have f0:=hd.frozen 0;have f1:=hd.frozen 1;simp at c0 c1;have hI:=(hd.set_ 0 (.slice (some ⟨g,0,none⟩) a.s.length a.s.length)).set_ 1 (.slice (some ⟨h,0,none⟩) a.c.length a.c.length);have d0:=hI.cell 0;have d1:=hI.cell 1;simp at d0 d1;have Hr:g≠w.heap.size+2:=by omega
   have h4:h≠w.heap.size+2:=by omega
   obtain ⟨Hm,HI,HF,h8,Hq,HX⟩:=zd6 hm hl hd hw hq hI;clear hm hl hd hw hq hI;go_wp2_with fail;refine Zk1 (v:=.tuple #[.agg #[.slice (some ⟨g,0,none⟩) a.s.length a.s.length,.slice (some ⟨h,0,none⟩) a.c.length a.c.length],.int .i64 0]) (by simp [results,Tryz.results34,go_sem,d0,d1]) rfl ?_;refine GoP.ok HE.out (TenN.o ⟨g,h,by simp [hj.out],by omega,by omega,(h8.out.far (p:=⟨w.heap.size+2,0,none⟩) Hr _).far (p:=⟨w.heap.size+2,1,none⟩) Hr _,(Hm.out.far (p:=⟨w.heap.size+2,0,none⟩) h4 _).far (p:=⟨w.heap.size+2,1,none⟩) h4 _⟩ (by show a.s.length<=_;omega) (by have:=hj.out;show R.length<=_;omega) hX.out) ((Hq.out.set (p:=⟨w.heap.size+2,0,none⟩) sZ _).set (p:=⟨w.heap.size+2,1,none⟩) sZ _)
theorem qd0 (S C S' C':Option Addr) (c d c' d':Nat) (b x:Ten) (w:Zp1) (hb:TenIn w S C c d b) (hx:TenIn w S' C' c' d' x):
  Calls Tryz.prog 95 #[.agg #[.slice S b.s.length c,.slice C b.c.length d],.agg #[.slice S' x.s.length c',.slice C' x.c.length d']] w (GoP (Ly.add x b) w):=by
 obtain ⟨hn,ho,hz,hp⟩:=qal w 30 30 30 #[.slice S b.s.length c,.slice C b.c.length d] #[.slice S' x.s.length c',.slice C' x.c.length d'] #[.slice none 0 0,.slice none 0 0];obtain ⟨hG,hD,Hz,hf,Hb,Hx⟩:=zd6 hn ho hz hp hb hx;clear hn ho hz hp hb hx;go_enter Tryz.func95,Tryz.ntmps95;go_wp2_with fail;generalize ((w.alloc (.cells #[.slice S b.s.length c,.slice C b.c.length d] 30)).alloc (.cells #[.slice S' x.s.length c',.slice C' x.c.length d'] 30)).alloc (.cells #[.slice none 0 0,.slice none 0 0] 30)=w1 at *;refine (qcZ S' C' S C c' d' c d x b w1 (Hx.out.later hf.out) (Hb.out.later hf.out)).mono ?_;rintro e wf hi;have hd:Later w1 wf:=hi.2;have ha:=hd.blk Hz.out;have hh:=hf.out.trans hd;have f0:=ha.frozen 0;have f1:=ha.frozen 1;have hj:w.heap.size<=w.heap.size+2:=by first|exact lrZ _|simp|omega
 rcases hi.1 with ⟨hl,rfl⟩|⟨hs,v,rfl,hc⟩
 ·have c0:=ha.cell 0
  have c1:=ha.cell 1;simp at c0 c1;have he:=hl;generalize hge:(Ly.add x b).2=ge at *;obtain ⟨hA,hu⟩:=zd2 hge he;clear he;clear hi hl hd hge;obtain ⟨hm,hk⟩:=zd2 ha hh;clear ha hh;go_wp2_with fail;refine Zk1 (v:=.tuple #[.agg #[.slice none 0 0,.slice none 0 0],.int .i64 ge]) (by simp [results,Tryz.results95,go_sem,c0,c1]) rfl ?_;exact GoP.fail2 hA.out hu.out ((hk.out.set (p:=⟨w.heap.size+2,0,none⟩) hj _).set (p:=⟨w.heap.size+2,1,none⟩) hj _)
 ·have hw:=hc.base (hf.out.size)
  clear hi hc;obtain ⟨S2,c2,C2,d2,rfl,hr,ht,hq⟩:=hw;have hg:=(ha.set_ 0 (.slice S2 (Ly.add x b).1.s.length c2)).set_ 1 (.slice C2 (Ly.add x b).1.c.length d2);have d0:=hg.cell 0;have d1:=hg.cell 1;simp at d0 d1;have c0:=ha.cell 0;have c1:=ha.cell 1;simp at c0 c1;obtain ⟨hB,hF,hm,hk,hE,hy,hv,hC⟩:=zd8 hs hg ha hh hd hr ht hq;clear hg ha hh hd hr ht hq hs;go_wp2_with fail;refine Zk1 (v:=.tuple #[.agg #[.slice S2 (Ly.add x b).1.s.length c2,.slice C2 (Ly.add x b).1.c.length d2],.int .i64 0]) (by simp [results,Tryz.results95,go_sem,d0,d1]) rfl ?_;exact ⟨.inr ⟨hB.out,_,rfl,TenO.box ⟨S2,c2,C2,d2,rfl,hy.out,hv.out,hC.out⟩ hm.out⟩,(hk.out.set (p:=⟨w.heap.size+2,0,none⟩) hj _).set (p:=⟨w.heap.size+2,1,none⟩) hj _⟩
namespace Pn
def tenIs (t:Ten) (s:List Int):Bool:=Tn.right t&&(t.s==s)
def parOk (ps:List Ten) (ss:List (List Int)) (k:Nat):Bool:=(List.range k).all λi=>tenIs (Ly.got ps i) (ss.getD i [])
def fits (n:NetD) (ps:List Ten) (x:Ten):Int:=
 if Nt.check n≠0 then Nt.check n else if ps.length≠(Nt.params n).length then 20 else if parOk ps (Nt.params n) (Nt.params n).length=false then 20 else if tenIs x n.inn then 0 else 20
theorem parOk_succ {ps:List Ten} {ss:List (List Int)} {k:Nat} (h:parOk ps ss k=true) (h2:tenIs (Ly.got ps k) (ss.getD k [])=true):parOk ps ss (k+1)=true:=by
 unfold parOk at h ⊢;rw [List.range_succ,List.all_append,h,List.all_cons,h2]
 rfl
theorem parOk_bad {ps:List Ten} {ss:List (List Int)} {k m:Nat} (hk:k<m) (h2:tenIs (Ly.got ps k) (ss.getD k [])=false):parOk ps ss m=false:=by
 unfold parOk;rw [List.all_eq_false];exact ⟨k,by simpa using hk,by rw [h2];simp⟩
end Pn
set_option maxRecDepth 20000 in
theorem qd1 (A N P XS XC:Option Addr) (c d cp xc xd:Nat) (n:NetD) (ps:List Ten) (x:Ten) (w:Zp1) (hok:n.ok) (hR:NetR w A N n) (hd:n.nodes.length<=d) (hP:Tns w P ps) (lP:ps.length<=1048576) (hX:TenIn w XS XC xc xd x):
  Calls Tryz.prog 25 #[.agg #[.slice A n.inn.length c,.slice N n.nodes.length d],.slice P ps.length cp,.agg #[.slice XS x.s.length xc,.slice XC x.c.length xd]] w λe w'=>e=.returned (.int .i64 (Pn.fits n ps x))/\Below w.heap.size w w':=by
 have hU:=(Blk.new w 59 #[.slice A n.inn.length c,.slice N n.nodes.length d]).alloc (.cells #[.slice XS x.s.length xc,.slice XC x.c.length xd] 30);have hN:=Blk.new (w.alloc (.cells #[.slice A n.inn.length c,.slice N n.nodes.length d] 59)) 30 #[.slice XS x.s.length xc,.slice XC x.c.length xd];rw [Zh1] at hN;have h5:Later w ((w.alloc (.cells #[.slice A n.inn.length c,.slice N n.nodes.length d] 59)).alloc (.cells #[.slice XS x.s.length xc,.slice XC x.c.length xd] 30)):=((Later.refl w).alloc _).alloc _;have Hm:=hok.1;have lx1:=hX.l1;have lx2:=hX.l2;obtain ⟨hL,HR,HP,HX,hI,Ha,hS⟩:=zd7 hok hR hP hX hU hN h5;clear hok hR hP hX hU hN h5;go_enter Tryz.func25,Tryz.ntmps25;go_upto_region 1 with fail;generalize (w.alloc (.cells #[.slice A n.inn.length c,.slice N n.nodes.length d] 59)).alloc (.cells #[.slice XS x.s.length xc,.slice XC x.c.length xd] 30)=w1 at *;have a0:=hI.out.cell 0;have a1:=hI.out.cell 1;simp at a0 a1;go_wp2_with fail;refine (qfS A N c d n w1 hL.out (HR.out.below hS.out (lrZ _)) hd).mono ?_;rintro e w2 ⟨rfl,hY⟩;have hj:Later w1 w2:=hY;have hF:=hS.out.trans hj;have hn:=hj.blk hI.out;have hG:=hj.blk Ha.out;clear hY a0 a1
 by_cases hc:Nt.check n=0
 case neg=>
  have HE:=zI (show Pn.fits n ps x=Nt.check n by unfold Pn.fits;rw [if_pos hc]);have d2:(Nt.check n != 0)=true:=by simpa using hc
  clear hc;generalize Nt.check n=ge at *;obtain ⟨Hb,hE,hZ,h2⟩:=zd4 hj hF hn hG;clear hj hF hn hG;go_wp2_with fail;go_ret;exact ⟨by (rw [HE.out]<;>rfl),hE.out⟩
 have he:=show Pn.fits n ps x=(if ps.length≠(Nt.params n).length then 20 else if Pn.parOk ps (Nt.params n) (Nt.params n).length=false then 20 else if Pn.tenIs x n.inn then 0 else 20) by unfold Pn.fits;rw [if_neg oZ]
 rw [hc];clear hc;have a0:=hn.cell 0;have a1:=hn.cell 1;simp at a0 a1;obtain ⟨Hb,hE,hZ,h2,He⟩:=zd5 hj hF hn hG he;clear hj hF hn hG he;go_wp2_with fail;refine (qf7 A N c d n w2 hL.out (HR.out.below hE.out (lrZ _))).mono ?_;rintro e w3 ⟨B,bc,rfl,hB,Hs,Ho,h8⟩;have hw:Later w2 w3:=h8;have hQ:=hE.out.trans hw;have h6:=hw.blk hZ.out;have hW:=hw.blk h2.out
 have h3:∀s∈Nt.params n,s.length<=1048576:=λs hs=>by
  unfold Nt.params at hs;obtain ⟨v,hv,Hg⟩:=List.mem_flatMap.1 hs;exact (hL.out.2.2 v hv).2.2.2.2.1 s Hg
 clear h8 a0 a1;generalize Nt.params n=ss at *;obtain ⟨Hq,hu,h9,Hd,HB,Hc⟩:=zd6 hw hQ h6 hW hB h3;clear hw hQ h6 hW hB h3
 by_cases hl:ps.length=ss.length
 case neg=>
  have HE:=zI (He.out.trans (if_pos hl));have d2:((ps.length:Int) != (ss.length:Int))=true:=by simp;omega
  clear hl;go_wp2_with fail;go_ret;exact ⟨by (rw [HE.out]<;>rfl),hu.out⟩
 have hV:=He.out.trans (if_neg oZ);have d2:((ps.length:Int) != (ss.length:Int))=false:=by simp;omega
 have Hr:ss.length<=1048576:=by omega
 have Hl:=zI hl;clear hl;have hM:=zI hV;clear hV;go_wp2_with fail;clear d2
 go_loopw [25] (λi wx=>∃k:Nat,k<=ss.length/\i=.int .i64 (k:Int)/\Pn.parOk ps ss k=true/\Later w3 wx) (λi _=>ss.length-(intOf i).toNat)
 case atStart=>exact ⟨0,Zt _,rfl,rfl,Later.refl _⟩
 case round=>
  obtain ⟨k,hk,rfl,ha,hi⟩:=hrel
  by_cases hx:k<ss.length
  ·obtain ⟨b,off,T,tc,rfl,-,Hf,h1,Hn,Hj⟩:=(HB.out.below hi (lrZ _)) k hx
   have hK:k<ps.length:=by rw [Hl.out];exact hx
   obtain ⟨b',off',S',sc,C',cc,rfl,-,p0,p1,hT⟩:=(HP.out.later (hu.out.trans hi)).at_ hK;have Hi:=Hc.out _ (gmZ hx);have h7:ss.getD k []=ss[k]:=by rw [gdZ,geZ hx];rfl
   have hm:=λh=>Pn.parOk_bad (ps:=ps) (ss:=ss) (m:=ss.length) hx h
   have hb:=λh=>Pn.parOk_succ ha h
   rw [h7] at hm hb;have t1:=hT.l1;have t2:=hT.l2;have kk1:(k:Int)<(ss.length:Int):=by omega
   have kk2:(k:Int)<(ps.length:Int):=by omega
   generalize ss[k]=s at *;generalize Ly.got ps k=t at *;have hy:=λ(V:Zp1) (h:Later wr V)=>qa2 S' C' sc cc t V oZ oZ (hT.later h).r.1
   have ho:=λ(V:Zp1) (h:Later wr V)=>qaa S' T sc tc t.s s V oZ oZ (hT.later h).r.1 (h1.below h (lrZ _))
   obtain ⟨Hh,hA,hp,ht,hg,hh⟩:=zd6 ha hi hm hb hy ho;clear ha hi hm hb hy ho;clear h1 hT h7;cases hr:Tn.right t
   ·have HE:=zI (hM.out.trans (if_pos (hp.out (by unfold Pn.tenIs;rw [hr];rfl))))
    rw [hr] at hg;go_wp2_with fail;refine (hg.out _ (Later.refl _)).mono ?_;rintro e w4 ⟨rfl,hf⟩;go_wp2_with fail;go_ret;exact ⟨by (rw [HE.out]<;>rfl),(hu.out.trans hA.out).call hf⟩
   ·rw [hr] at hg
    go_wp2_with fail;refine (hg.out _ (Later.refl _)).mono ?_;rintro e w4 ⟨rfl,hf⟩;have h4:Later wr w4:=hf;have p0':=h4.cell p0;have p1':=h4.cell p1;clear p0 p1 Hf hf;cases hq:(t.s==s)
    ·have HE:=zI (hM.out.trans (if_pos (hp.out (by unfold Pn.tenIs;rw [hr,hq];rfl))))
     rw [hq] at hh;have H4:=zI h4;clear h4;go_wp2_with fail;refine (hh.out _ H4.out).mono ?_;rintro e w5 ⟨rfl,q5,rfl⟩;go_wp2_with fail;go_ret;exact ⟨by (rw [HE.out]<;>rfl),((hu.out.trans hA.out).trans H4.out).drewN q5⟩
    ·have HN:=zI (ht.out (by unfold Pn.tenIs;rw [hr,hq];rfl))
     rw [hq] at hh;clear hq;have H4:=zI h4;clear h4;go_wp2_with fail;refine (hh.out _ H4.out).mono ?_;rintro e w5 ⟨rfl,q5,rfl⟩;go_wp2_with fail;go_roundw
     case rel=>exact ⟨k+1,by omega,by go_num,HN.out,(hA.out.trans H4.out).drewN q5⟩
     case measure=>simp [intOf];omega
  ·obtain rfl:k=ss.length:=by omega
   have h0:=hM.out.trans (if_neg (by show ¬Pn.parOk ps ss ss.length=false;rw [ha];simp));have hC:=hi.blk h9.out;have hH:=hi.blk Hd.out;have a0:=hC.cell 0;have a1:=hC.cell 1;have b0:=hH.cell 0;have b1:=hH.cell 1;simp at a0 a1 b0 b1;have hD:=hu.out.trans hi;have hz:=HX.out.later hD;have hy:=qa2 XS XC xc xd x wr oZ oZ hz.r.1;have ho:=λ(V:Zp1) (h:Later wr V)=>qaa XS A xc c x.s n.inn V oZ oZ (hz.later h).r.1 (HR.out.1.below (hD.trans h) (lrZ _))
   clear ha;obtain ⟨hA,hJ,Hp,Hk,hO,Ht,hg,hh⟩:=zd8 hi h0 hC hH hD hz hy ho;clear hi h0 hC hH hD hz hy ho;cases hr:Tn.right x
   ·have HE:=zI (hJ.out.trans (if_neg (by unfold Pn.tenIs;rw [hr];simp)))
    rw [hr] at hg;go_wp2_with fail;refine (hg.out).mono ?_;rintro e w4 ⟨rfl,hf⟩;go_wp2_with fail;go_ret;exact ⟨by (rw [HE.out]<;>rfl),hO.out.call hf⟩
   ·rw [hr] at hg
    go_wp2_with fail;refine (hg.out).mono ?_;rintro e w4 ⟨rfl,hf⟩;have h4:Later wr w4:=hf;have a0':=h4.cell a0;have b0':=h4.cell b0;clear a0 a1 b0 b1 hf;cases hq:(x.s==n.inn)
    ·have HE:=zI (hJ.out.trans (if_neg (by unfold Pn.tenIs;rw [hr,hq];simp)))
     rw [hq] at hh;have H4:=zI h4;clear h4;go_wp2_with fail;refine (hh.out _ H4.out).mono ?_;rintro e w5 ⟨rfl,q5,rfl⟩;go_wp2_with fail;go_ret;exact ⟨by (rw [HE.out]<;>rfl),(hO.out.trans H4.out).drewN q5⟩
    ·have HE:=zI (hJ.out.trans (if_pos (by unfold Pn.tenIs;rw [hr,hq];rfl)))
     rw [hq] at hh;clear hq;have H4:=zI h4;clear h4;go_wp2_with fail;refine (hh.out _ H4.out).mono ?_;rintro e w5 ⟨rfl,q5,rfl⟩;go_wp2_with fail;go_ret;exact ⟨by (rw [HE.out]<;>rfl),(hO.out.trans H4.out).drewN q5⟩
def RowT (w:Zp1) (vs:List Value) (ts:List Ten):Prop:=
 vs.length=ts.length*2/\∀j (hj:j<ts.length),∃S c C d,vs[j*2]? = some (.slice S ts[j].s.length c)/\vs[j*2+1]? = some (.slice C ts[j].c.length d)/\TenIn w S C c d ts[j]
theorem RowT.nil (w:Zp1):RowT w [] []:=⟨rfl,λj hj=>absurd hj sZ⟩
theorem RowT.one {w:Zp1} {S C:Option Addr} {c d:Nat} {t:Ten} (h:TenIn w S C c d t):RowT w [.slice S t.s.length c,.slice C t.c.length d] [t]:=by
 refine ⟨rfl,λj hj=>?_⟩;obtain rfl:j=0:=by simp at hj;omega
 exact ⟨S,c,C,d,rfl,rfl,h⟩
theorem RowT.below {w w':Zp1} {vs:List Value} {ts:List Ten} {B:Nat} (h:RowT w vs ts) (hb:Below B w w') (hB:w.heap.size<=B):RowT w' vs ts:=
 ⟨h.1,λj hj=>by obtain ⟨S,c,C,d,e1,e2,e3⟩:=h.2 j hj;exact ⟨S,c,C,d,e1,e2,e3.below hb hB⟩⟩
theorem RowT.append {w:Zp1} {vs us:List Value} {p x:List Ten} (h:RowT w vs p) (k:RowT w us x):RowT w (vs++us) (p++x):=by
 have hl:=h.1;refine ⟨by simp [h.1,k.1,Nat.add_mul],λj hj=>?_⟩
 by_cases e:j<p.length
 ·obtain ⟨S,c,C,d,e1,e2,e3⟩:=h.2 j e
  refine ⟨S,c,C,d,?_,?_,?_⟩
  ·rw [Zm oZ,e1];simp [e]
  ·rw [Zm oZ,e2];simp [e]
  ·simpa [e] using e3
 ·have ha:j-p.length<x.length:=by simp at hj;omega
  obtain ⟨S,c,C,d,e1,e2,e3⟩:=k.2 (j-p.length) ha;refine ⟨S,c,C,d,?_,?_,?_⟩
  ·rw [Zl oZ,show j*2-vs.length=(j-p.length)*2 by omega,e1,List.getElem_append_right oZ]
  ·rw [Zl oZ,show j*2+1-vs.length=(j-p.length)*2+1 by omega,e2,List.getElem_append_right oZ]
  ·rw [List.getElem_append_right oZ];exact e3
theorem RowT.cell {w:Zp1} {vs:List Value} {ts:List Ten} (h:RowT w vs ts):∀u∈vs,∃A n c,u=.slice A n c:=λu hu=>by
 obtain ⟨k,hk,rfl⟩:=List.getElem_of_mem hu;have hl:=h.1;obtain ⟨S,c,C,d,e1,e2,-⟩:=h.2 (k / 2) oZ;rcases Nat.mod_two_eq_zero_or_one k with e|e
 ·have ha:k / 2*2=k:=by omega
  rw [ha,geZ hk] at e1;injection e1 with e1
  exact ⟨_,_,_,e1⟩
 ·have ha:k / 2*2+1=k:=by omega
  rw [ha,geZ hk] at e2;injection e2 with e2
  exact ⟨_,_,_,e2⟩
def qax (w:Zp1) (ad:Addr) (n:Nat):List Value:=(List.range n).map λj=>(w.cell? (ad.add j)).getD undef
theorem qbF {w:Zp1} {ad:Addr} {n j:Nat} (hj:j<n):(qax w ad n)[j]? = some ((w.cell? (ad.add j)).getD undef):=by simp [qax,hj]
theorem qaN (b off k:Nat):(⟨b,off,none⟩:Addr).add k=⟨b,off+k,none⟩:=by simp [Addr.add]
theorem Tns.rowT {w:Zp1} {ad:Addr} {ts:List Ten} (h:Tns w (some ad) ts):RowT w (qax w ad (ts.length*2)) ts/\∀j u,(qax w ad (ts.length*2))[j]? = some u->w.cell? (ad.add j)=some u:=by
 refine ⟨⟨by simp [qax],λj hj=>?_⟩,λj u hu=>?_⟩
 ·obtain ⟨b,off,S,c,C,d,e,hl,c0,c1,hT⟩:=h j hj
  injection e with e
  subst e;refine ⟨S,c,C,d,?_,?_,hT⟩
  ·rw [qbF oZ,qaN,c0];rfl
  ·rw [qbF oZ,qaN,←Nat.add_assoc,c1];rfl
 ·have hj:j<ts.length*2:=by
   rcases Nat.lt_or_ge j (ts.length*2) with hk|hk
   ·exact hk
   ·rw [Zi (by simpa [qax] using hk)] at hu;cases hu
  rw [qbF hj] at hu;obtain ⟨b,off,S,c,C,d,e,hl,c0,c1,hT⟩:=h (j / 2) oZ;injection e with e
  subst e;rw [qaN] at hu ⊢;rcases Nat.mod_two_eq_zero_or_one j with e|e
  ·rw [show j / 2*2=j by omega] at c0
   rw [c0] at hu ⊢;exact hu
  ·rw [Nat.add_assoc,show j / 2*2+1=j by omega] at c1
   rw [c1] at hu ⊢;exact hu
theorem Tns.nil (w:Zp1) (A:Option Addr):Tns w A []:=λj hj=>absurd hj sZ
theorem RowT.tns {w w':Zp1} {vs:List Value} {ts:List Ten} {B n:Nat} {t:TypeId} {v:Value} (h:RowT w vs ts) (hown:w'.ownsRow B t 2 v n vs) (hb:Below w.heap.size w w'):
  ∃A c,v=.slice A ts.length c/\n=ts.length/\Tns w' A ts/\ts.length<=c/\c<=9223372036854775807:=by
 have hn:n=ts.length:=by have:=hown.1;have:=h.1;omega
 subst hn;rcases hown.2 with ⟨rfl,h0⟩|⟨g,cap,cur,rfl,hB,hh,r1,r2,r3,r4⟩
 ·have:ts=[]:=List.eq_nil_of_length_eq_zero h0
  subst this;exact ⟨none,0,rfl,rfl,Tns.nil _ _,by simp,by omega⟩
 ·refine ⟨_,cap,rfl,rfl,λj hj=>?_,r1,by unfold maxLen at r2;omega⟩
  obtain ⟨S,c,C,d,e1,e2,e3⟩:=h.2 j hj;refine ⟨g,0,S,c,C,d,rfl,lt_of_block hh,?_,?_,e3.below hb (lrZ _)⟩
  ·rw [Zw,hown.cellAt (j*2) oZ]
   exact e1
  ·rw [Zw,hown.cellAt (j*2+1) oZ]
   exact e2
theorem qcD:(Tryz.prog.info? 30).map (λi=>(i.zero,i.size,i.bytes))=some (some (.agg #[.slice none 0 0,.slice none 0 0]),2,48):=by kernel_rfl
def TnsO (B:Nat) (w:Zp1) (A:Option Addr) (ts:List Ten):Prop:=
 (∀a,A=some a->∃b,a=⟨b,0,none⟩/\B<=b/\b<w.heap.size/\∀k,w.frozen? ⟨b,k,none⟩=false)/\
 ∀j (hj:j<ts.length),∃b S c C d,A=some ⟨b,0,none⟩/\w.cell? ⟨b,j*2,none⟩=some (.slice S ts[j].s.length c)/\w.cell? ⟨b,j*2+1,none⟩=some (.slice C ts[j].c.length d)/\TenO B w (.agg #[.slice S ts[j].s.length c,.slice C ts[j].c.length d]) ts[j]
def GoL (r:List Ten × Int) (w:Zp1) (e:Ending) (w':Zp1):Prop:=
 (r.2≠0/\e=.returned (.tuple #[.slice none 0 0,.int .i64 r.2])∨r.2=0/\∃A,e=.returned (.tuple #[.slice A r.1.length r.1.length,.int .i64 0])/\TnsO w.heap.size w' A r.1)/\Below w.heap.size w w'
theorem GoL.fail {n:Int} {r:List Ten × Int} {w w':Zp1} (hr:r=([],n)) (hn:n≠0) (hb:Below w.heap.size w w'):GoL r w (.returned (.tuple #[.slice none 0 0,.int .i64 n])) w':=by
 subst hr;exact ⟨.inl ⟨hn,rfl⟩,hb⟩
theorem TnsO.tns {B:Nat} {w:Zp1} {A:Option Addr} {ts:List Ten} (h:TnsO B w A ts):Tns w A ts:=λj hj=>by
 obtain ⟨b,S,c,C,d,e,c0,c1,hO⟩:=h.2 j hj;obtain ⟨S',c',C',d',e',hT,-,-⟩:=hO;simp at e';obtain ⟨⟨rfl,rfl⟩,rfl,rfl⟩:=e';obtain ⟨b',e3,-,hb,-⟩:=h.1 _ e;injection e3 with e3 _ _
 subst e3;exact ⟨b,0,S,c,C,d,e,hb,by rw [Zw];exact c0,by rw [Zw];exact c1,hT⟩
theorem GoL.ok {ts:List Ten} {r:List Ten × Int} {A:Option Addr} {w w':Zp1} (hr:r=(ts,0)) (h:TnsO w.heap.size w' A ts) (hb:Below w.heap.size w w'):GoL r w (.returned (.tuple #[.slice A ts.length ts.length,.int .i64 0])) w':=by
 subst hr;exact ⟨.inr ⟨rfl,A,rfl,h⟩,hb⟩
theorem qb6 {B:Nat} {w:Zp1} {g h n:Nat} {s c:List Int} (hg:Blk w g 3 (s.map (Za1 .i64)).toArray) (hh:Blk w h 22 (c.map (Za1 .i64)).toArray) (b1:B<=g) (b2:B<=h) (l1:s.length<=1048576) (l2:c.length<=1048576) (hin:∀z∈c,Fx.In z) (hn:c.length=n):
  TenO B w (.agg #[.slice (some ⟨g,0,none⟩) s.length s.length,.slice (some ⟨h,0,none⟩) c.length n]) ⟨s,c⟩:=by
 subst hn;refine ⟨some ⟨g,0,none⟩,s.length,some ⟨h,0,none⟩,c.length,rfl,⟨⟨hg.intsL,hh.intsL⟩,lrZ _,by omega,lrZ _,by omega,l1,l2,hin⟩,λa e=>?_,λa e=>?_⟩
 ·injection e with e;subst e;exact b1
 ·injection e with e;subst e;exact ⟨b2,hh.lt,λj=>hh.frozen j⟩
theorem qg8 {w:Zp1} {B e size n g:Nat} {xs:List Value} (h:w.ownsRow B e size (.slice (some ⟨g,0,none⟩) n n) n xs):Blk w g e xs.toArray:=by
 rcases h.2 with ⟨h1,_⟩|⟨g',cap,cur,e1,_,hh,_,_,hs,ht⟩
 ·cases h1
 ·injection e1 with e1 _ e2
  injection e1 with e1
  injection e1 with e1 _ _
  subst e1 e2;have:cur.toList=xs:=by rw [←ht,List.take_of_length_le soZ]
  rw [←this];exact hh
namespace Ly
theorem pointBack_err {kind k:Int} {g:Ten} {x:List Ten} (h:ptAgree kind x≠0):pointBack kind k g x=([],ptAgree kind x):=by unfold pointBack;rw [if_neg h]
theorem pointBack_bad {kind k:Int} {g:Ten} {x:List Ten} (h:ptAgree kind x=0) (hg:(Tn.right g&&(g.s==(got x 0).s))=false):pointBack kind k g x=([],20):=by
 unfold pointBack;rw [if_pos h,if_neg];intro hh;rw [Zz,decide_eq_true_eq] at hh;rw [hh.1,hh.2] at hg;simp at hg
theorem pointBack_ok1 {kind k:Int} {g:Ten} {x:List Ten} (h:ptAgree kind x=0) (hr:Tn.right g=true) (hs:g.s=(got x 0).s) (hn:x.length=1):
  pointBack kind k g x=([⟨(got x 0).s,tab (got x 0).c.length λi=>(slopes kind k x g i).1⟩],0):=by
 unfold pointBack;rw [if_pos h,if_pos (by rw [hr,hs];simp),if_pos oZ]
theorem pointBack_ok2 {kind k:Int} {g:Ten} {x:List Ten} (h:ptAgree kind x=0) (hr:Tn.right g=true) (hs:g.s=(got x 0).s) (hn:x.length=2):
  pointBack kind k g x=([⟨(got x 0).s,tab (got x 0).c.length λi=>(slopes kind k x g i).1⟩,⟨(got x 1).s,tab (got x 0).c.length λi=>(slopes kind k x g i).2⟩],0):=by
 unfold pointBack;rw [if_pos h,if_pos (by rw [hr,hs];simp),if_neg oZ]
end Ly
set_option maxRecDepth 20000 in
theorem qeq (kind k0:Int) (A GS GC:Option Addr) (f gc gd:Nat) (g:Ten) (x:List Ten) (w:Zp1) (hn:x.length=1) (hT:Tns w A x) (hG:TenIn w GS GC gc gd g) (hk0:Fx.In k0):
  Calls Tryz.prog 18 #[.int .i64 kind,.int .i64 k0,.agg #[.slice GS g.s.length gc,.slice GC g.c.length gd],.slice A x.length f] w (GoL (Ly.pointBack kind k0 g x) w):=by
 have HH:Later w (w.alloc (.cells #[.slice GS g.s.length gc,.slice GC g.c.length gd] 30)):=(Later.refl w).alloc _;have hk:=Blk.new w 30 #[.slice GS g.s.length gc,.slice GC g.c.length gd];have gj:1<=x.length:=by omega
 have gn:x.length<=1:=by omega
 have H9:0<x.length:=by omega
 obtain ⟨HT,Hd,Hk,H0,HG,Hn⟩:=zd6 hT HH hk hk0 hG hn;clear hT HH hk hk0 hG hn;go_enter Tryz.func18,Tryz.ntmps18;go_wp2_with fail;generalize w.alloc (.cells #[.slice GS g.s.length gc,.slice GC g.c.length gd] 30)=w1 at *;refine (qbE kind A f x w1 oZ (HT.out.later Hd.out)).mono ?_;rintro e w2 ⟨rfl,Hs⟩;have hv:=Hd.out.call Hs;have hC:=(show Later w1 w2 from Hs).blk Hk.out;clear Hs Hk Hd
 by_cases hg:Ly.ptAgree kind x=0
 case neg=>
  have HE:=zI (Ly.pointBack_err (k:=k0) (g:=g) hg);have d1:(Ly.ptAgree kind x==0)=false:=by simpa using hg
  have d2:(Ly.ptAgree kind x != 0)=true:=by simpa using hg
  have Hg:=zI hg;clear hg;generalize Ly.ptAgree kind x=ge at *;obtain ⟨hF,Hi⟩:=zd2 hv hC;clear hv hC;go_wp2_with fail;refine Zk1 (v:=.tuple #[.slice none 0 0,.int .i64 ge]) (by simp [results,Tryz.results18,go_sem]) rfl ?_;exact GoL.fail HE.out Hg.out hF.out
 obtain ⟨k1,k7,-,l1,l2,hX⟩:=Ly.agree_yes hg;rw [hg];obtain ⟨HQ,-⟩:=Ly.ok_right (hX _ (by rw [qam (show 0<x.length by omega)];exact gmZ _):Ly.okTo x (Ly.got x 0)=true);have h7:=zI hg;clear hg hX;obtain ⟨b,off,S,sc,C,cd,rfl,gf,z0,z1,ht⟩:=(HT.out.later hv).first oZ
 obtain ⟨r1,r2⟩:=Ly.right_ok HQ;have u0:=hC.cell 0;have u1:=hC.cell 1;simp at u0 u1;have lg1:=HG.out.l1;have lg2:=HG.out.l2;have HJ:=λ(V:Zp1) (h:Later w2 V)=>qa2 GS GC gc gd g V oZ oZ (HG.out.later (hv.trans h)).r.1
 have HP:=λ(V:Zp1) (h:Later w2 V)=>qaa GS S gc sc g.s (Ly.got x 0).s V oZ oZ (HG.out.later (hv.trans h)).r.1 (ht.later h).r.1
 have hE:(Tn.right g&&(g.s==(Ly.got x 0).s))=false->Ly.pointBack kind k0 g x=([],20):=Ly.pointBack_bad (h7.out);obtain ⟨hF,Hi,Ht,hD,hU,HE⟩:=zd6 hv hC ht HJ HP hE;clear hv hC ht HJ HP hE;cases hgr:Tn.right g
 ·have HE:=zI (HE.out (by rw [hgr];rfl))
  rw [hgr] at hD;clear HE;have HE:=zI (Ly.pointBack_bad (k:=k0) h7.out (by rw [hgr];rfl:(Tn.right g&&(g.s==(Ly.got x 0).s))=false));go_wp2_with fail;have KF:=zI (show ∀Xw,Later w2 Xw->Xw.cell? ⟨w.heap.size,0,none⟩=some (.slice GS g.s.length gc)/\Xw.cell? ⟨w.heap.size,1,none⟩=some (.slice GC g.c.length gd) from λXw h=>⟨h.cell u0,h.cell u1⟩);refine Zm1 ?_;refine Zl1 (S:=λXw=>Xw.cell? ⟨w.heap.size,0,none⟩=some (.slice GS g.s.length gc)/\Xw.cell? ⟨w.heap.size,1,none⟩=some (.slice GC g.c.length gd)) krZ (KF.out _ Lau) (λhHeld=>?_);refine tk 0 ?_;refine rd 1 λK hK=>?_
  simp only [ga,gs,gz]
  go_simp
  go_at_call 51;(with_reducible refine (hD.out _ (Lau:Later w2 _)).mono ?_);rintro e wa ⟨rfl,hL⟩
  try go_wp2_with fail
  refine hK.out _ _ (KF.out _ Lau) (λhHeld=>?_);clear hK K
  try simp only [ga,gs,gz,Act.put,sa,sz,ss]
  refine tk 2 ?_;refine tk 3 ?_;refine tn 4 ?_;refine tn 5 ?_;refine tn 6 ?_;refine tn 7 ?_;refine tn 8 ?_;refine tn 9 ?_;refine rd 10 λK hK=>?_
  simp only [ga,gs,gz]
  go_simp
  refine hK.out _ _ (KF.out _ Lau) (λhHeld=>?_);clear hK K
  try simp only [ga,gs,gz,Act.put,sa,sz,ss]
  refine tn 11 ?_;refine tk 12 ?_;clear KF;refine Zn1 krZ ?_ _;refine Zd1 ?_;have hb:Later w2 wa:=(Lau:Later w2 wa)
  have hh:=hF.out.trans hb;clear hL hHeld u0 u1 z0 z1;obtain ⟨HN,hf⟩:=zd2 hb hh;clear hb hh;go_wp2_with fail;refine Zk1 (v:=.tuple #[.slice none 0 0,.int .i64 20]) (by simp [results,Tryz.results18,go_sem]) rfl ?_;exact GoL.fail HE.out dZ hf.out
 rw [hgr] at hD;cases hge:(g.s==(Ly.got x 0).s)
 ·rw [hge] at hU
  clear HE;have HE:=zI (Ly.pointBack_bad (k:=k0) h7.out (by rw [hge,Bool.and_false]:(Tn.right g&&(g.s==(Ly.got x 0).s))=false));go_wp2_with fail;have KF:=zI (show ∀Xw,Later w2 Xw->Xw.cell? ⟨w.heap.size,0,none⟩=some (.slice GS g.s.length gc)/\Xw.cell? ⟨w.heap.size,1,none⟩=some (.slice GC g.c.length gd)/\Xw.cell? ⟨b,off,none⟩=some (.slice S (Ly.got x 0).s.length sc) from λXw h=>⟨h.cell u0,h.cell u1,h.cell z0⟩);refine Zm1 ?_;refine Zl1 (S:=λXw=>Xw.cell? ⟨w.heap.size,0,none⟩=some (.slice GS g.s.length gc)/\Xw.cell? ⟨w.heap.size,1,none⟩=some (.slice GC g.c.length gd)/\Xw.cell? ⟨b,off,none⟩=some (.slice S (Ly.got x 0).s.length sc)) krZ (KF.out _ Lau) (λhHeld=>?_);refine tk 0 ?_;refine rd 1 λK hK=>?_
  simp only [ga,gs,gz]
  go_simp
  go_at_call 51;(with_reducible refine (hD.out _ (Lau:Later w2 _)).mono ?_);rintro e wa ⟨rfl,hL⟩
  try go_wp2_with fail
  refine hK.out _ _ (KF.out _ Lau) (λhHeld=>?_);clear hK K
  try simp only [ga,gs,gz,Act.put,sa,sz,ss]
  refine tk 2 ?_;refine tk 3 ?_;refine tk 4 ?_;refine tk 5 ?_;refine tk 6 ?_;refine tk 7 ?_;refine tk 8 ?_;refine tk 9 ?_;refine rd 10 λK hK=>?_
  simp only [ga,gs,gz]
  go_simp
  go_at_call 43;(with_reducible refine (hU.out _ (Lau:Later w2 _)).mono ?_);rintro e wb ⟨rfl,nb,rfl⟩
  try go_wp2_with fail
  refine hK.out _ _ (KF.out _ Lau) (λhHeld=>?_);clear hK K
  try simp only [ga,gs,gz,Act.put,sa,sz,ss]
  refine tk 11 ?_;refine tk 12 ?_;clear KF;refine Zn1 krZ ?_ _;refine Zd1 ?_;have hb:Later w2 (wa.drewN nb):=(Lau:Later w2 (wa.drewN nb))
  have hh:=hF.out.trans hb;clear hL hHeld u0 u1 z0 z1;obtain ⟨HN,hf⟩:=zd2 hb hh;clear hb hh;go_wp2_with fail;refine Zk1 (v:=.tuple #[.slice none 0 0,.int .i64 20]) (by simp [results,Tryz.results18,go_sem]) rfl ?_;exact GoL.fail HE.out dZ hf.out
 rw [hge] at hU;have Ha:g.s=(Ly.got x 0).s:=by simpa using hge
 have HI:=Ly.same_len hgr HQ Ha;clear HE;have HE:=zI (Ly.pointBack_ok1 (k:=k0) h7.out hgr Ha Hn.out);obtain ⟨gm,HY⟩:=zd2 Ha HI;clear Ha HI;clear hge;go_wp2_with fail;have KF:=zI (show ∀Xw,Later w2 Xw->Xw.cell? ⟨w.heap.size,0,none⟩=some (.slice GS g.s.length gc)/\Xw.cell? ⟨w.heap.size,1,none⟩=some (.slice GC g.c.length gd)/\Xw.cell? ⟨b,off,none⟩=some (.slice S (Ly.got x 0).s.length sc) from λXw h=>⟨h.cell u0,h.cell u1,h.cell z0⟩);refine Zm1 ?_;refine Zl1 (S:=λXw=>Xw.cell? ⟨w.heap.size,0,none⟩=some (.slice GS g.s.length gc)/\Xw.cell? ⟨w.heap.size,1,none⟩=some (.slice GC g.c.length gd)/\Xw.cell? ⟨b,off,none⟩=some (.slice S (Ly.got x 0).s.length sc)) krZ (KF.out _ Lau) (λhHeld=>?_);refine tk 0 ?_;refine rd 1 λK hK=>?_
 simp only [ga,gs,gz]
 go_simp
 go_at_call 51;(with_reducible refine (hD.out _ (Lau:Later w2 _)).mono ?_);rintro e wa ⟨rfl,hL⟩
 try go_wp2_with fail
 refine hK.out _ _ (KF.out _ Lau) (λhHeld=>?_);clear hK K
 try simp only [ga,gs,gz,Act.put,sa,sz,ss]
 refine tk 2 ?_;refine tk 3 ?_;refine tk 4 ?_;refine tk 5 ?_;refine tk 6 ?_;refine tk 7 ?_;refine tk 8 ?_;refine tk 9 ?_;refine rd 10 λK hK=>?_
 simp only [ga,gs,gz]
 go_simp
 go_at_call 43;(with_reducible refine (hU.out _ (Lau:Later w2 _)).mono ?_);rintro e wb ⟨rfl,nb,rfl⟩
 try go_wp2_with fail
 refine hK.out _ _ (KF.out _ Lau) (λhHeld=>?_);clear hK K
 try simp only [ga,gs,gz,Act.put,sa,sz,ss]
 refine tk 11 ?_;refine tk 12 ?_;clear KF;refine Zn1 krZ ?_ _;refine Zd1 ?_;have hb:Later w2 (wa.drewN nb):=(Lau:Later w2 (wa.drewN nb))
 have hh:=hF.out.trans hb;have Hz:=hb.blk Hi.out;have Ho:=Ht.out.later hb;have z0a:=hb.cell z0;have z1a:=hb.cell z1
 skip
 skip
 skip
 clear hL hHeld u0 u1 z0 z1 Ht Hi hF hD hU;generalize wa.drewN nb=w3 at *;rw [Hn.out];have HS:∀i,Ly.slopes kind k0 x g i=Ly.slope kind k0 (Ly.at_ (Ly.got x 0).c i) (Ly.second x i) (Ly.at_ g.c i):=λ_=>rfl
 have h1:=Ho.num
 have hd:∀i,Fx.In (Ly.second x i):=λi=>by
  unfold Ly.second
  split
  ·exact Fx.in_zero
  ·exact Ly.at_in (Ly.got_in HT.out.in_ 1) i
 have Hj:2<=x.length->(Ly.got x 1).c.length=(Ly.got x 0).c.length:=λh=>by omega
 have hP:(Ly.tab (Ly.got x 0).c.length λi=>(Ly.slopes kind k0 x g i).1).length=(Ly.got x 0).c.length:=by rw [Ly.tab_len]
 have hJ:∀i (hi:i<(Ly.tab (Ly.got x 0).c.length λi=>(Ly.slopes kind k0 x g i).1).length),(Ly.tab (Ly.got x 0).c.length λi=>(Ly.slopes kind k0 x g i).1)[i]=(Ly.slopes kind k0 x g i).1:=λi hi=>Ly.tab_get hi
 have hl:∀z∈(Ly.tab (Ly.got x 0).c.length λi=>(Ly.slopes kind k0 x g i).1),Fx.In z:=Ly.tab_in λi _=>(Ly.slope_in (Ly.at_in HG.out.num i)).1
 generalize (Ly.tab (Ly.got x 0).c.length λi=>(Ly.slopes kind k0 x g i).1)=R0 at *;have h5:=zI (λ(k:Nat) (hk:k<(Ly.got x 0).c.length) (h2:2<=x.length)=>(show k<(Ly.got x 1).c.length by omega));clear Hj;generalize htq0:Ly.got x 0=t0 at *;have H1:=zI htq0;clear htq0;clear hHeld;obtain ⟨H2,Hx,hs,hf,HR,HN,ha,Hw,hR⟩:=zd9 HS h1 hd hh Hz hb hP hJ hl;obtain ⟨HA,hM,hN⟩:=zd3 Ho z0a z1a;clear HS h1 hd hh Hz hb hP hJ hl Ho z0a z1a;obtain ⟨i0,hi,HV,HD,HB⟩:=info_parts qcD;go_wp2_with (at_make;refine wpList_make_full _ rfl _ _ 27 rfl w.heap.size 30 i0 (.agg #[.slice none 0 0,.slice none 0 0]) 2 Tryz.underlying27 hi HV HD _ _ _ _ 1 rfl rfl (by first|rfl|simp) (by first|rfl|simp) ?b2 ?b3 hf.out.size ?_)
 case b2=>rw [HB];omega
 case b3=>unfold maxLen;omega
 intro v0 hown hgrow;clear hi HV HD HB;have ho:Blk v0 w3.heap.size 30 #[.slice none 0 0,.slice none 0 0]:=by have h:=qg8 hown;simpa [madeCells,List.range_succ] using h
 have HC:Later w3 v0:=(Ze1 _ w3).grown hgrow (lrZ _) sZ;have H6:=hf.out.size;have gg:=HR.out.lt;clear hown hgrow;obtain ⟨h3,Hv⟩:=zd2 ho HC;clear ho HC;go_wp2_with fail;refine wp_loop_rounds 2 ?_;rw [rounds_succ];have y0:=Hv.out.cell hM.out;have y1:=Hv.out.cell hN.out;go_wp2_with fail;have h8:=Hv.out.alloc (.cells #[.slice S t0.s.length sc,.slice C t0.c.length cd] 30);have Hq:=(h3.out).alloc (.cells #[.slice S t0.s.length sc,.slice C t0.c.length cd] 30);clear y0 y1;generalize v0.alloc (.cells #[.slice S t0.s.length sc,.slice C t0.c.length cd] 30)=vb at *;refine (qa8 S C sc cd t0 vb oZ oZ (HA.out.later h8).r).mono ?_;rintro e vc ⟨v,rfl,⟨g0,h0,rfl,gi,gb,Hb,Hc⟩,HK⟩;have hu:Later vb vc:=HK;have HU:=h8.trans hu;have hA:=hu.blk Hq;have HX:=Hq.lt;have gl:=h8.size;have H8:=Hb.lt;have HW:=Hc.lt;have x0:=hA.cell 0;have x1:=hA.cell 1;have fr0:=hA.frozen 0;have fr1:=hA.frozen 1;simp at x0 x1
 have Hu:g0≠h0:=λe=>by
  subst e;have:=Hb.symm.trans Hc;simp at this
 have HZ:w3.heap.size<=g0:=by omega
 have Hh:w3.heap.size<=h0:=by omega
 have hQ:g0≠w3.heap.size:=by omega
 have hy:h0≠w3.heap.size:=by omega
 have hp:Blk ((vc.setCell ⟨w3.heap.size,0,none⟩ (.slice (some ⟨g0,0,none⟩) t0.s.length t0.s.length)).setCell ⟨w3.heap.size,1,none⟩ (.slice (some ⟨h0,0,none⟩) t0.c.length t0.c.length)) w3.heap.size 30 #[.slice (some ⟨g0,0,none⟩) t0.s.length t0.s.length,.slice (some ⟨h0,0,none⟩) t0.c.length t0.c.length]:=by
  have:=(hA.set_ 0 (.slice (some ⟨g0,0,none⟩) t0.s.length t0.s.length)).set_ 1 (.slice (some ⟨h0,0,none⟩) t0.c.length t0.c.length);simpa using this
 have HO:Later w3 ((vc.setCell ⟨w3.heap.size,0,none⟩ (.slice (some ⟨g0,0,none⟩) t0.s.length t0.s.length)).setCell ⟨w3.heap.size,1,none⟩ (.slice (some ⟨h0,0,none⟩) t0.c.length t0.c.length)):=(HU.set (p:=⟨w3.heap.size,0,none⟩) (lrZ _) _).set (p:=⟨w3.heap.size,1,none⟩) (lrZ _) _;have hS:=(Hb.far (p:=⟨w3.heap.size,0,none⟩) hQ (.slice (some ⟨g0,0,none⟩) t0.s.length t0.s.length)).far (p:=⟨w3.heap.size,1,none⟩) hQ (.slice (some ⟨h0,0,none⟩) t0.c.length t0.c.length);have hI:=(Hc.far (p:=⟨w3.heap.size,0,none⟩) hy (.slice (some ⟨g0,0,none⟩) t0.s.length t0.s.length)).far (p:=⟨w3.heap.size,1,none⟩) hy (.slice (some ⟨h0,0,none⟩) t0.c.length t0.c.length);obtain ⟨hr,He,h6,hO⟩:=zd4 hp HO hS hI;clear hp HO hS hI;clear HK hu HU hA Hb Hc h8 Hq;go_wp2_with fail;generalize (vc.setCell ⟨w3.heap.size,0,none⟩ (.slice (some ⟨g0,0,none⟩) t0.s.length t0.s.length)).setCell ⟨w3.heap.size,1,none⟩ (.slice (some ⟨h0,0,none⟩) t0.c.length t0.c.length)=v1 at *;clear x0 x1 fr0 fr1;rw [rounds_succ];have y0:=He.out.cell hM.out;have y1:=He.out.cell hN.out;go_wp2_with fail;clear y0 y1;have HM:Blk v1 h0 22 ((R0.take 0++t0.c.drop 0).map (Za1 .i64)).toArray:=by simpa using hO.out
 have HL:=zI HM;clear HM
 go_loopw [58] (λi wx=>∃k:Nat,k<=t0.c.length/\i=.int .i64 (k:Int)/\Blk wx h0 22 ((R0.take k++t0.c.drop k).map (Za1 .i64)).toArray/\Blk wx g0 3 (t0.s.map (Za1 .i64)).toArray/\Blk wx w3.heap.size 30 #[.slice (some ⟨g0,0,none⟩) t0.s.length t0.s.length,.slice (some ⟨h0,0,none⟩) t0.c.length t0.c.length]/\Later w3 wx) (λi _=>t0.c.length-(intOf i).toNat)
 case atStart=>exact ⟨0,Zt _,rfl,HL.out,h6.out,hr.out,He.out⟩
 case round=>
  obtain ⟨k,hk,rfl,hw,he,hH,hq⟩:=hrel;clear HL h6 hO hr
  by_cases h9:k<t0.c.length
  ·obtain ⟨bc,oc,rfl,-,gh⟩:=(HA.out.later hq).cell h9
   have Hy:k<g.c.length:=by rw [HY.out];exact h9
   obtain ⟨bg,og,rfl,-,H7⟩:=(HG.out.later (hf.out.trans hq)).cell Hy;have u1:wr.cell? ⟨w.heap.size,1,none⟩=some (.slice (some ⟨bg,og,none⟩) g.c.length gd):=by rw [(hq.blk HR.out).cell];rfl
   have hW:=Ly.at_in Hx.out k;have h4:=hs.out k;have hY:=Ly.at_in HG.out.num k;have Hf:=λ(V:Zp1) (hV:Later w V)=>qbf (some ⟨b,off,none⟩) f x k V oZ (HT.out.later hV) (h5.out k h9)
   have Hl:=λ(V:Zp1)=>qcB kind k0 (Ly.at_ t0.c k) (Ly.second x k) (Ly.at_ g.c k) V k1 k7 H0.out hW h4 hY
   rw [Hn.out] at Hf;rw [←H2.out k] at Hl;have rr1:=r1;have rr2:=r2;have hc:k<R0.length:=by rw [ha.out];exact h9
   have hx:=Ly.mid_step R0 t0.c hc ha.out;have hm:=Ly.mid_len R0 t0.c k oZ ha.out;have hZ:=Hw.out k hc;rw [hZ] at hx;obtain ⟨p0,hp0⟩:∃u,wr.cell? ⟨h0,k,none⟩=some u:=⟨_,hw.row_get (by rw [hm];exact hc)⟩
   have fp0:=hw.frozen k;have q0:wr.cell? ⟨w3.heap.size,0,none⟩=some (.slice (some ⟨g0,0,none⟩) t0.s.length t0.s.length):=by rw [hH.cell];rfl
   have q1:wr.cell? ⟨w3.heap.size,1,none⟩=some (.slice (some ⟨h0,0,none⟩) t0.c.length t0.c.length):=by rw [hH.cell];rfl
   generalize Ly.slopes kind k0 x g k=sl at *;generalize Ly.at_ t0.c k=xk at *;generalize Ly.second x k=sk at *;generalize Ly.at_ g.c k=gk at *;have kk1:(k:Int)<(t0.c.length:Int):=by omega
   have kk3:(k:Int)<(g.c.length:Int):=by omega
   have kk2:(0:Int)<=(k:Int):=by omega
   skip
   clear hm hZ hc hW h4 hY;obtain ⟨Hp,hz,Hm,hB,Hr,H4,H5⟩:=zd7 hw he hx hH hq Hf Hl;clear hw he hx hH hq Hf Hl;go_wp2_with fail;have KF:=zI (show ∀Xw,Later wr Xw->Xw.cell? ⟨w.heap.size,1,none⟩=some (.slice (some ⟨bg,og,none⟩) g.c.length gd)/\Xw.cell? ⟨bg,og+k,none⟩=some (.int .i64 gk) from λXw h=>⟨h.cell u1,h.cell H7⟩);refine Zm1 ?_;refine Zl1 (S:=λXw=>Xw.cell? ⟨w.heap.size,1,none⟩=some (.slice (some ⟨bg,og,none⟩) g.c.length gd)/\Xw.cell? ⟨bg,og+k,none⟩=some (.int .i64 gk)) krZ (KF.out _ Lau) (λhHeld=>?_);refine tk 0 ?_;refine tk 1 ?_;refine tk 2 ?_;refine tk 3 ?_;refine tk 4 ?_;refine tk 6 ?_;refine tk 7 ?_;refine tk 8 ?_;refine tk 9 ?_;refine tk 10 ?_;refine rd 5 λK hK=>?_
   simp only [ga,gs,gz]
   go_simp
   go_at_call 68;(with_reducible refine (H4.out _ (hf.out.trans (Hr.out.trans (Lau:Later wr _)))).mono ?_);rintro e wa ⟨rfl,rfl⟩
   try go_wp2_with fail
   refine hK.out _ _ (KF.out _ Lau) (λhHeld=>?_);clear hK K
   try simp only [ga,gs,gz,Act.put,sa,sz,ss]
   refine rd 11 λK hK=>?_
   simp only [ga,gs,gz]
   go_simp
   go_at_call 67;(with_reducible refine (H5.out _).mono ?_);rintro e wb ⟨rfl,rfl⟩
   try go_wp2_with fail
   refine hK.out _ _ (KF.out _ Lau) (λhHeld=>?_);clear hK K
   try simp only [ga,gs,gz,Act.put,sa,sz,ss]
   refine tk 12 ?_;refine tk 13 ?_;refine tk 14 ?_;refine tk 15 ?_;refine tk 16 ?_;clear KF;refine Zn1 krZ ?_ _;refine Zd1 ?_;clear hHeld;go_wp2_with fail;have k1:=Hp.out.set_ k (.int .i64 sl.1)
   have m0:Blk (wr.setCell ⟨h0,k,none⟩ (.int .i64 sl.1)) h0 22 ((R0.take (k+1)++t0.c.drop (k+1)).map (Za1 .i64)).toArray:=by
    rw [←Hm.out,List.map_set];simpa using k1
   have m1:=hz.out.far (p:=⟨h0,k,none⟩) Hu (.int .i64 sl.1);have m2:=hB.out.far (p:=⟨h0,k,none⟩) hy.symm (.int .i64 sl.1);have m3:=Hr.out.set (p:=⟨h0,k,none⟩) Hh (.int .i64 sl.1);go_roundw
   case rel=>exact ⟨k+1,by omega,by go_num,m0.drew,m1.drew,m2.drew,m3.drew⟩
   case measure=>simp [intOf];omega
  ·obtain rfl:k=t0.c.length:=by omega
   rw [Ly.mid_end R0 t0.c _ ha.out.symm ha.out] at hw;have HF:=hf.out.trans hq;obtain ⟨Hp,hz,hB,Hr,H3⟩:=zd5 hw he hH hq HF;clear hw he hH hq HF;go_wp2_with fail;refine Zk1 (v:=.tuple #[.slice (some ⟨w3.heap.size,0,none⟩) 1 1,.int .i64 0]) (by simp [results,Tryz.results18,go_sem]) rfl ?_;refine GoL.ok (A:=some ⟨w3.heap.size,0,none⟩) HE.out ⟨λa e=>?_,λj hj=>?_⟩ H3.out
   ·injection e with e
    subst e;exact ⟨_,rfl,H6,hB.out.lt,λk=>hB.out.frozen k⟩
   ·obtain rfl:j=0:=by simp at hj;omega
    refine ⟨w3.heap.size,some ⟨g0,0,none⟩,t0.s.length,some ⟨h0,0,none⟩,t0.c.length,rfl,by rw [hB.out.cell];rfl,by rw [hB.out.cell];simp [ha.out],?_⟩
    show TenO w.heap.size wr (.agg #[.slice (some ⟨g0,0,none⟩) t0.s.length t0.s.length,.slice (some ⟨h0,0,none⟩) R0.length t0.c.length]) ⟨t0.s,R0⟩
    exact qb6 hz.out Hp.out oZ oZ oZ (by rw [ha.out];omega) hR.out (by rw [ha.out])
set_option maxRecDepth 20000 in
theorem qer (kind k0:Int) (A GS GC:Option Addr) (f gc gd:Nat) (g:Ten) (x:List Ten) (w:Zp1) (hn:x.length=2) (hT:Tns w A x) (hG:TenIn w GS GC gc gd g) (hk0:Fx.In k0):
  Calls Tryz.prog 18 #[.int .i64 kind,.int .i64 k0,.agg #[.slice GS g.s.length gc,.slice GC g.c.length gd],.slice A x.length f] w (GoL (Ly.pointBack kind k0 g x) w):=by
 have gE:Later w (w.alloc (.cells #[.slice GS g.s.length gc,.slice GC g.c.length gd] 30)):=(Later.refl w).alloc _;have hk:=Blk.new w 30 #[.slice GS g.s.length gc,.slice GC g.c.length gd];have Gi:2<=x.length:=by omega
 have Gl:x.length<=2:=by omega
 have Gb:0<x.length:=by omega
 obtain ⟨HT,HR,Hk,gW,HG,Hn⟩:=zd6 hT gE hk hk0 hG hn;clear hT gE hk hk0 hG hn;go_enter Tryz.func18,Tryz.ntmps18;go_wp2_with fail;generalize w.alloc (.cells #[.slice GS g.s.length gc,.slice GC g.c.length gd] 30)=w1 at *;refine (qbE kind A f x w1 oZ (HT.out.later HR.out)).mono ?_;rintro e w2 ⟨rfl,gi⟩;have hz:=HR.out.call gi;have hY:=(show Later w1 w2 from gi).blk Hk.out;clear gi Hk HR
 by_cases hg:Ly.ptAgree kind x=0
 case neg=>
  have HE:=zI (Ly.pointBack_err (k:=k0) (g:=g) hg);have d1:(Ly.ptAgree kind x==0)=false:=by simpa using hg
  have d2:(Ly.ptAgree kind x != 0)=true:=by simpa using hg
  have Hg:=zI hg;clear hg;generalize Ly.ptAgree kind x=ge at *;obtain ⟨h3,H0⟩:=zd2 hz hY;clear hz hY;go_wp2_with fail;refine Zk1 (v:=.tuple #[.slice none 0 0,.int .i64 ge]) (by simp [results,Tryz.results18,go_sem]) rfl ?_;exact GoL.fail HE.out Hg.out h3.out
 obtain ⟨k1,k7,-,l1,l2,hQ⟩:=Ly.agree_yes hg;rw [hg];obtain ⟨gg,-⟩:=Ly.ok_right (hQ _ (by rw [qam (show 0<x.length by omega)];exact gmZ _):Ly.okTo x (Ly.got x 0)=true);obtain ⟨gb,gQ⟩:=Ly.ok_right (hQ _ (by rw [qam (show 1<x.length by omega)];exact gmZ _):Ly.okTo x (Ly.got x 1)=true);have HM:=zI (Ly.same_len gb gg gQ);clear gQ;have HK:=zI hg;clear hg hQ;obtain ⟨b,off,S,sc,C,cd,rfl,Ge,z0,z1,ht⟩:=(HT.out.later hz).first oZ
 obtain ⟨r1,r2⟩:=Ly.right_ok gg;have u0:=hY.cell 0;have u1:=hY.cell 1;simp at u0 u1;have lg1:=HG.out.l1;have lg2:=HG.out.l2;obtain ⟨b',off',S1,sc1,C1,cd1,e1,-,z2,z3,gM⟩:=(HT.out.later hz).at_ (j:=1) oZ;injection e1 with e1;injection e1 with e1 e2;subst e1 e2
 have z2:w2.cell? ⟨b,off+2,none⟩=some (.slice S1 (Ly.got x 1).s.length sc1):=by simpa using z2
 have z3:w2.cell? ⟨b,off+3,none⟩=some (.slice C1 (Ly.got x 1).c.length cd1):=by simpa using z3
 have lx1:=(Ly.right_ok gb).1;have lx2:=(Ly.right_ok gb).2;have gG:=λ(V:Zp1) (h:Later w2 V)=>qa2 GS GC gc gd g V oZ oZ (HG.out.later (hz.trans h)).r.1
 have gL:=λ(V:Zp1) (h:Later w2 V)=>qaa GS S gc sc g.s (Ly.got x 0).s V oZ oZ (HG.out.later (hz.trans h)).r.1 (ht.later h).r.1
 have hE:(Tn.right g&&(g.s==(Ly.got x 0).s))=false->Ly.pointBack kind k0 g x=([],20):=Ly.pointBack_bad (HK.out);obtain ⟨h3,H0,Ht,hZ,Hi,HE⟩:=zd6 hz hY ht gG gL hE;clear hz hY ht gG gL hE;cases hgr:Tn.right g
 ·have HE:=zI (HE.out (by rw [hgr];rfl))
  rw [hgr] at hZ;clear HE;have HE:=zI (Ly.pointBack_bad (k:=k0) HK.out (by rw [hgr];rfl:(Tn.right g&&(g.s==(Ly.got x 0).s))=false));go_wp2_with fail;have KF:=zI (show ∀Xw,Later w2 Xw->Xw.cell? ⟨w.heap.size,0,none⟩=some (.slice GS g.s.length gc)/\Xw.cell? ⟨w.heap.size,1,none⟩=some (.slice GC g.c.length gd) from λXw h=>⟨h.cell u0,h.cell u1⟩);refine Zm1 ?_;refine Zl1 (S:=λXw=>Xw.cell? ⟨w.heap.size,0,none⟩=some (.slice GS g.s.length gc)/\Xw.cell? ⟨w.heap.size,1,none⟩=some (.slice GC g.c.length gd)) krZ (KF.out _ Lau) (λhHeld=>?_);refine tk 0 ?_;refine rd 1 λK hK=>?_
  simp only [ga,gs,gz]
  go_simp
  go_at_call 51;(with_reducible refine (hZ.out _ (Lau:Later w2 _)).mono ?_);rintro e wa ⟨rfl,h8⟩
  try go_wp2_with fail
  refine hK.out _ _ (KF.out _ Lau) (λhHeld=>?_);clear hK K
  try simp only [ga,gs,gz,Act.put,sa,sz,ss]
  refine tk 2 ?_;refine tk 3 ?_;refine tn 4 ?_;refine tn 5 ?_;refine tn 6 ?_;refine tn 7 ?_;refine tn 8 ?_;refine tn 9 ?_;refine rd 10 λK hK=>?_
  simp only [ga,gs,gz]
  go_simp
  refine hK.out _ _ (KF.out _ Lau) (λhHeld=>?_);clear hK K
  try simp only [ga,gs,gz,Act.put,sa,sz,ss]
  refine tn 11 ?_;refine tk 12 ?_;clear KF;refine Zn1 krZ ?_ _;refine Zd1 ?_;have hc:Later w2 wa:=(Lau:Later w2 wa)
  have hv:=h3.out.trans hc;clear h8 hHeld u0 u1 z0 z1 z2 z3;obtain ⟨gJ,hq⟩:=zd2 hc hv;clear hc hv;go_wp2_with fail;refine Zk1 (v:=.tuple #[.slice none 0 0,.int .i64 20]) (by simp [results,Tryz.results18,go_sem]) rfl ?_;exact GoL.fail HE.out dZ hq.out
 rw [hgr] at hZ;cases hge:(g.s==(Ly.got x 0).s)
 ·rw [hge] at Hi
  clear HE;have HE:=zI (Ly.pointBack_bad (k:=k0) HK.out (by rw [hge,Bool.and_false]:(Tn.right g&&(g.s==(Ly.got x 0).s))=false));go_wp2_with fail;have KF:=zI (show ∀Xw,Later w2 Xw->Xw.cell? ⟨w.heap.size,0,none⟩=some (.slice GS g.s.length gc)/\Xw.cell? ⟨w.heap.size,1,none⟩=some (.slice GC g.c.length gd)/\Xw.cell? ⟨b,off,none⟩=some (.slice S (Ly.got x 0).s.length sc) from λXw h=>⟨h.cell u0,h.cell u1,h.cell z0⟩);refine Zm1 ?_;refine Zl1 (S:=λXw=>Xw.cell? ⟨w.heap.size,0,none⟩=some (.slice GS g.s.length gc)/\Xw.cell? ⟨w.heap.size,1,none⟩=some (.slice GC g.c.length gd)/\Xw.cell? ⟨b,off,none⟩=some (.slice S (Ly.got x 0).s.length sc)) krZ (KF.out _ Lau) (λhHeld=>?_);refine tk 0 ?_;refine rd 1 λK hK=>?_
  simp only [ga,gs,gz]
  go_simp
  go_at_call 51;(with_reducible refine (hZ.out _ (Lau:Later w2 _)).mono ?_);rintro e wa ⟨rfl,h8⟩
  try go_wp2_with fail
  refine hK.out _ _ (KF.out _ Lau) (λhHeld=>?_);clear hK K
  try simp only [ga,gs,gz,Act.put,sa,sz,ss]
  refine tk 2 ?_;refine tk 3 ?_;refine tk 4 ?_;refine tk 5 ?_;refine tk 6 ?_;refine tk 7 ?_;refine tk 8 ?_;refine tk 9 ?_;refine rd 10 λK hK=>?_
  simp only [ga,gs,gz]
  go_simp
  go_at_call 43;(with_reducible refine (Hi.out _ (Lau:Later w2 _)).mono ?_);rintro e wb ⟨rfl,nb,rfl⟩
  try go_wp2_with fail
  refine hK.out _ _ (KF.out _ Lau) (λhHeld=>?_);clear hK K
  try simp only [ga,gs,gz,Act.put,sa,sz,ss]
  refine tk 11 ?_;refine tk 12 ?_;clear KF;refine Zn1 krZ ?_ _;refine Zd1 ?_;have hc:Later w2 (wa.drewN nb):=(Lau:Later w2 (wa.drewN nb))
  have hv:=h3.out.trans hc;clear h8 hHeld u0 u1 z0 z1 z2 z3;obtain ⟨gJ,hq⟩:=zd2 hc hv;clear hc hv;go_wp2_with fail;refine Zk1 (v:=.tuple #[.slice none 0 0,.int .i64 20]) (by simp [results,Tryz.results18,go_sem]) rfl ?_;exact GoL.fail HE.out dZ hq.out
 rw [hge] at Hi;have HN:g.s=(Ly.got x 0).s:=by simpa using hge
 have gF:=Ly.same_len hgr gg HN;clear HE;have HE:=zI (Ly.pointBack_ok2 (k:=k0) HK.out hgr HN Hn.out);obtain ⟨Gj,gU⟩:=zd2 HN gF;clear HN gF;clear hge;go_wp2_with fail;have KF:=zI (show ∀Xw,Later w2 Xw->Xw.cell? ⟨w.heap.size,0,none⟩=some (.slice GS g.s.length gc)/\Xw.cell? ⟨w.heap.size,1,none⟩=some (.slice GC g.c.length gd)/\Xw.cell? ⟨b,off,none⟩=some (.slice S (Ly.got x 0).s.length sc) from λXw h=>⟨h.cell u0,h.cell u1,h.cell z0⟩);refine Zm1 ?_;refine Zl1 (S:=λXw=>Xw.cell? ⟨w.heap.size,0,none⟩=some (.slice GS g.s.length gc)/\Xw.cell? ⟨w.heap.size,1,none⟩=some (.slice GC g.c.length gd)/\Xw.cell? ⟨b,off,none⟩=some (.slice S (Ly.got x 0).s.length sc)) krZ (KF.out _ Lau) (λhHeld=>?_);refine tk 0 ?_;refine rd 1 λK hK=>?_
 simp only [ga,gs,gz]
 go_simp
 go_at_call 51;(with_reducible refine (hZ.out _ (Lau:Later w2 _)).mono ?_);rintro e wa ⟨rfl,h8⟩
 try go_wp2_with fail
 refine hK.out _ _ (KF.out _ Lau) (λhHeld=>?_);clear hK K
 try simp only [ga,gs,gz,Act.put,sa,sz,ss]
 refine tk 2 ?_;refine tk 3 ?_;refine tk 4 ?_;refine tk 5 ?_;refine tk 6 ?_;refine tk 7 ?_;refine tk 8 ?_;refine tk 9 ?_;refine rd 10 λK hK=>?_
 simp only [ga,gs,gz]
 go_simp
 go_at_call 43;(with_reducible refine (Hi.out _ (Lau:Later w2 _)).mono ?_);rintro e wb ⟨rfl,nb,rfl⟩
 try go_wp2_with fail
 refine hK.out _ _ (KF.out _ Lau) (λhHeld=>?_);clear hK K
 try simp only [ga,gs,gz,Act.put,sa,sz,ss]
 refine tk 11 ?_;refine tk 12 ?_;clear KF;refine Zn1 krZ ?_ _;refine Zd1 ?_;have hc:Later w2 (wa.drewN nb):=(Lau:Later w2 (wa.drewN nb))
 have hv:=h3.out.trans hc;have gv:=hc.blk H0.out;have H7:=Ht.out.later hc;have z0a:=hc.cell z0;have z1a:=hc.cell z1;have z2a:=hc.cell z2;have z3a:=hc.cell z3;have Hc:=gM.later hc;clear h8 hHeld u0 u1 z0 z1 z2 z3 gM Ht H0 h3 hZ Hi;generalize wa.drewN nb=w3 at *;rw [Hn.out];have gP:∀i,Ly.slopes kind k0 x g i=Ly.slope kind k0 (Ly.at_ (Ly.got x 0).c i) (Ly.second x i) (Ly.at_ g.c i):=λ_=>rfl
 have Hx:=H7.num
 have hl:∀i,Fx.In (Ly.second x i):=λi=>by
  unfold Ly.second
  split
  ·exact Fx.in_zero
  ·exact Ly.at_in (Ly.got_in HT.out.in_ 1) i
 have Hj:2<=x.length->(Ly.got x 1).c.length=(Ly.got x 0).c.length:=λ_=>HM.out
 have Hd:(Ly.tab (Ly.got x 0).c.length λi=>(Ly.slopes kind k0 x g i).1).length=(Ly.got x 0).c.length:=by rw [Ly.tab_len]
 have h6:∀i (hi:i<(Ly.tab (Ly.got x 0).c.length λi=>(Ly.slopes kind k0 x g i).1).length),(Ly.tab (Ly.got x 0).c.length λi=>(Ly.slopes kind k0 x g i).1)[i]=(Ly.slopes kind k0 x g i).1:=λi hi=>Ly.tab_get hi
 have hB:∀z∈(Ly.tab (Ly.got x 0).c.length λi=>(Ly.slopes kind k0 x g i).1),Fx.In z:=Ly.tab_in λi _=>(Ly.slope_in (Ly.at_in HG.out.num i)).1
 generalize (Ly.tab (Ly.got x 0).c.length λi=>(Ly.slopes kind k0 x g i).1)=R0 at *;have Hv:(Ly.tab (Ly.got x 0).c.length λi=>(Ly.slopes kind k0 x g i).2).length=(Ly.got x 1).c.length:=by rw [Ly.tab_len];exact HM.out.symm
 have HD:∀i (hi:i<(Ly.tab (Ly.got x 0).c.length λi=>(Ly.slopes kind k0 x g i).2).length),(Ly.tab (Ly.got x 0).c.length λi=>(Ly.slopes kind k0 x g i).2)[i]=(Ly.slopes kind k0 x g i).2:=λi hi=>Ly.tab_get hi
 have hA:∀z∈(Ly.tab (Ly.got x 0).c.length λi=>(Ly.slopes kind k0 x g i).2),Fx.In z:=Ly.tab_in λi _=>(Ly.slope_in (Ly.at_in HG.out.num i)).2
 generalize (Ly.tab (Ly.got x 0).c.length λi=>(Ly.slopes kind k0 x g i).2)=R1 at *;have HC:=zI (λ(k:Nat) (hk:k<(Ly.got x 0).c.length) (h2:2<=x.length)=>(show k<(Ly.got x 1).c.length by rw [Hj h2];exact hk));clear Hj;generalize htq0:Ly.got x 0=t0 at *;have gX:=zI htq0;clear htq0;generalize htq1:Ly.got x 1=t1 at *;have H1:=zI htq1;clear htq1;clear hHeld;obtain ⟨gY,gq,hL,hq,gN,gJ,he,gp,He⟩:=zd9 gP Hx hl hv gv hc Hd h6 hB;obtain ⟨hb,gr,Hf,gw,gh,Ha,Hb,gt,H2⟩:=zd9 Hv HD hA H7 Hc z0a z1a z2a z3a;clear gP Hx hl hv gv hc Hd h6 hB Hv HD hA H7 Hc z0a z1a z2a z3a;obtain ⟨i0,hi,gR,gA,gx⟩:=info_parts qcD;go_wp2_with (at_make;refine wpList_make_full _ rfl _ _ 27 rfl w.heap.size 30 i0 (.agg #[.slice none 0 0,.slice none 0 0]) 2 Tryz.underlying27 hi gR gA _ _ _ _ 2 rfl rfl (by first|rfl|simp) (by first|rfl|simp) ?b2 ?b3 hq.out.size ?_)
 case b2=>rw [gx];omega
 case b3=>unfold maxLen;omega
 intro v0 hown hgrow;clear hi gR gA gx;have hF:Blk v0 w3.heap.size 30 #[.slice none 0 0,.slice none 0 0,.slice none 0 0,.slice none 0 0]:=by have h:=qg8 hown;simpa [madeCells,List.range_succ] using h
 have gy:Later w3 v0:=(Ze1 _ w3).grown hgrow (lrZ _) sZ;have g4:=hq.out.size;have Gf:=gN.out.lt;clear hown hgrow;obtain ⟨HA,gm⟩:=zd2 hF gy;clear hF gy;go_wp2_with fail;refine wp_loop_rounds 3 ?_;rw [rounds_succ];have y0:=gm.out.cell Ha.out;have y1:=gm.out.cell Hb.out;go_wp2_with fail;have hr:=gm.out.alloc (.cells #[.slice S t0.s.length sc,.slice C t0.c.length cd] 30);have hR:=(HA.out).alloc (.cells #[.slice S t0.s.length sc,.slice C t0.c.length cd] 30);clear y0 y1;generalize v0.alloc (.cells #[.slice S t0.s.length sc,.slice C t0.c.length cd] 30)=vb at *;refine (qa8 S C sc cd t0 vb oZ oZ (gw.out.later hr).r).mono ?_;rintro e vc ⟨v,rfl,⟨g0,h0,rfl,Gh,Gc,HO,HP⟩,Hq⟩;have ha:Later vb vc:=Hq;have HF:=hr.trans ha;have hh:=ha.blk hR;have HS:=hR.lt;have g6:=hr.size;have Ga:=HO.lt;have gS:=HP.lt;have x0:=hh.cell 0;have x1:=hh.cell 1;have fr0:=hh.frozen 0;have fr1:=hh.frozen 1;simp at x0 x1
 have gl:g0≠h0:=λe=>by
  subst e;have:=HO.symm.trans HP;simp at this
 have gV:w3.heap.size<=g0:=by omega
 have HZ:w3.heap.size<=h0:=by omega
 have hp:g0≠w3.heap.size:=by omega
 have hm:h0≠w3.heap.size:=by omega
 have hH:Blk ((vc.setCell ⟨w3.heap.size,0,none⟩ (.slice (some ⟨g0,0,none⟩) t0.s.length t0.s.length)).setCell ⟨w3.heap.size,1,none⟩ (.slice (some ⟨h0,0,none⟩) t0.c.length t0.c.length)) w3.heap.size 30 #[.slice (some ⟨g0,0,none⟩) t0.s.length t0.s.length,.slice (some ⟨h0,0,none⟩) t0.c.length t0.c.length,.slice none 0 0,.slice none 0 0]:=by
  have:=(hh.set_ 0 (.slice (some ⟨g0,0,none⟩) t0.s.length t0.s.length)).set_ 1 (.slice (some ⟨h0,0,none⟩) t0.c.length t0.c.length);simpa using this
 have gK:Later w3 ((vc.setCell ⟨w3.heap.size,0,none⟩ (.slice (some ⟨g0,0,none⟩) t0.s.length t0.s.length)).setCell ⟨w3.heap.size,1,none⟩ (.slice (some ⟨h0,0,none⟩) t0.c.length t0.c.length)):=(HF.set (p:=⟨w3.heap.size,0,none⟩) (lrZ _) _).set (p:=⟨w3.heap.size,1,none⟩) (lrZ _) _;have Hh:=(HO.far (p:=⟨w3.heap.size,0,none⟩) hp (.slice (some ⟨g0,0,none⟩) t0.s.length t0.s.length)).far (p:=⟨w3.heap.size,1,none⟩) hp (.slice (some ⟨h0,0,none⟩) t0.c.length t0.c.length);have h4:=(HP.far (p:=⟨w3.heap.size,0,none⟩) hm (.slice (some ⟨g0,0,none⟩) t0.s.length t0.s.length)).far (p:=⟨w3.heap.size,1,none⟩) hm (.slice (some ⟨h0,0,none⟩) t0.c.length t0.c.length);obtain ⟨HJ,HW,go,HY⟩:=zd4 hH gK Hh h4;clear hH gK Hh h4;clear Hq ha HF hh HO HP hr hR;go_wp2_with fail;generalize (vc.setCell ⟨w3.heap.size,0,none⟩ (.slice (some ⟨g0,0,none⟩) t0.s.length t0.s.length)).setCell ⟨w3.heap.size,1,none⟩ (.slice (some ⟨h0,0,none⟩) t0.c.length t0.c.length)=v1 at *;clear x0 x1 fr0 fr1;rw [rounds_succ];have y0:=HW.out.cell gt.out;have y1:=HW.out.cell H2.out;go_wp2_with fail;have hr:=HW.out.alloc (.cells #[.slice S1 t1.s.length sc1,.slice C1 t1.c.length cd1] 30);have hR:=(HJ.out).alloc (.cells #[.slice S1 t1.s.length sc1,.slice C1 t1.c.length cd1] 30);have hP:=(go.out).alloc (.cells #[.slice S1 t1.s.length sc1,.slice C1 t1.c.length cd1] 30);have hu:=(HY.out).alloc (.cells #[.slice S1 t1.s.length sc1,.slice C1 t1.c.length cd1] 30);clear y0 y1;generalize v1.alloc (.cells #[.slice S1 t1.s.length sc1,.slice C1 t1.c.length cd1] 30)=vb at *;refine (qa8 S1 C1 sc1 cd1 t1 vb oZ oZ (gh.out.later hr).r).mono ?_;rintro e vc ⟨v,rfl,⟨g1,h1,rfl,Gd,Gk,HQ,HL⟩,Hq⟩;have ha:Later vb vc:=Hq;have HF:=hr.trans ha;have hh:=ha.blk hR;have HS:=hR.lt;have g6:=hr.size;have g5:=HQ.lt;have g8:=HL.lt;have x0:=hh.cell 2;have x1:=hh.cell 3;have fr0:=hh.frozen 2;have fr1:=hh.frozen 3;simp at x0 x1
 have gn:g1≠h1:=λe=>by
  subst e;have:=HQ.symm.trans HL;simp at this
 have g9:w3.heap.size<=g1:=by omega
 have gj:w3.heap.size<=h1:=by omega
 have h7:g1≠w3.heap.size:=by omega
 have hM:h1≠w3.heap.size:=by omega
 have hC:Blk ((vc.setCell ⟨w3.heap.size,2,none⟩ (.slice (some ⟨g1,0,none⟩) t1.s.length t1.s.length)).setCell ⟨w3.heap.size,3,none⟩ (.slice (some ⟨h1,0,none⟩) t1.c.length t1.c.length)) w3.heap.size 30 #[.slice (some ⟨g0,0,none⟩) t0.s.length t0.s.length,.slice (some ⟨h0,0,none⟩) t0.c.length t0.c.length,.slice (some ⟨g1,0,none⟩) t1.s.length t1.s.length,.slice (some ⟨h1,0,none⟩) t1.c.length t1.c.length]:=by
  have:=(hh.set_ 2 (.slice (some ⟨g1,0,none⟩) t1.s.length t1.s.length)).set_ 3 (.slice (some ⟨h1,0,none⟩) t1.c.length t1.c.length);simpa using this
 have gD:Later w3 ((vc.setCell ⟨w3.heap.size,2,none⟩ (.slice (some ⟨g1,0,none⟩) t1.s.length t1.s.length)).setCell ⟨w3.heap.size,3,none⟩ (.slice (some ⟨h1,0,none⟩) t1.c.length t1.c.length)):=(HF.set (p:=⟨w3.heap.size,2,none⟩) (lrZ _) _).set (p:=⟨w3.heap.size,3,none⟩) (lrZ _) _;have Hz:=(HQ.far (p:=⟨w3.heap.size,2,none⟩) h7 (.slice (some ⟨g1,0,none⟩) t1.s.length t1.s.length)).far (p:=⟨w3.heap.size,3,none⟩) h7 (.slice (some ⟨h1,0,none⟩) t1.c.length t1.c.length);have Hu:=(HL.far (p:=⟨w3.heap.size,2,none⟩) hM (.slice (some ⟨g1,0,none⟩) t1.s.length t1.s.length)).far (p:=⟨w3.heap.size,3,none⟩) hM (.slice (some ⟨h1,0,none⟩) t1.c.length t1.c.length);have h5:=(((ha.blk hP)).far (p:=⟨w3.heap.size,2,none⟩) hp (.slice (some ⟨g1,0,none⟩) t1.s.length t1.s.length)).far (p:=⟨w3.heap.size,3,none⟩) hp (.slice (some ⟨h1,0,none⟩) t1.c.length t1.c.length);have Ho:=(((ha.blk hu)).far (p:=⟨w3.heap.size,2,none⟩) hm (.slice (some ⟨g1,0,none⟩) t1.s.length t1.s.length)).far (p:=⟨w3.heap.size,3,none⟩) hm (.slice (some ⟨h1,0,none⟩) t1.c.length t1.c.length);have H3:g0≠h1:=by have:=hP.lt;omega
 have HH:h0≠h1:=by have:=hu.lt;omega
 have HU:g1≠h0:=by have:=hu.lt;omega
 obtain ⟨hw,H4,HI,Hr,Hp,h9⟩:=zd6 hC gD Hz Hu h5 Ho;clear hC gD Hz Hu h5 Ho;clear Hq ha HF hh HQ HL hr hR hP hu;go_wp2_with fail;generalize (vc.setCell ⟨w3.heap.size,2,none⟩ (.slice (some ⟨g1,0,none⟩) t1.s.length t1.s.length)).setCell ⟨w3.heap.size,3,none⟩ (.slice (some ⟨h1,0,none⟩) t1.c.length t1.c.length)=v2 at *;clear x0 x1 fr0 fr1;rw [rounds_succ];have y0:=H4.out.cell Ha.out;have y1:=H4.out.cell Hb.out;go_wp2_with fail;clear y0 y1;have gI:Blk v2 h0 22 ((R0.take 0++t0.c.drop 0).map (Za1 .i64)).toArray:=by simpa using h9.out
 have gB:Blk v2 h1 22 ((R1.take 0++t1.c.drop 0).map (Za1 .i64)).toArray:=by simpa using Hr.out
 obtain ⟨gH,gO⟩:=zd2 gI gB;clear gI gB
 go_loopw [58] (λi wx=>∃k:Nat,k<=t0.c.length/\i=.int .i64 (k:Int)/\Blk wx h0 22 ((R0.take k++t0.c.drop k).map (Za1 .i64)).toArray/\Blk wx g0 3 (t0.s.map (Za1 .i64)).toArray/\Blk wx h1 22 ((R1.take k++t1.c.drop k).map (Za1 .i64)).toArray/\Blk wx g1 3 (t1.s.map (Za1 .i64)).toArray/\Blk wx w3.heap.size 30 #[.slice (some ⟨g0,0,none⟩) t0.s.length t0.s.length,.slice (some ⟨h0,0,none⟩) t0.c.length t0.c.length,.slice (some ⟨g1,0,none⟩) t1.s.length t1.s.length,.slice (some ⟨h1,0,none⟩) t1.c.length t1.c.length]/\Later w3 wx) (λi _=>t0.c.length-(intOf i).toNat)
 case atStart=>exact ⟨0,Zt _,rfl,gH.out,Hp.out,gO.out,HI.out,hw.out,H4.out⟩
 case round=>
  obtain ⟨k,hk,rfl,hS,ho,hX,hs,hI,hJ⟩:=hrel;clear gH Hp h9 gO HI Hr hw
  by_cases Hm:k<t0.c.length
  ·obtain ⟨bc,oc,rfl,-,Gg⟩:=(gw.out.later hJ).cell Hm
   have gu:k<g.c.length:=by rw [gU.out];exact Hm
   obtain ⟨bg,og,rfl,-,g7⟩:=(HG.out.later (hq.out.trans hJ)).cell gu;have u1:wr.cell? ⟨w.heap.size,1,none⟩=some (.slice (some ⟨bg,og,none⟩) g.c.length gd):=by rw [(hJ.blk gN.out).cell];rfl
   have Hl:=Ly.at_in gq.out k;have HB:=hL.out k;have Hs:=Ly.at_in HG.out.num k;have HX:=λ(V:Zp1) (hV:Later w V)=>qbf (some ⟨b,off,none⟩) f x k V oZ (HT.out.later hV) (λh2=>by rw [H1.out];exact HC.out k Hm h2)
   have H5:=λ(V:Zp1)=>qcB kind k0 (Ly.at_ t0.c k) (Ly.second x k) (Ly.at_ g.c k) V k1 k7 gW.out Hl HB Hs
   rw [Hn.out] at HX;rw [←gY.out k] at H5;have rr1:=r1;have rr2:=r2;have hf:k<R0.length:=by rw [he.out];exact Hm
   have hU:=Ly.mid_step R0 t0.c hf he.out;have hD:=Ly.mid_len R0 t0.c k oZ he.out;have Hw:=gp.out k hf;rw [Hw] at hU;obtain ⟨p0,hp0⟩:∃u,wr.cell? ⟨h0,k,none⟩=some u:=⟨_,hS.row_get (by rw [hD];exact hf)⟩
   have fp0:=hS.frozen k;have q0:wr.cell? ⟨w3.heap.size,0,none⟩=some (.slice (some ⟨g0,0,none⟩) t0.s.length t0.s.length):=by rw [hI.cell];rfl
   have q1:wr.cell? ⟨w3.heap.size,1,none⟩=some (.slice (some ⟨h0,0,none⟩) t0.c.length t0.c.length):=by rw [hI.cell];rfl
   have hd:k<R1.length:=by rw [hb.out];rw [HM.out];exact Hm
   have hN:=Ly.mid_step R1 t1.c hd hb.out;have hx:=Ly.mid_len R1 t1.c k oZ hb.out;have Hy:=gr.out k hd;rw [Hy] at hN;obtain ⟨p1,hp1⟩:∃u,wr.cell? ⟨h1,k,none⟩=some u:=⟨_,hX.row_get (by rw [hx];exact hd)⟩
   have fp1:=hX.frozen k;have q2:wr.cell? ⟨w3.heap.size,2,none⟩=some (.slice (some ⟨g1,0,none⟩) t1.s.length t1.s.length):=by rw [hI.cell];rfl
   have q3:wr.cell? ⟨w3.heap.size,3,none⟩=some (.slice (some ⟨h1,0,none⟩) t1.c.length t1.c.length):=by rw [hI.cell];rfl
   generalize Ly.slopes kind k0 x g k=sl at *;generalize Ly.at_ t0.c k=xk at *;generalize Ly.second x k=sk at *;generalize Ly.at_ g.c k=gk at *;have kk1:(k:Int)<(t0.c.length:Int):=by omega
   have kk3:(k:Int)<(g.c.length:Int):=by omega
   have kk2:(0:Int)<=(k:Int):=by omega
   have kk4:(k:Int)<(t1.c.length:Int):=by have:=hd;rw [hb.out] at this;omega
   clear hD Hw hf hx Hy hd Hl HB Hs;obtain ⟨H9,hW,H6,HV,hO,H8,hy,gf,g2⟩:=zd9 hS ho hU hX hs hN hI hJ HX;have g3:=zI H5;clear hS ho hU hX hs hN hI hJ HX H5;go_wp2_with fail;have KF:=zI (show ∀Xw,Later wr Xw->Xw.cell? ⟨w.heap.size,1,none⟩=some (.slice (some ⟨bg,og,none⟩) g.c.length gd)/\Xw.cell? ⟨bg,og+k,none⟩=some (.int .i64 gk) from λXw h=>⟨h.cell u1,h.cell g7⟩);refine Zm1 ?_;refine Zl1 (S:=λXw=>Xw.cell? ⟨w.heap.size,1,none⟩=some (.slice (some ⟨bg,og,none⟩) g.c.length gd)/\Xw.cell? ⟨bg,og+k,none⟩=some (.int .i64 gk)) krZ (KF.out _ Lau) (λhHeld=>?_);refine tk 0 ?_;refine tk 1 ?_;refine tk 2 ?_;refine tk 3 ?_;refine tk 4 ?_;refine tk 6 ?_;refine tk 7 ?_;refine tk 8 ?_;refine tk 9 ?_;refine tk 10 ?_;refine rd 5 λK hK=>?_
   simp only [ga,gs,gz]
   go_simp
   go_at_call 68;(with_reducible refine (g2.out _ (hq.out.trans (gf.out.trans (Lau:Later wr _)))).mono ?_);rintro e wa ⟨rfl,rfl⟩
   try go_wp2_with fail
   refine hK.out _ _ (KF.out _ Lau) (λhHeld=>?_);clear hK K
   try simp only [ga,gs,gz,Act.put,sa,sz,ss]
   refine rd 11 λK hK=>?_
   simp only [ga,gs,gz]
   go_simp
   go_at_call 67;(with_reducible refine (g3.out _).mono ?_);rintro e wb ⟨rfl,rfl⟩
   try go_wp2_with fail
   refine hK.out _ _ (KF.out _ Lau) (λhHeld=>?_);clear hK K
   try simp only [ga,gs,gz,Act.put,sa,sz,ss]
   refine tk 12 ?_;refine tk 13 ?_;refine tk 14 ?_;refine tk 15 ?_;refine tk 16 ?_;clear KF;refine Zn1 krZ ?_ _;refine Zd1 ?_;clear hHeld;go_wp2_with fail;have k1:=H9.out.set_ k (.int .i64 sl.1);have k2:=(HV.out.far (p:=⟨h0,k,none⟩) HH.symm (.int .i64 sl.1)).set_ k (.int .i64 sl.2)
   have m0:Blk ((wr.setCell ⟨h0,k,none⟩ (.int .i64 sl.1)).setCell ⟨h1,k,none⟩ (.int .i64 sl.2)) h0 22 ((R0.take (k+1)++t0.c.drop (k+1)).map (Za1 .i64)).toArray:=by
    refine Blk.far ?_ (p:=⟨h1,k,none⟩) HH _;rw [←H6.out,List.map_set];simpa using k1
   have n0:Blk ((wr.setCell ⟨h0,k,none⟩ (.int .i64 sl.1)).setCell ⟨h1,k,none⟩ (.int .i64 sl.2)) h1 22 ((R1.take (k+1)++t1.c.drop (k+1)).map (Za1 .i64)).toArray:=by
    rw [←H8.out,List.map_set];simpa using k2
   have m1:=(hW.out.far (p:=⟨h0,k,none⟩) gl (.int .i64 sl.1)).far (p:=⟨h1,k,none⟩) H3 (.int .i64 sl.2);have n1:=(hO.out.far (p:=⟨h0,k,none⟩) HU (.int .i64 sl.1)).far (p:=⟨h1,k,none⟩) gn (.int .i64 sl.2);have m2:=(hy.out.far (p:=⟨h0,k,none⟩) hm.symm (.int .i64 sl.1)).far (p:=⟨h1,k,none⟩) hM.symm (.int .i64 sl.2);have m3:=(gf.out.set (p:=⟨h0,k,none⟩) HZ (.int .i64 sl.1)).set (p:=⟨h1,k,none⟩) gj (.int .i64 sl.2);go_roundw
   case rel=>exact ⟨k+1,by omega,by go_num,m0.drew,m1.drew,n0.drew,n1.drew,m2.drew,m3.drew⟩
   case measure=>simp [intOf];omega
  ·obtain rfl:k=t0.c.length:=by omega
   rw [Ly.mid_end R0 t0.c _ he.out.symm he.out] at hS;rw [Ly.mid_end R1 t1.c _ (by rw [hb.out];exact HM.out.symm) hb.out] at hX;have gC:=hq.out.trans hJ;obtain ⟨H9,hW,HV,hO,hy,gf,gZ⟩:=zd7 hS ho hX hs hI hJ gC;clear hS ho hX hs hI hJ gC;go_wp2_with fail;refine Zk1 (v:=.tuple #[.slice (some ⟨w3.heap.size,0,none⟩) 2 2,.int .i64 0]) (by simp [results,Tryz.results18,go_sem]) rfl ?_;refine GoL.ok (A:=some ⟨w3.heap.size,0,none⟩) HE.out ⟨λa e=>?_,λj hj=>?_⟩ gZ.out
   ·injection e with e
    subst e;exact ⟨_,rfl,g4,hy.out.lt,λk=>hy.out.frozen k⟩
   ·have gT:j=0∨j=1:=by simp at hj;omega
    rcases gT with rfl|rfl
    ·refine ⟨w3.heap.size,some ⟨g0,0,none⟩,t0.s.length,some ⟨h0,0,none⟩,t0.c.length,rfl,by rw [hy.out.cell];rfl,by rw [hy.out.cell];simp [he.out],?_⟩
     show TenO w.heap.size wr (.agg #[.slice (some ⟨g0,0,none⟩) t0.s.length t0.s.length,.slice (some ⟨h0,0,none⟩) R0.length t0.c.length]) ⟨t0.s,R0⟩
     exact qb6 hW.out H9.out oZ oZ oZ (by rw [he.out];omega) He.out (by rw [he.out])
    ·refine ⟨w3.heap.size,some ⟨g1,0,none⟩,t1.s.length,some ⟨h1,0,none⟩,t1.c.length,rfl,by rw [hy.out.cell];rfl,by rw [hy.out.cell];simp [hb.out],?_⟩
     show TenO w.heap.size wr (.agg #[.slice (some ⟨g1,0,none⟩) t1.s.length t1.s.length,.slice (some ⟨h1,0,none⟩) R1.length t1.c.length]) ⟨t1.s,R1⟩
     exact qb6 hO.out HV.out oZ oZ oZ (by rw [hb.out];omega) Hf.out (by rw [hb.out])
namespace Ly
theorem counts_ok {o:OpD} {p x:Int} (h:Od.counts o p x=0):Od.right o=true/\Od.least o<=x/\x<=Od.most o/\p=Od.params o:=by
 unfold Od.counts at h;cases hr:Od.right o
 ·simp [hr] at h
 ·rw [hr] at h
  simp only [if_true] at h
  split at h
  ·simp at h
  ·rename_i hc;simp only [not_or] at hc;exact ⟨rfl,by omega,by omega,by omega⟩
theorem right_s {t:Ten} (h:Tn.right t=true):Sh.right t.s=true/\(t.c.length:Int)=Safe.prod t.s:=by simpa [Tn.right] using h
theorem qaO {o:OpD} {p x:List Ten} (hc:Od.counts o p.length x.length=0) (hp:∀t∈p,Sh.right t.s=true) (hx:∀t∈x,Sh.right t.s=true):
  Od.shape o (p.map Ten.s) (x.map Ten.s)=Od.byKind o (p.map Ten.s) (x.map Ten.s):=by
 unfold Od.shape;rw [List.length_map,List.length_map,if_neg (by simp [hc]),if_pos];simp only [Zz,Zf,List.mem_map];exact ⟨by rintro s ⟨t,ht,rfl⟩;exact hp t ht,by rintro s ⟨t,ht,rfl⟩;exact hx t ht⟩
theorem qd2 {sd:Int}:∀ {r:List Ten} {s:List Int},(joinedS sd s r).2=0->Od.joinAll sd s (r.map Ten.s)=joinedS sd s r/\∀t∈r,Sh.right t.s=true
 | [],_,_=>⟨rfl,by simp⟩
 | t::r,s,h=>by
  simp only [joinedS,List.map_cons,Od.joinAll] at h ⊢
  split at h
  ·rename_i ht
   rw [if_pos ht]
   split at h
   ·rename_i hj
    rw [if_pos hj,if_pos hj];obtain ⟨h1,h2⟩:=qd2 h;refine ⟨h1,λu hu=>?_⟩;rcases List.mem_cons.1 hu with rfl|hu
    ·exact (right_s ht).1
    ·exact h2 u hu
   ·rename_i hj;exact absurd h hj
  ·simp at h
theorem qe1 {sd:Int} {x:List Ten} (h:(joined sd x).2=0):Od.joined sd (x.map Ten.s)=joined sd x/\∀t∈x,Sh.right t.s=true:=by
 cases x with
 | nil=>simp [joined] at h
 | cons t r=>
  simp only [joined] at h ⊢
  split at h
  ·rename_i ht
   rw [if_pos ht]
   split at h
   ·simp at h
   ·rename_i hc
    rw [if_neg hc];obtain ⟨h1,h2⟩:=qd2 h;refine ⟨?_,λu hu=>?_⟩
    ·unfold Od.joined
     rw [if_neg]
     ·exact h1
     ·rintro ⟨hl,hi⟩
      refine hc ⟨by simpa using hl,?_⟩;simp [Od.inR] at hi;omega
    ·rcases List.mem_cons.1 hu with rfl|hu
     ·exact (right_s ht).1
     ·exact h2 u hu
  ·simp at h
theorem qao {l:List Ten} (h:l.length=1):∃a,l=[a]:=List.length_eq_one_iff.1 h
theorem qg9 {l:List Ten} (h:l.length=2):∃a b,l=[a,b]:=by
 match l,h with
 | [a,b],_=>exact ⟨a,b,rfl⟩
theorem qau {l:List Ten} (h:l.length=0):l=[]:=List.length_eq_zero_iff.1 h
theorem lay_shape {o:OpD} {p x:List Ten} (hc:Od.counts o p.length x.length=0) (h:(lay o p x).2=0):Od.shape o (p.map Ten.s) (x.map Ten.s)=((lay o p x).1.s,0):=by
 obtain ⟨hr,h1,h2,h3⟩:=counts_ok hc;have hk:=Od.right_kind hr;unfold Od.least Od.most at *;unfold Od.params at h3;rw [if_pos hr] at h1 h2 h3;have hd:o.kind<=7∨o.kind=8∨o.kind=9∨o.kind=10∨o.kind=11∨o.kind=12∨o.kind=13∨o.kind=14∨o.kind=15:=by omega
 rcases hd with hb|hb|hb|hb|hb|hb|hb|hb|hb
 ·have e:lay o p x=point o.kind o.k x:=by unfold lay;rw [if_neg oZ,if_neg oZ,if_neg oZ,if_neg oZ,if_neg oZ,if_neg oZ,if_neg oZ,if_neg oZ]
  have he:p=[]:=qau (by rw [if_neg oZ,if_neg oZ] at h3;omega);rw [e] at h ⊢;unfold point at h ⊢
  split at h
  ·rename_i ha
   rw [if_pos ha];unfold ptAgree at ha
   split at ha
   ·simp at ha
   ·split at ha
    ·simp at ha
    ·split at ha
     ·rename_i hall
      simp only [Zf,Zz,decide_eq_true_eq] at hall;rw [qaO hc (by rw [he];simp) (λt ht=>(right_s (hall t ht).1).1)];unfold Od.byKind;rw [if_neg oZ,if_neg oZ,if_neg oZ,if_neg oZ,if_neg oZ,if_neg oZ,if_neg oZ]
      have hf:0<x.length:=by
       rcases Nat.eq_zero_or_pos x.length with h0|h0
       ·rename_i hn0 hn1;simp [h0] at hn1;omega
       ·exact h0
      have e0:(x.map Ten.s).getD 0 []=(got x 0).s:=by
       cases x with
       | nil=>simp at hf
       | cons a r=>rfl
      unfold Od.same;rw [e0,if_pos];simp only [Zf,List.mem_map,decide_eq_true_eq];rintro s ⟨t,ht,rfl⟩;exact (hall t ht).2
     ·simp at ha
  ·rename_i ha;exact absurd h ha
 ·obtain ⟨a,b,rfl⟩:=qg9 (l:=p) (by simp [hb] at h3;omega)
  obtain ⟨t,rfl⟩:=qao (l:=x) (by simp [hb] at h1 h2;omega);have e:lay o [a,b] [t]=dense a b t:=by unfold lay;rw [if_pos hb];rfl
  rw [e] at h ⊢;unfold dense at h ⊢
  split at h
  ·rename_i ha
   rw [if_pos ha];simp only [denseOk,Zz,decide_eq_true_eq] at ha;obtain ⟨⟨⟨⟨⟨a1,a2⟩,a3⟩,a4⟩,a5⟩,a6⟩:=ha;rw [qaO hc (by simp [(right_s a1).1,(right_s a3).1]) (by simp [(right_s a4).1])];have h6:=(right_s a4).2;have h7:=(right_s a4).1;unfold Od.byKind Od.dense;rw [if_pos hb];simp only [List.map_cons,List.map_nil,List.getD_cons_zero,List.getD_cons_succ];rw [if_pos ⟨a2,by rw [a5];rfl,by rw [a5];rfl,h7,by rw [←h6,a6];rfl⟩,a5]
   rfl
  ·simp at h
 ·obtain ⟨b,rfl⟩:=qao (l:=p) (by simp [hb] at h3;omega)
  obtain ⟨t,rfl⟩:=qao (l:=x) (by simp [hb] at h1 h2;omega);have e:lay o [b] [t]=add t b:=by unfold lay;rw [if_neg oZ,if_pos hb];rfl
  rw [e] at h ⊢;unfold add at h ⊢
  split at h
  ·rename_i ha
   rw [if_pos ha];simp only [alike,Zz,decide_eq_true_eq] at ha;obtain ⟨⟨a1,a2⟩,a3⟩:=ha;rw [qaO hc (by simp [(right_s a2).1]) (by simp [(right_s a1).1])];unfold Od.byKind Od.same;rw [if_neg oZ,if_pos hb];simp [a3]
  ·simp at h
 ·obtain ⟨b,rfl⟩:=qao (l:=p) (by simp [hb] at h3;omega)
  obtain ⟨t,rfl⟩:=qao (l:=x) (by simp [hb] at h1 h2;omega);have e:lay o [b] [t]=conv b t o.step:=by unfold lay;rw [if_neg oZ,if_neg oZ,if_pos hb];rfl
  rw [e] at h ⊢;unfold conv at h ⊢
  split at h
  ·rename_i ha
   rw [if_pos ha];unfold convErr at ha
   split at ha
   ·rename_i hrr
    simp only [Zz] at hrr;rw [qaO hc (by simp [(right_s hrr.1).1]) (by simp [(right_s hrr.2).1])];unfold Od.byKind;rw [if_neg oZ,if_neg oZ,if_pos hb];simp only [List.map_cons,List.map_nil,List.getD_cons_zero];exact Prod.ext rfl ha
   ·simp at ha
  ·rename_i ha;exact absurd h ha
 ·obtain rfl:=qau (l:=p) (by rw [if_neg oZ,if_neg oZ] at h3;omega)
  obtain ⟨t,rfl⟩:=qao (l:=x) (by simp [hb] at h1 h2;omega);have e:lay o [] [t]=pool true t o.width o.step:=by unfold lay;rw [if_neg oZ,if_neg oZ,if_neg oZ,if_pos hb];rfl
  rw [e] at h ⊢;unfold pool at h ⊢
  split at h
  ·rename_i ha
   rw [if_pos ha];unfold poolErr at ha
   split at ha
   ·rename_i hrr
    rw [qaO hc sZ (by simp [(right_s hrr).1])];unfold Od.byKind;rw [if_neg oZ,if_neg oZ,if_neg oZ,if_pos oZ];simp only [List.map_cons,List.map_nil,List.getD_cons_zero];exact Prod.ext rfl ha
   ·simp at ha
  ·rename_i ha;exact absurd h ha
 ·obtain rfl:=qau (l:=p) (by rw [if_neg oZ,if_neg oZ] at h3;omega)
  obtain ⟨t,rfl⟩:=qao (l:=x) (by simp [hb] at h1 h2;omega);have e:lay o [] [t]=pool false t o.width o.step:=by unfold lay;rw [if_neg oZ,if_neg oZ,if_neg oZ,if_neg oZ,if_pos hb];rfl
  rw [e] at h ⊢;unfold pool at h ⊢
  split at h
  ·rename_i ha
   rw [if_pos ha];unfold poolErr at ha
   split at ha
   ·rename_i hrr
    rw [qaO hc sZ (by simp [(right_s hrr).1])];unfold Od.byKind;rw [if_neg oZ,if_neg oZ,if_neg oZ,if_pos oZ];simp only [List.map_cons,List.map_nil,List.getD_cons_zero];exact Prod.ext rfl ha
   ·simp at ha
  ·rename_i ha;exact absurd h ha
 ·obtain rfl:=qau (l:=p) (by rw [if_neg oZ,if_neg oZ] at h3;omega)
  have e:lay o [] x=join o.side x:=by unfold lay;rw [if_neg oZ,if_neg oZ,if_neg oZ,if_neg oZ,if_neg oZ,if_pos hb]
  rw [e] at h ⊢;unfold join at h ⊢
  split at h
  ·rename_i ha
   rw [if_pos ha];obtain ⟨j1,j2⟩:=qe1 ha;rw [qaO hc sZ j2];unfold Od.byKind;rw [if_neg oZ,if_neg oZ,if_neg oZ,if_neg oZ,if_pos oZ,j1];exact Prod.ext rfl ha
  ·rename_i ha;exact absurd h ha
 ·obtain rfl:=qau (l:=p) (by rw [if_neg oZ,if_neg oZ] at h3;omega)
  obtain ⟨t,rfl⟩:=qao (l:=x) (by simp [hb] at h1 h2;omega);have e:lay o [] [t]=cut t o.side o.frm o.to:=by unfold lay;rw [if_neg oZ,if_neg oZ,if_neg oZ,if_neg oZ,if_neg oZ,if_neg oZ,if_pos hb];rfl
  rw [e] at h ⊢;unfold cut at h ⊢
  split at h
  ·rename_i hrr
   rw [if_pos hrr]
   split at h
   ·rename_i ha
    rw [if_pos ha];rw [qaO hc sZ (by simp [(right_s hrr).1])];unfold Od.byKind;rw [if_neg oZ,if_neg oZ,if_neg oZ,if_neg oZ,if_neg oZ,if_pos oZ];simp only [List.map_cons,List.map_nil,List.getD_cons_zero];exact Prod.ext rfl ha
   ·rename_i ha;exact absurd h ha
  ·simp at h
 ·obtain rfl:=qau (l:=p) (by rw [if_neg oZ,if_neg oZ] at h3;omega)
  obtain ⟨t,rfl⟩:=qao (l:=x) (by simp [hb] at h1 h2;omega);have e:lay o [] [t]=turn t o.s:=by unfold lay;rw [if_neg oZ,if_neg oZ,if_neg oZ,if_neg oZ,if_neg oZ,if_neg oZ,if_neg oZ,if_pos hb];rfl
  rw [e] at h ⊢;unfold turn of_ at h ⊢
  split at h
  ·rename_i hrr
   rw [if_pos hrr]
   split at h
   ·rename_i ha
    rw [if_pos ha];rw [qaO hc sZ (by simp [(right_s hrr).1])];unfold Od.byKind Od.turned;rw [if_neg oZ,if_neg oZ,if_neg oZ,if_neg oZ,if_neg oZ,if_neg oZ,if_pos oZ];have a1:=right_s hrr;have a2:=right_s ha;simp only [List.map_cons,List.map_nil,List.getD_cons_zero];rw [if_pos (by simp [a1.1,a2.1,←a2.2,←a1.2])]
   ·simp at h
  ·simp at h
theorem go_err {o:OpD} {p x:List Ten} (h:Od.counts o p.length x.length≠0):go o p x=(none_,Od.counts o p.length x.length):=by unfold go;rw [if_neg h]
theorem go_lay {o:OpD} {p x:List Ten} (h:Od.counts o p.length x.length=0):go o p x=lay o p x:=by unfold go;rw [if_pos h]
end Ly
namespace Ly
theorem dense_none {w b x:Ten} (h:(dense w b x).2≠0):(dense w b x).1=none_:=by
 unfold dense at h ⊢;split at h
 ·simp at h
 ·rename_i hc;rw [if_neg hc]
theorem add_none {a b:Ten} (h:(add a b).2≠0):(add a b).1=none_:=by
 unfold add at h ⊢;split at h
 ·simp at h
 ·rename_i hc;rw [if_neg hc]
theorem conv_none {w x:Ten} {st:Int} (h:(conv w x st).2≠0):(conv w x st).1=none_:=by
 unfold conv at h ⊢;split at h
 ·simp at h
 ·rename_i hc;rw [if_neg hc]
theorem pool_none {t:Bool} {x:Ten} {wd st:Int} (h:(pool t x wd st).2≠0):(pool t x wd st).1=none_:=by
 unfold pool at h ⊢;split at h
 ·simp at h
 ·rename_i hc;rw [if_neg hc]
theorem join_none {sd:Int} {x:List Ten} (h:(join sd x).2≠0):(join sd x).1=none_:=by
 unfold join at h ⊢;split at h
 ·simp at h
 ·rename_i hc;rw [if_neg hc]
theorem cut_none {x:Ten} {sd f t:Int} (h:(cut x sd f t).2≠0):(cut x sd f t).1=none_:=by
 unfold cut at h ⊢
 split at h
 ·rename_i h1
  rw [if_pos h1]
  split at h
  ·simp at h
  ·rename_i hc;rw [if_neg hc]
 ·rename_i hc;rw [if_neg hc]
theorem turn_none {x:Ten} {s:List Int} (h:(turn x s).2≠0):(turn x s).1=none_:=by
 unfold turn of_ at h ⊢
 split at h
 ·rename_i h1
  rw [if_pos h1]
  split at h
  ·simp at h
  ·rename_i hc;rw [if_neg hc]
 ·rename_i hc;rw [if_neg hc]
theorem point_none {k k0:Int} {x:List Ten} (h:(point k k0 x).2≠0):(point k k0 x).1=none_:=by
 unfold point at h ⊢;split at h
 ·simp at h
 ·rename_i hc;rw [if_neg hc]
theorem lay8 {o:OpD} {p x:List Ten} (h:o.kind=8):lay o p x=dense (got p 0) (got p 1) (got x 0):=by unfold lay;rw [if_pos h]
theorem lay9 {o:OpD} {p x:List Ten} (h:o.kind=9):lay o p x=add (got x 0) (got p 0):=by unfold lay;rw [if_neg oZ,if_pos h]
theorem lay10 {o:OpD} {p x:List Ten} (h:o.kind=10):lay o p x=conv (got p 0) (got x 0) o.step:=by unfold lay;rw [if_neg oZ,if_neg oZ,if_pos h]
theorem lay11 {o:OpD} {p x:List Ten} (h:o.kind=11):lay o p x=pool true (got x 0) o.width o.step:=by unfold lay;rw [if_neg oZ,if_neg oZ,if_neg oZ,if_pos h]
theorem lay12 {o:OpD} {p x:List Ten} (h:o.kind=12):lay o p x=pool false (got x 0) o.width o.step:=by unfold lay;rw [if_neg oZ,if_neg oZ,if_neg oZ,if_neg oZ,if_pos h]
theorem lay13 {o:OpD} {p x:List Ten} (h:o.kind=13):lay o p x=join o.side x:=by unfold lay;rw [if_neg oZ,if_neg oZ,if_neg oZ,if_neg oZ,if_neg oZ,if_pos h]
theorem lay14 {o:OpD} {p x:List Ten} (h:o.kind=14):lay o p x=cut (got x 0) o.side o.frm o.to:=by unfold lay;rw [if_neg oZ,if_neg oZ,if_neg oZ,if_neg oZ,if_neg oZ,if_neg oZ,if_pos h]
theorem lay15 {o:OpD} {p x:List Ten} (h:o.kind=15):lay o p x=turn (got x 0) o.s:=by unfold lay;rw [if_neg oZ,if_neg oZ,if_neg oZ,if_neg oZ,if_neg oZ,if_neg oZ,if_neg oZ,if_pos h]
theorem lay7 {o:OpD} {p x:List Ten} (h:o.kind<=7):lay o p x=point o.kind o.k x:=by unfold lay;rw [if_neg oZ,if_neg oZ,if_neg oZ,if_neg oZ,if_neg oZ,if_neg oZ,if_neg oZ,if_neg oZ]
theorem lay_none {o:OpD} {p x:List Ten} (hk:o.kind<=15) (h:(lay o p x).2≠0):(lay o p x).1=none_:=by
 have hb:o.kind<=7∨o.kind=8∨o.kind=9∨o.kind=10∨o.kind=11∨o.kind=12∨o.kind=13∨o.kind=14∨o.kind=15:=by omega
 rcases hb with ha|ha|ha|ha|ha|ha|ha|ha|ha
 ·rw [lay7 ha] at h ⊢;exact point_none h
 ·rw [lay8 ha] at h ⊢;exact dense_none h
 ·rw [lay9 ha] at h ⊢;exact add_none h
 ·rw [lay10 ha] at h ⊢;exact conv_none h
 ·rw [lay11 ha] at h ⊢;exact pool_none h
 ·rw [lay12 ha] at h ⊢;exact pool_none h
 ·rw [lay13 ha] at h ⊢;exact join_none h
 ·rw [lay14 ha] at h ⊢;exact cut_none h
 ·rw [lay15 ha] at h ⊢;exact turn_none h
end Ly
def GoU (r:Ten × Int) (w:Zp1) (e:Ending) (w':Zp1):Prop:=
 ∃S c C d,e=.returned (.tuple #[.agg #[.slice S r.1.s.length c,.slice C r.1.c.length d],.int .i64 r.2])/\
  (r.2≠0->.agg #[.slice S r.1.s.length c,.slice C r.1.c.length d]=Value.agg #[.slice none 0 0,.slice none 0 0])/\(r.2=0->TenO w.heap.size w' (.agg #[.slice S r.1.s.length c,.slice C r.1.c.length d]) r.1)/\Below w.heap.size w w'
theorem GoP.u {r:Ten × Int} {w w':Zp1} {e:Ending} (h:GoP r w e w') (hn:r.2≠0->r.1=Ly.none_):GoU r w e w':=by
 obtain ⟨h1|⟨h1,v,rfl,h3⟩,h2⟩:=h
 ·obtain ⟨h1,rfl⟩:=h1
  have e1:=hn h1;refine ⟨none,0,none,0,by rw [e1];rfl,λ_=>by rw [e1];rfl,λh=>absurd h h1,h2⟩
 ·have ha:=h3
  obtain ⟨S,c,C,d,rfl,_,_,_⟩:=h3;exact ⟨S,c,C,d,by rw [h1],λh=>absurd h1 h,λ_=>ha,h2⟩
theorem qac {P:Program} {f:FuncId} {args:Array Value} {r:Ten × Int} {w:Zp1} (h:Calls P f args w (GoP r w)) (hn:r.2≠0->r.1=Ly.none_):Calls P f args w (GoU r w):=h.mono λ_ _ hq=>hq.u hn
def GoB (r:Ly.Bk × Int) (w:Zp1) (e:Ending) (w':Zp1):Prop:=
 (r.2≠0/\e=.returned (.tuple #[.agg #[.slice none 0 0,.slice none 0 0],.int .i64 r.2])∨
  r.2=0/\∃A B,e=.returned (.tuple #[.agg #[.slice A r.1.p.length r.1.p.length,.slice B r.1.x.length r.1.x.length],.int .i64 0])/\TnsO w.heap.size w' A r.1.p/\TnsO w.heap.size w' B r.1.x)/\Below w.heap.size w w'
theorem GoB.fail {n:Int} {r:Ly.Bk × Int} {w w':Zp1} (hr:r=(Ly.bnone,n)) (hn:n≠0) (hb:Below w.heap.size w w'):GoB r w (.returned (.tuple #[.agg #[.slice none 0 0,.slice none 0 0],.int .i64 n])) w':=by
 subst hr;exact ⟨.inl ⟨hn,rfl⟩,hb⟩
theorem TnsO.nil (B:Nat) (w:Zp1):TnsO B w none []:=⟨λa e=>(by cases e),λj hj=>absurd hj sZ⟩
theorem TnsO.base {B B':Nat} {w:Zp1} {A:Option Addr} {ts:List Ten} (h:TnsO B w A ts) (hB:B'<=B):TnsO B' w A ts:=
 ⟨λa e=>by obtain ⟨b,h1,h2,h3,h4⟩:=h.1 a e;exact ⟨b,h1,by omega,h3,h4⟩,λj hj=>by obtain ⟨b,S,c,C,d,e,c0,c1,hO⟩:=h.2 j hj;exact ⟨b,S,c,C,d,e,c0,c1,hO.base hB⟩⟩
theorem TnsO.later {B:Nat} {w w':Zp1} {A:Option Addr} {ts:List Ten} (h:TnsO B w A ts) (hl:Later w w'):TnsO B w' A ts:=
 ⟨λa e=>by obtain ⟨b,h1,h2,h3,h4⟩:=h.1 a e;exact ⟨b,h1,h2,ltZ h3 hl.size,λk=>(Below.frozen hl (p:=⟨b,k,none⟩) h3).trans (h4 k)⟩,
  λj hj=>by obtain ⟨b,S,c,C,d,e,c0,c1,hO⟩:=h.2 j hj;exact ⟨b,S,c,C,d,e,hl.cell c0,hl.cell c1,hO.later hl⟩⟩
theorem qaD {w w':Zp1} {b:Nat} (h:w'.heap[b]? = w.heap[b]?) (k:Nat):w'.cell? ⟨b,k,none⟩=w.cell? ⟨b,k,none⟩:=Zi1 h
theorem TnsO.box {B p:Nat} {w:Zp1} {A:Option Addr} {ts:List Ten} {T:TypeId} (h:TnsO B w A ts) (hz:Blk w p T #[.slice none 0 0,.slice none 0 0]) (hA:∀a,A=some a->a.block≠p) (u u2:Value):
  TnsO B ((w.setCell ⟨p,0,none⟩ u).setCell ⟨p,1,none⟩ u2) A ts:=by
 refine ⟨λa e=>?_,λj hj=>?_⟩
 ·obtain ⟨b,h1,h2,h3,h4⟩:=h.1 a e
  exact ⟨b,h1,h2,by simpa using h3,λk=>by rw [World.frozen?_setCell,World.frozen?_setCell];exact h4 k⟩
 ·obtain ⟨b,S,c,C,d,e,c0,c1,hO⟩:=h.2 j hj
  have hb:=hA _ e;have e0:=qaD (w:=w) (w':=(w.setCell ⟨p,0,none⟩ u).setCell ⟨p,1,none⟩ u2) (b:=b) (qcC hb u u2);exact ⟨b,S,c,C,d,e,(e0 _).trans c0,(e0 _).trans c1,hO.box hz⟩
namespace Ly
theorem back_err {o:OpD} {p x:List Ten} {g:Ten} (h:Od.counts o p.length x.length≠0):back o p x g=(bnone,Od.counts o p.length x.length):=by unfold back;rw [if_neg h]
theorem back_lay {o:OpD} {p x:List Ten} {g:Ten} (h:Od.counts o p.length x.length=0):back o p x g=layBack o p x g:=by unfold back;rw [if_pos h]
theorem layBack7 {o:OpD} {p x:List Ten} {g:Ten} (h:o.kind<=7):layBack o p x g=bseveral (pointBack o.kind o.k g x):=by
 unfold layBack;rw [if_neg oZ,if_neg oZ,if_neg oZ,if_neg oZ,if_neg oZ,if_neg oZ,if_neg oZ,if_neg oZ]
end Ly
theorem qfb (kind k0:Int) (A GS GC:Option Addr) (f gc gd:Nat) (g:Ten) (x:List Ten) (w:Zp1) (hn:x.length=1∨x.length=2) (hT:Tns w A x) (hG:TenIn w GS GC gc gd g) (hk0:Fx.In k0):
  Calls Tryz.prog 18 #[.int .i64 kind,.int .i64 k0,.agg #[.slice GS g.s.length gc,.slice GC g.c.length gd],.slice A x.length f] w (GoL (Ly.pointBack kind k0 g x) w):=by
 rcases hn with h|h
 ·exact qeq kind k0 A GS GC f gc gd g x w h hT hG hk0
 ·exact qer kind k0 A GS GC f gc gd g x w h hT hG hk0
theorem qbQ (A:Option Addr) (n c:Nat) (w:Zp1):
  Calls Tryz.prog 48 #[.slice A n c,.int .i64 0] w λe w'=>e=.returned (.tuple #[.agg #[.slice none 0 0,.slice A n c],.int .i64 0])/\Below w.heap.size w w':=by
 have hz:=Blk.new w 38 #[.slice none 0 0,.slice none 0 0];have hb:Later w (w.alloc (.cells #[.slice none 0 0,.slice none 0 0] 38)):=(Later.refl w).alloc _;obtain ⟨Hz,hc⟩:=zd2 hz hb;clear hz hb;go_enter Tryz.func48,Tryz.ntmps48;go_upto_region 1 with fail;generalize w.alloc (.cells #[.slice none 0 0,.slice none 0 0] 38)=w1 at *;have c0:=Hz.out.cell 0;have c1:=Hz.out.cell 1;have f0:=Hz.out.frozen 0;have f1:=Hz.out.frozen 1;have ha:=(Hz.out.set_ 0 (.slice none 0 0)).set_ 1 (.slice A n c);have d0:=ha.cell 0;have d1:=ha.cell 1;simp at c0 c1 d0 d1;go_wp2_with fail;refine Zk1 (v:=.tuple #[.agg #[.slice none 0 0,.slice A n c],.int .i64 0]) (by simp [results,Tryz.results48,go_sem,d0,d1]) rfl ?_;exact ⟨rfl,(hc.out.set (p:=⟨w.heap.size,0,none⟩) (lrZ _) _).set (p:=⟨w.heap.size,1,none⟩) (lrZ _) _⟩
theorem qbR (A:Option Addr) (n c:Nat) (er:Int) (w:Zp1) (he:er≠0):
  Calls Tryz.prog 48 #[.slice A n c,.int .i64 er] w λe w'=>e=.returned (.tuple #[.agg #[.slice none 0 0,.slice none 0 0],.int .i64 er])/\Below w.heap.size w w':=by
 have hz:=Blk.new w 38 #[.slice none 0 0,.slice none 0 0];have hb:Later w (w.alloc (.cells #[.slice none 0 0,.slice none 0 0] 38)):=(Later.refl w).alloc _;have e1:(er != 0)=true:=by simpa using he
 have e2:(er==0)=false:=by simpa using he
 obtain ⟨Hz,hc⟩:=zd2 hz hb;clear hz hb;go_enter Tryz.func48,Tryz.ntmps48;go_upto_region 1 with fail;generalize w.alloc (.cells #[.slice none 0 0,.slice none 0 0] 38)=w1 at *;have c0:=Hz.out.cell 0;have c1:=Hz.out.cell 1;have f0:=Hz.out.frozen 0;have f1:=Hz.out.frozen 1;have ha:=(Hz.out.set_ 0 (.slice none 0 0)).set_ 1 (.slice none 0 0);have d0:=ha.cell 0;have d1:=ha.cell 1;simp at c0 c1 d0 d1;go_wp2_with fail;refine Zk1 (v:=.tuple #[.agg #[.slice none 0 0,.slice none 0 0],.int .i64 er]) (by simp [results,Tryz.results48,go_sem,d0,d1]) rfl ?_;exact ⟨rfl,(hc.out.set (p:=⟨w.heap.size,0,none⟩) (lrZ _) _).set (p:=⟨w.heap.size,1,none⟩) (lrZ _) _⟩
theorem qay (w:Zp1) (o:OpD) (S:Option Addr) (c:Nat) (GS GC:Option Addr) (gc gd:Nat) (g:Ten):
  ∃w1,((w.alloc (.cells #[.int .i64 o.kind,.int .i64 o.k,.int .i64 o.width,.int .i64 o.step,.int .i64 o.side,.int .i64 o.frm,.int .i64 o.to,.slice S o.s.length c] 26)).alloc (.cells #[.slice GS g.s.length gc,.slice GC g.c.length gd] 30)).alloc (.cells #[.slice none 0 0,.slice none 0 0] 38)=w1/\Blk w1 w.heap.size 26 #[.int .i64 o.kind,.int .i64 o.k,.int .i64 o.width,.int .i64 o.step,.int .i64 o.side,.int .i64 o.frm,.int .i64 o.to,.slice S o.s.length c]/\Blk w1 (w.heap.size+1) 30 #[.slice GS g.s.length gc,.slice GC g.c.length gd]/\Blk w1 (w.heap.size+1+1) 38 #[.slice none 0 0,.slice none 0 0]/\Later w w1:=by
 have h2:=(Blk.new (w.alloc (.cells #[.int .i64 o.kind,.int .i64 o.k,.int .i64 o.width,.int .i64 o.step,.int .i64 o.side,.int .i64 o.frm,.int .i64 o.to,.slice S o.s.length c] 26)) 30 #[.slice GS g.s.length gc,.slice GC g.c.length gd]).alloc (.cells #[.slice none 0 0,.slice none 0 0] 38);have h3:=Blk.new ((w.alloc (.cells #[.int .i64 o.kind,.int .i64 o.k,.int .i64 o.width,.int .i64 o.step,.int .i64 o.side,.int .i64 o.frm,.int .i64 o.to,.slice S o.s.length c] 26)).alloc (.cells #[.slice GS g.s.length gc,.slice GC g.c.length gd] 30)) 38 #[.slice none 0 0,.slice none 0 0];simp only [Zh1] at h2 h3;exact ⟨_,rfl,((Blk.new w 26 #[.int .i64 o.kind,.int .i64 o.k,.int .i64 o.width,.int .i64 o.step,.int .i64 o.side,.int .i64 o.frm,.int .i64 o.to,.slice S o.s.length c]).alloc _).alloc _,h2,h3,(((Later.refl w).alloc _).alloc _).alloc _⟩
set_option maxRecDepth 20000 in
theorem op_back7 (o:OpD) (S P X GS GC:Option Addr) (c cp cx gc gd:Nat) (p x:List Ten) (g:Ten) (w:Zp1) (hk:o.kind<=7) (ho:o.s.length<=1048576) (hI:Ints .i64 w S o.s) (hk0:Fx.In o.k) (hX:Tns w X x) (lX:x.length<=1048576) (hG:TenIn w GS GC gc gd g):
  Calls Tryz.prog 11 #[.agg #[.int .i64 o.kind,.int .i64 o.k,.int .i64 o.width,.int .i64 o.step,.int .i64 o.side,.int .i64 o.frm,.int .i64 o.to,.slice S o.s.length c],.slice P p.length cp,.slice X x.length cx,.agg #[.slice GS g.s.length gc,.slice GC g.c.length gd]] w (GoB (Ly.back o p x g) w):=by
 obtain ⟨w1,e1,hv,hu,hK,hQ⟩:=qay w o S c GS GC gc gd g;obtain ⟨HI,HX,HG,hy,ht,hw,hN,hY,hM⟩:=zd9 hI hX hG hQ hv hu hK hk0 e1;clear hI hX hG hQ hv hu hK hk0 e1;go_enter Tryz.func11,Tryz.ntmps11;go_wp2_with fail;rw [hM.out];clear hM;refine (qat o S c p.length x.length w1 oZ (HI.out.below hy.out (lrZ _))).mono ?_;rintro e w2 ⟨rfl,hL⟩;have hq:Later w1 w2:=hL;have hH:=hy.out.trans hq;have hz:=hq.blk hN.out;have hg:=hq.blk ht.out;have hi:=hq.blk hw.out;clear hL hq hy hN ht hw
 by_cases hc:Od.counts o p.length x.length=0
 case neg=>
  have HE:=zI (Ly.back_err (g:=g) hc);have Hc:=zI hc;have d2:(Od.counts o p.length x.length != 0)=true:=by simpa using hc
  clear hc;generalize Od.counts o p.length x.length=ge at *;have c0':=hz.cell 0;have c1':=hz.cell 1;have f0:=hz.frozen 0;have f1:=hz.frozen 1;have ha:=(hz.set_ 0 (.slice none 0 0)).set_ 1 (.slice none 0 0);have d0:=ha.cell 0;have d1:=ha.cell 1;simp at c0' c1' d0 d1;obtain ⟨HH,Hz,hU,h4,hE⟩:=zd5 hH hz hg hi ha;clear hH hz hg hi ha;go_wp2_with fail;refine Zk1 (v:=.tuple #[.agg #[.slice none 0 0,.slice none 0 0],.int .i64 ge]) (by simp [results,Tryz.results11,go_sem,d0,d1]) rfl ?_;exact GoB.fail HE.out Hc.out ((HH.out.set (p:=⟨w.heap.size+2,0,none⟩) sZ _).set (p:=⟨w.heap.size+2,1,none⟩) sZ _)
 have hs:=Ly.counts_ok hc;have h7:=Od.right_kind hs.1
 have hC:x.length=1∨x.length=2:=by
  have h1:=hs.2.1;have h2:=hs.2.2.1;unfold Od.least Od.ptIns at h1;unfold Od.most Od.ptIns at h2;rw [if_pos hs.1,if_pos hk] at h1 h2
  split at h1
  ·rename_i hh;rw [if_pos hh] at h2;omega
  ·rename_i hh
   rw [if_neg hh] at h2
   split at h1
   ·rename_i h3;rw [if_pos h3] at h2;omega
   ·omega
 have HE:=zI ((Ly.back_lay (g:=g) hc).trans (Ly.layBack7 hk));rw [hc];clear hs hc;have x0:w2.cell? ⟨w.heap.size,0,none⟩=some (.int .i64 o.kind):=by rw [hg.cell];rfl
 have x1:w2.cell? ⟨w.heap.size,1,none⟩=some (.int .i64 o.k):=by rw [hg.cell];rfl
 have g0:=hi.cell 0;have g1:=hi.cell 1;simp at g0 g1;have k8:(o.kind==8)=false:=by rw [beq_eq_false_iff_ne];omega
 have k9:(o.kind==9)=false:=by rw [beq_eq_false_iff_ne];omega
 have k10:(o.kind==10)=false:=by rw [beq_eq_false_iff_ne];omega
 have k11:(o.kind==11)=false:=by rw [beq_eq_false_iff_ne];omega
 have k12:(o.kind==12)=false:=by rw [beq_eq_false_iff_ne];omega
 have k13:(o.kind==13)=false:=by rw [beq_eq_false_iff_ne];omega
 have k14:(o.kind==14)=false:=by rw [beq_eq_false_iff_ne];omega
 have k15:(o.kind==15)=false:=by rw [beq_eq_false_iff_ne];omega
 have hb:=qfb o.kind o.k X GS GC cx gc gd g x w2 hC (HX.out.later hH) (HG.out.later hH) hY.out;obtain ⟨R,hR⟩:∃R,Ly.pointBack o.kind o.k g x=R:=⟨_,rfl⟩
 rw [hR] at hb HE;obtain ⟨HH,Hz,hU,h4,hr,h9,HR⟩:=zd7 hH hz hg hi hb hC hR;clear hH hz hg hi hb hC hR;go_wp2_with fail;refine (hr.out).mono ?_;rintro e w3 ⟨⟨hA,rfl⟩|⟨h0,A,rfl,hO⟩,hx⟩
 ·have hf:Later w2 w3:=hx
  have hp:Ly.bseveral R=(Ly.bnone,R.2):=by unfold Ly.bseveral;rw [if_neg hA]
  rw [hp] at HE;have hj:=HH.out.trans hf;have hl:=hf.blk Hz.out;have hP:=zI hA;clear hx x0 x1 g0 g1 k8 k9 k10 k11 k12 k13 k14 k15 hA hp;generalize R.2=ge at *;obtain ⟨h6,hB,hJ⟩:=zd3 hf hj hl;clear hf hj hl;go_wp2_with fail;refine (qbR none 0 0 ge w3 hP.out).mono ?_;rintro e w4 ⟨rfl,hm⟩;have hd:Later w3 w4:=hm;have hn:=hB.out.trans hd;have ha:=hd.blk hJ.out;have c0':=ha.cell 0;have c1':=ha.cell 1;have f0:=ha.frozen 0;have f1:=ha.frozen 1;have he:=(ha.set_ 0 (.slice none 0 0)).set_ 1 (.slice none 0 0);have d0:=he.cell 0;have d1:=he.cell 1;simp at c0' c1' d0 d1;clear hm;obtain ⟨hV,hD,hE,h5⟩:=zd4 hd hn ha he;clear hd hn ha he;go_wp2_with fail;refine Zk1 (v:=.tuple #[.agg #[.slice none 0 0,.slice none 0 0],.int .i64 ge]) (by simp [results,Tryz.results11,go_sem,d0,d1]) rfl ?_;exact GoB.fail HE.out hP.out ((hD.out.set (p:=⟨w.heap.size+2,0,none⟩) sZ _).set (p:=⟨w.heap.size+2,1,none⟩) sZ _)
 ·have hf:Later w2 w3:=hx
  have hp:Ly.bseveral R=(⟨[],R.1⟩,0):=by unfold Ly.bseveral;rw [if_pos h0]
  rw [hp] at HE;have hj:=HH.out.trans hf;have hl:=hf.blk Hz.out;have h8:=Hz.out.lt;have hZ:=HH.out.size;clear hx x0 x1 g0 g1 k8 k9 k10 k11 k12 k13 k14 k15 hp h0;obtain ⟨h6,hB,hJ,HO⟩:=zd4 hf hj hl hO;clear hf hj hl hO;go_wp2_with fail;refine (qbQ A R.1.length R.1.length w3).mono ?_;rintro e w4 ⟨rfl,hm⟩;have hd:Later w3 w4:=hm;have hn:=hB.out.trans hd;have ha:=hd.blk hJ.out;have hF:=HO.out.later hd
  have hS:∀a,A=some a->a.block≠w.heap.size+2:=λa e=>by
   obtain ⟨b,h1,h2,-,-⟩:=hF.1 a e;rw [h1]
   show b≠_
   omega
  have c0':=ha.cell 0;have c1':=ha.cell 1;have f0:=ha.frozen 0;have f1:=ha.frozen 1;have he:=(ha.set_ 0 (.slice none 0 0)).set_ 1 (.slice A R.1.length R.1.length);have d0:=he.cell 0;have d1:=he.cell 1;simp at c0' c1' d0 d1;clear hm;obtain ⟨hV,hD,hE,h5,hT,hW⟩:=zd6 hd hn ha he hF hS;clear hd hn ha he hF hS;go_wp2_with fail;refine Zk1 (v:=.tuple #[.agg #[.slice none 0 0,.slice A R.1.length R.1.length],.int .i64 0]) (by simp [results,Tryz.results11,go_sem,d0,d1]) rfl ?_;rw [HE.out];exact ⟨.inr ⟨rfl,none,A,rfl,TnsO.nil _ _,(hT.out.base hZ).box hE.out hW.out _ _⟩,(hD.out.set (p:=⟨w.heap.size+2,0,none⟩) sZ _).set (p:=⟨w.heap.size+2,1,none⟩) sZ _⟩
theorem qb2:(Tryz.prog.info? 30).map (λi=>(i.zero,i.size,i.bytes))=some (some (.agg #[.slice none 0 0,.slice none 0 0]),2,48):=by kernel_rfl
theorem qb3 (k:Nat):(madeCells #[Zb1 none 0 0,Zb1 none 0 0] k).toList=Zc k (Zb1 none 0 0):=by
 unfold madeCells;rw [Array.toList_map,Array.toList_range];apply List.ext_getElem
 ·simp
 ·intro i h1 h2
  simp only [List.getElem_map,List.getElem_range,List.getElem_replicate];rcases Nat.mod_two_eq_zero_or_one i with e|e
  ·simp [e]
  ·simp [e]
theorem qc7 {w:Zp1} {B e size n g:Nat} {xs:List Value} (h:w.ownsRow B e size (.slice (some ⟨g,0,none⟩) n n) n xs):Blk w g e xs.toArray:=by
 rcases h.2 with ⟨h1,_⟩|⟨g',cap,cur,e1,_,hh,_,_,hs,ht⟩
 ·cases h1
 ·injection e1 with e1 _ e2
  injection e1 with e1
  injection e1 with e1 _ _
  subst e1 e2;have:cur.toList=xs:=by rw [←ht,List.take_of_length_le soZ]
  rw [←this];exact hh
theorem RowT.tnsB {w w':Zp1} {vs:List Value} {ts:List Ten} {G:Nat} {t:TypeId} (h:RowT w vs ts) (hb:Below w.heap.size w w') (hG:Blk w' G t vs.toArray):Tns w' (some ⟨G,0,none⟩) ts:=λj hj=>by
 obtain ⟨S,c,C,d,e1,e2,e3⟩:=h.2 j hj;refine ⟨G,0,S,c,C,d,rfl,hG.lt,?_,?_,e3.below hb (lrZ _)⟩
 ·rw [Zw,hG.cell];simpa using e1
 ·rw [Zw,hG.cell];simpa using e2
theorem fill_two {vs:List Value} {m k:Nat} {a b z:Value} (hl:vs.length=k*2) (hk:k<m):
  (((vs++Zc ((m-k)*2) z).set (k*2) a).set (k*2+1) b)=(vs++[a,b])++Zc ((m-(k+1))*2) z:=by
 have e:(m-k)*2=(m-(k+1))*2+1+1:=by omega
 rw [e,List.replicate_succ,List.replicate_succ,List.set_append_right _ _ oZ,hl,Nat.sub_self,List.set_cons_zero,List.set_append_right _ _ oZ,hl,Nat.add_sub_cancel_left,List.set_cons_succ,List.set_cons_zero,List.append_assoc]
 rfl
def RowO (B:Nat) (w:Zp1) (vs:List Value) (ts:List Ten):Prop:=
 vs.length=ts.length*2/\∀j (hj:j<ts.length),∃S c C d,vs[j*2]? = some (.slice S ts[j].s.length c)/\vs[j*2+1]? = some (.slice C ts[j].c.length d)/\TenO B w (.agg #[.slice S ts[j].s.length c,.slice C ts[j].c.length d]) ts[j]
theorem RowO.later {B:Nat} {w w':Zp1} {vs:List Value} {ts:List Ten} (h:RowO B w vs ts) (hl:Later w w'):RowO B w' vs ts:=
 ⟨h.1,λj hj=>by obtain ⟨S,c,C,d,e1,e2,e3⟩:=h.2 j hj;exact ⟨S,c,C,d,e1,e2,e3.later hl⟩⟩
theorem TenO.ten {B:Nat} {w:Zp1} {S C:Option Addr} {c d:Nat} {t:Ten} (h:TenO B w (.agg #[.slice S t.s.length c,.slice C t.c.length d]) t):TenIn w S C c d t:=by
 obtain ⟨S',c',C',d',e,hT,-,-⟩:=h;simp at e;obtain ⟨⟨rfl,rfl⟩,rfl,rfl⟩:=e;exact hT
theorem RowO.rowT {B:Nat} {w:Zp1} {vs:List Value} {ts:List Ten} (h:RowO B w vs ts):RowT w vs ts:=
 ⟨h.1,λj hj=>by obtain ⟨S,c,C,d,e1,e2,e3⟩:=h.2 j hj;exact ⟨S,c,C,d,e1,e2,e3.ten⟩⟩
theorem RowO.set {B:Nat} {w:Zp1} {vs:List Value} {ts:List Ten} {S C:Option Addr} {c d k:Nat} {t:Ten} (h:RowO B w vs ts) (hk:k<ts.length) (ht:TenO B w (.agg #[.slice S t.s.length c,.slice C t.c.length d]) t):
  RowO B w ((vs.set (k*2) (.slice S t.s.length c)).set (k*2+1) (.slice C t.c.length d)) (ts.set k t):=by
 have hl:=h.1;refine ⟨by simp [hl],λj hj=>?_⟩;rw [List.length_set] at hj
 by_cases e:j=k
 ·subst e
  refine ⟨S,c,C,d,?_,?_,?_⟩
  ·rw [Zs oZ,Zr oZ];simp
  ·rw [Zr soZ];simp
  ·simpa using ht
 ·obtain ⟨S',c',C',d',e1,e2,e3⟩:=h.2 j hj
  have e4:(ts.set k t)[j]'(by simpa using hj)=ts[j]:=by rw [List.getElem_set_ne (λq=>e q.symm)]
  refine ⟨S',c',C',d',?_,?_,?_⟩
  ·rw [e4,Zs oZ,Zs oZ];exact e1
  ·rw [e4,Zs oZ,Zs oZ];exact e2
  ·rw [e4];exact e3
theorem qga (B:Nat) (w:Zp1):TenO B w (.agg #[.slice none Ly.none_.s.length 0,.slice none Ly.none_.c.length 0]) Ly.none_:=
 ⟨none,0,none,0,rfl,⟨⟨Ints.nil,Ints.nil⟩,lrZ _,by omega,lrZ _,by omega,by simp [Ly.none_],by simp [Ly.none_],by intro z hz;simp [Ly.none_] at hz⟩,λa e=>(by cases e),λa e=>(by cases e)⟩
theorem RowO.zeros (B:Nat) (w:Zp1) (m:Nat):RowO B w (Zc (m*2) (Zb1 none 0 0)) (Zc m Ly.none_):=by
 refine ⟨by simp,λj hj=>?_⟩;rw [List.length_replicate] at hj;refine ⟨none,0,none,0,?_,?_,?_⟩
 ·rw [List.getElem?_replicate,if_pos oZ];simp [Ly.none_]
 ·rw [List.getElem?_replicate,if_pos oZ];simp [Ly.none_]
 ·rw [List.getElem_replicate];exact qga B w
theorem RowO.tnsO {B G:Nat} {w:Zp1} {vs:List Value} {ts:List Ten} {t:TypeId} (h:RowO B w vs ts) (hG:Blk w G t vs.toArray) (hB:B<=G):TnsO B w (some ⟨G,0,none⟩) ts:=by
 refine ⟨λa e=>?_,λj hj=>?_⟩
 ·injection e with e;subst e;exact ⟨G,rfl,hB,hG.lt,λk=>hG.frozen k⟩
 ·obtain ⟨S,c,C,d,e1,e2,e3⟩:=h.2 j hj
  exact ⟨G,S,c,C,d,rfl,by rw [hG.cell];simpa using e1,by rw [hG.cell];simpa using e2,e3⟩
theorem Tns.part {w:Zp1} {b off:Nat} {ts:List Ten} (h:Tns w (some ⟨b,off,none⟩) ts) (k m:Nat):Tns w (some ⟨b,off+k*2,none⟩) ((ts.drop k).take m):=λj hj=>by
 have ha:k+j<ts.length:=by simp at hj;omega
 obtain ⟨b',off',S,c,C,d,e,hl,c0,c1,hT⟩:=h (k+j) ha;injection e with e
 injection e with e1 e2
 subst e1 e2;have eg:((ts.drop k).take m)[j]=ts[k+j]:=by simp
 refine ⟨b,off+k*2,S,c,C,d,rfl,hl,?_,?_,?_⟩
 ·rw [eg,show off+k*2+j*2=off+(k+j)*2 by omega];exact c0
 ·rw [eg,show off+k*2+j*2+1=off+(k+j)*2+1 by omega];exact c1
 ·rw [eg];exact hT
theorem TenO.far2 {B:Nat} {w:Zp1} {S C:Option Addr} {c d p:Nat} {u u2:Value} {t:Ten} (h:TenO B w (.agg #[.slice S t.s.length c,.slice C t.c.length d]) t) (hS:∀a,S=some a->a.block≠p) (hC:∀a,C=some a->a.block≠p):
  TenO B ((w.setCell ⟨p,0,none⟩ u).setCell ⟨p,1,none⟩ u2) (.agg #[.slice S t.s.length c,.slice C t.c.length d]) t:=by
 obtain ⟨S',c',C',d',e,hT,h1,h2⟩:=h;simp at e;obtain ⟨⟨rfl,rfl⟩,rfl,rfl⟩:=e
 have hi:∀ {A:Option Addr} {l:List Int},(∀a,A=some a->a.block≠p)->Ints .i64 w A l->Ints .i64 ((w.setCell ⟨p,0,none⟩ u).setCell ⟨p,1,none⟩ u2) A l:=fun {A l} hA hI j hj=>by
  obtain ⟨b,off,e,hl,hc⟩:=hI j hj;exact ⟨b,off,e,by simpa using hl,(qaD (qcC (hA _ e) u u2) _).trans hc⟩
 refine ⟨S,c,C,d,rfl,{ hT with r:=⟨hi hS hT.r.1,hi hC hT.r.2⟩ },h1,λa e=>?_⟩;obtain ⟨k1,k2,k3⟩:=h2 a e;exact ⟨k1,by simpa using k2,λj=>by rw [World.frozen?_setCell,World.frozen?_setCell];exact k3 j⟩
theorem Ints.off {w:Zp1} {A:Option Addr} {l:List Int} {p i k:Nat} {T:TypeId} {vs:List Value} (h:Ints .i64 w A l) (hz:Blk w p T vs.toArray) (hv:∀u∈vs,∃A n c,u=Zb1 A n c) (u u2:Value):Ints .i64 ((w.setCell ⟨p,i,none⟩ u).setCell ⟨p,k,none⟩ u2) A l:=λj hj=>by
 obtain ⟨b,off,e,hl,hc⟩:=h j hj
 have ha:b≠p:=by
  rintro rfl;rw [hz.cell,Zk] at hc;obtain ⟨_,_,_,e2⟩:=hv _ (List.mem_of_getElem? hc);cases e2
 exact ⟨b,off,e,by simpa using hl,(qaD ((Below.heap_setCell _ ⟨p,k,none⟩ u2 b ha).trans (Below.heap_setCell w ⟨p,i,none⟩ u b ha)) _).trans hc⟩
theorem TenO.off {B p i k:Nat} {w:Zp1} {v:Value} {t:Ten} {T:TypeId} {vs:List Value} (h:TenO B w v t) (hz:Blk w p T vs.toArray) (hv:∀u∈vs,∃A n c,u=Zb1 A n c) (u u2:Value):TenO B ((w.setCell ⟨p,i,none⟩ u).setCell ⟨p,k,none⟩ u2) v t:=by
 obtain ⟨S,c,C,d,h1,h2,h3,h4⟩:=h;refine ⟨S,c,C,d,h1,{ h2 with r:=⟨h2.r.1.off hz hv u u2,h2.r.2.off hz hv u u2⟩ },h3,λa e=>?_⟩;obtain ⟨k1,k2,k3⟩:=h4 a e;exact ⟨k1,by simpa using k2,λj=>by rw [World.frozen?_setCell,World.frozen?_setCell];exact k3 j⟩
theorem RowO.off {B p i k:Nat} {w:Zp1} {us:List Value} {ts:List Ten} {T:TypeId} {vs:List Value} (h:RowO B w us ts) (hz:Blk w p T vs.toArray) (hv:∀u∈vs,∃A n c,u=Zb1 A n c) (u u2:Value):RowO B ((w.setCell ⟨p,i,none⟩ u).setCell ⟨p,k,none⟩ u2) us ts:=
 ⟨h.1,λj hj=>by obtain ⟨S,c,C,d,e1,e2,e3⟩:=h.2 j hj;exact ⟨S,c,C,d,e1,e2,e3.off hz hv u u2⟩⟩
theorem qaW {P:Program} {ρ:Operand->Value} {o:Oper} {w:Zp1} {t e:TypeId} {x lo hi:Operand} {A:Option Addr} {n c l m:Nat} (ho:o.op=.slice t x (some lo) (some hi) none)
  (hu:P.underlying t=some (.slice e)) (hs:(P.info? e).map (·.size)=some 2) (hx:ρ x=.slice A n c) (hl:ρ lo=.int .i64 (l:Int)) (hh:ρ hi=.int .i64 ((l:Int)+(m:Int))) (hc:l+m<=c):
  (execOp ρ o).run P w=.ok (.value (.slice (if c=l then A else A.map λa=>a.add (l*2)) m (c-l))) w:=by
 cases hq:P.info? e with
 | none=>simp [hq] at hs
 | some i=>
  have hb:i.size=2:=by simpa [hq] using hs
  have e1:(0:Int)<=(l:Int):=by omega
  have e2:(0:Int)<=(l:Int)+(m:Int):=by omega
  have e3:(l:Int)+(m:Int)<=(c:Int):=by omega
  have e4:(l:Int)<=(((l:Int)+(m:Int)).toNat:Int):=by omega
  have e5:((l:Int)+(m:Int)).toNat-l=m:=by omega
  have he:P.elem t=e:=by simp [Program.elem,hu]
  have ha:P.underlying t=some (.slice (P.elem t)):=by rw [he];exact hu
  have hr:(Instr.sliceAt t (Zb1 A n c) (some (Za1 .i64 (l:Int))) (some (Za1 .i64 ((l:Int)+(m:Int)))) none).run P w=.ok (.slice (if c=l then A else A.map λa=>a.add (l*2)) m (c-l)) w:=by
   rw [run_sliceAt_slice (h:=ha),run_slice_lh (ht:=ha) (h0:=e1) (h1:=by omega) (h2:=e3),he];simp [sizeOf,typeInfo,hq,hb,sliced,Result.andThen,e5]
  unfold execOp;simp [ho,hx,hl,hh,hr,Result.andThen]
theorem qd3 {w:Zp1} {P:Option Addr} {ps:List Ten} {cp fr tl:Nat} (hP:Tns w P ps) (kP:ps.length<=cp) (nP:P=none->cp=0) (h1:fr<=tl) (h2:tl<=ps.length):
  Tns w (if cp=fr then P else P.map λa=>a.add (fr*2)) ((ps.drop fr).take (tl-fr)):=by
 by_cases he:fr=tl
 ·subst he
  rw [Nat.sub_self,List.take_zero];exact Tns.nil _ _
 ·rw [if_neg oZ]
  obtain ⟨b,off,S,c,C,d,rfl,-⟩:=hP 0 oZ;have:=hP.part fr (tl-fr);simpa [qaN] using this
def FwCut (w0:Zp1) (B:Nat) (R:Ten × Int) (a b:Value) (wx:Zp1):Prop:=
 ∃S c C d tb,a=.pointer (some ⟨tb,0,none⟩)/\b=.int .i64 R.2/\Blk wx tb 30 #[.slice S R.1.s.length c,.slice C R.1.c.length d]/\(R.2=0->TenO B wx (.agg #[.slice S R.1.s.length c,.slice C R.1.c.length d]) R.1)/\Later w0 wx
namespace Pn
def from_ (ns:List NodeD) (k:Nat):Nat:=((ns.take k).flatMap (·.p)).length
def part (n:NetD) (id:Int):Int × Int:=if id<1∨(n.nodes.length:Int)<id then (0,0) else ((from_ n.nodes (id.toNat-1):Int),(from_ n.nodes id.toNat:Int))
def pickT (vals:List Ten) (ins:List Int):List Ten:=ins.map λi=>Ly.got vals i.toNat
theorem from_succ {ns:List NodeD} {k:Nat} (h:k<ns.length):from_ ns (k+1)=from_ ns k+ns[k].p.length:=by
 unfold from_;rw [Zb h,Zj,Ze];simp
end Pn
set_option maxRecDepth 20000 in
theorem qd4 (A N:Option Addr) (c d:Nat) (n:NetD) (id:Int) (w:Zp1) (hok:n.ok) (hR:NetR w A N n) (hd:n.nodes.length<=d) (hi1 : -9223372036854775808<=id) (hi2:id<=9223372036854775807):
  Calls Tryz.prog 72 #[.agg #[.slice A n.inn.length c,.slice N n.nodes.length d],.int .i64 id] w λe w'=>e=.returned (.tuple #[.int .i64 (Pn.part n id).1,.int .i64 (Pn.part n id).2])/\Below w.heap.size w w':=by
 have hp:=Blk.new w 59 #[.slice A n.inn.length c,.slice N n.nodes.length d];have hq:Later w (w.alloc (.cells #[.slice A n.inn.length c,.slice N n.nodes.length d] 59)):=(Later.refl w).alloc _;have hy:=hok.2.1;have hh:∀k,Pn.from_ n.nodes k<=k*1048576:=λk=>qcV hok k
 obtain ⟨ho,HR,ht,he,hj⟩:=zd5 hok hR hp hq hh;clear hok hR hp hq hh;go_enter Tryz.func72,Tryz.ntmps72;go_upto_region 1 with fail;generalize w.alloc (.cells #[.slice A n.inn.length c,.slice N n.nodes.length d] 59)=w1 at *;have a1:=ht.out.cell 1;simp at a1
 by_cases h1:id<1
 ·have HE:=zI (show Pn.part n id=(0,0) by unfold Pn.part;rw [if_pos (.inl h1)])
  have d1:decide (id<1)=true:=by simpa using h1
  go_wp2_with fail;refine Zk1 (v:=.tuple #[.int .i64 0,.int .i64 0]) (by simp [results,Tryz.results72,go_sem]) rfl ?_;rw [HE.out];exact ⟨rfl,he.out⟩
 have d1:decide (id<1)=false:=by simpa using h1
 by_cases h2:(n.nodes.length:Int)<id
 ·have HE:=zI (show Pn.part n id=(0,0) by unfold Pn.part;rw [if_pos (.inr h2)])
  have d2:decide ((n.nodes.length:Int)<id)=true:=by simpa using h2
  go_wp2_with fail;refine Zk1 (v:=.tuple #[.int .i64 0,.int .i64 0]) (by simp [results,Tryz.results72,go_sem]) rfl ?_;rw [HE.out];exact ⟨rfl,he.out⟩
 have d2:decide ((n.nodes.length:Int)<id)=false:=by simpa using h2
 obtain ⟨m,rfl⟩:∃m:Nat,id=(m:Int)+1:=⟨(id-1).toNat,by omega⟩
 have HE:=zI (show Pn.part n ((m:Int)+1)=((Pn.from_ n.nodes m:Int),(Pn.from_ n.nodes (m+1):Int)) by
  unfold Pn.part;rw [if_neg oZ,show ((m:Int)+1).toNat=m+1 by omega]
  rfl)
 have hm:m<n.nodes.length:=by omega
 have q0:IntKind.i64.wrap ((m:Int)+1-1)=(m:Int):=by rw [show (m:Int)+1-1=(m:Int) by omega];exact Zc1 _ oZ
 have q1:(m:Int)+1-1=(m:Int):=by omega
 have q2:(m:Int)<=(d:Int):=by omega
 have q3:(m:Int)<(n.nodes.length:Int):=by omega
 clear h1 h2;have hn:=Pn.from_succ hm;have hl:=zI hn;clear hn;go_upto_region 3 with fail;clear d1 d2;go_wp2_with fail
 go_loopw [4,23] (λf i wx=>∃k:Nat,k<=m/\i=.int .i64 (k:Int)/\f=.int .i64 (Pn.from_ n.nodes k:Int)/\Later w1 wx) (λ_ i _=>m-(intOf i).toNat)
 case atStart=>exact ⟨0,Zt _,rfl,rfl,Later.refl _⟩
 case round=>
  obtain ⟨k,hk,rfl,rfl,hb⟩:=hrel
  by_cases hz:k<m
  ·have ha:k<n.nodes.length:=by omega
   obtain ⟨b,off,S,sc,J,ic,Q,qc,rfl,hc,-,-,-⟩:=HR.out.2.at_ ha;have hs:=Pn.from_succ ha;have hu:=hj.out k;have hv:=(ho.out.2.2 _ (gmZ ha)).2.2.2.1;have hr:k*1048576<=1048576*1048576:=mlZ _ oZ;generalize n.nodes[k]=v at *;obtain ⟨⟨y0,y1,y2,y3,y4,y5,y6,y7,y8,y9⟩,-⟩:=hc.below (he.out.trans hb);generalize Pn.from_ n.nodes k=fk at *;have Hs:=zI hs;clear hs;have r1:IntKind.i64.wrap ((fk:Int)+(v.p.length:Int))=(fk:Int)+(v.p.length:Int):=Zc1 _ oZ;have r2:(k:Int)<(m:Int):=by omega
   have hi:=zI hb;clear hb;clear hc;go_wp2_with fail;go_roundw
   case rel=>exact ⟨k+1,by omega,by go_num,by rw [Hs.out];simp,hi.out.alloc _⟩
   case measure=>simp [intOf];omega
  ·obtain rfl:k=m:=by omega
   obtain ⟨b,off,S,sc,J,ic,Q,qc,rfl,hc,-,-,-⟩:=HR.out.2.at_ hm;have hu:=hj.out k;have hv:=(ho.out.2.2 _ (gmZ hm)).2.2.2.1;have hr:k*1048576<=1048576*1048576:=mlZ _ oZ;have hf:=HE.out;have hg:=he.out.trans hb;obtain ⟨⟨y0,y1,y2,y3,y4,y5,y6,y7,y8,y9⟩,-⟩:=hc.below hg;have a1':=hb.cell a1;rw [hl.out] at hf;have hx:=zI hf;clear hf HE hl;generalize n.nodes[k]=v at *;generalize Pn.from_ n.nodes k=fk at *;have r1:IntKind.i64.wrap ((fk:Int)+(v.p.length:Int))=(fk:Int)+(v.p.length:Int):=Zc1 _ oZ;have r3:IntKind.i64.wrap (k:Int)=(k:Int):=Zc1 _ oZ;obtain ⟨hi,hw⟩:=zd2 hb hg;clear hb hg;clear hc y0 y1 y2 y3 y4 y5 y6 y7 y8 a1;go_wp2_with fail;have KF:=zI (show ∀Xw,Later wr Xw->Xw.cell? ⟨w.heap.size,1,none⟩=some (.slice (some ⟨b,off,none⟩) n.nodes.length d)/\Xw.cell? ⟨b,off+k*10+9,none⟩=some (.slice Q v.p.length qc) from λXw h=>⟨h.cell a1',h.cell y9⟩);refine Zm1 ?_;refine Zl1 (S:=λXw=>Xw.cell? ⟨w.heap.size,1,none⟩=some (.slice (some ⟨b,off,none⟩) n.nodes.length d)/\Xw.cell? ⟨b,off+k*10+9,none⟩=some (.slice Q v.p.length qc)) krZ (KF.out _ Lau) (λhHeld=>?_);refine tk 0 ?_;refine tk 1 ?_;refine tk 2 ?_;refine tk 3 ?_;refine tk 4 ?_;refine tk 5 ?_;refine tk 6 ?_;refine tk 7 ?_;refine tk 8 ?_;refine tk 9 ?_;refine tk 10 ?_;refine tk 11 ?_;refine tk 12 ?_;clear KF;refine Zn1 krZ ?_ _;refine Zd1 ?_;go_wp2_with fail;refine Zk1 (v:=.tuple #[.int .i64 (fk:Int),.int .i64 ((fk:Int)+(v.p.length:Int))]) (by simp [results,Tryz.results72,go_sem]) rfl ?_;rw [hx.out];exact ⟨by simp,hw.out.drew⟩
def PickP (ts:List Ten) (w:Zp1) (e:Ending) (w':Zp1):Prop:=∃G,e=.returned (.slice (some ⟨G,0,none⟩) ts.length ts.length)/\w.heap.size<=G/\Tns w' (some ⟨G,0,none⟩) ts/\Below w.heap.size w w'
set_option maxRecDepth 20000 in
theorem qd5 (V I:Option Addr) (vc ic:Nat) (vals:List Ten) (ins:List Int) (w:Zp1) (hV:Tns w V vals) (lV:vals.length<=1048577) (hI:Ints .i64 w I ins) (lI:ins.length<=1048576) (hr:∀i∈ins,0<=i/\i<vals.length):
  Calls Tryz.prog 73 #[.slice V vals.length vc,.slice I ins.length ic] w (PickP (Pn.pickT vals ins) w):=by
 obtain ⟨HV,HI,Hr⟩:=zd3 hV hI hr;clear hV hI hr;go_enter Tryz.func73,Tryz.ntmps73;obtain ⟨i0,hi,hz,hn,hp⟩:=info_parts qb2;go_wp2_with (at_make;refine wpList_make_full _ rfl _ _ 27 rfl w.heap.size 30 i0 (.agg #[.slice none 0 0,.slice none 0 0]) 2 Tryz.underlying27 hi hz hn _ _ _ _ ins.length rfl rfl (by first|rfl|simp) (by first|rfl|simp) ?b2 ?b3 (lrZ _) ?_)
 case b2=>rw [hp];omega
 case b3=>unfold maxLen;omega
 intro w1 hown hgrow;clear hi hz hn hp
 have he:Blk w1 w.heap.size 30 (([]:List Value)++Zc ((ins.length-0)*2) (Zb1 none 0 0)).toArray:=by
  have h:=qc7 hown;rw [qb3] at h;simpa using h
 have hy:Later w w1:=(Ze1 _ w).grown hgrow (lrZ _) sZ;clear hown hgrow;obtain ⟨hd,hl⟩:=zd2 he hy;clear he hy;go_wp2_with fail
 go_loopw [13] (λi wx=>∃(k:Nat) (vs:List Value),k<=ins.length/\i=.int .i64 (k:Int)/\Blk wx w.heap.size 30 (vs++Zc ((ins.length-k)*2) (Zb1 none 0 0)).toArray/\RowT w vs (Pn.pickT vals (ins.take k))/\Later w wx) (λi _=>ins.length-(intOf i).toNat)
 case atStart=>exact ⟨0,[],Zt _,rfl,hd.out,RowT.nil w,hl.out⟩
 case round=>
  obtain ⟨k,vs,hk,rfl,hG,hc,ha⟩:=hrel;clear hd hl
  by_cases hf:k<ins.length
  ·obtain ⟨b,off,rfl,-,hH⟩:=(HI.out.below ha (lrZ _)) k hf
   have hv:=Hr.out _ (gmZ hf);obtain ⟨j,hj⟩:=ezZ hv.1;have hx:ins.getD k 0=(j:Int):=by rw [gdZ,geZ hf,←hj];rfl
   rw [hx] at hH;have ho:j<vals.length:=by omega
   have hV:=HV.out;obtain ⟨b',off',S',sc,C',cc,rfl,-,p0,p1,hT⟩:=(HV.out.later ha).at_ ho;obtain ⟨b2,off2,S2,sc2,C2,cc2,e2,-,p2,p3,hA⟩:=HV.out.at_ ho;have hS:=(ha.cell p2).symm.trans (by injection e2 with e2;injection e2 with e3 e4;subst e3 e4;exact p0);have hC:=(ha.cell p3).symm.trans (by injection e2 with e2;injection e2 with e3 e4;subst e3 e4;exact p1);simp at hS hC;obtain ⟨rfl,rfl⟩:=hS;obtain ⟨rfl,rfl⟩:=hC
   have hw:Pn.pickT vals (ins.take (k+1))=Pn.pickT vals (ins.take k)++[Ly.got vals j]:=by
    unfold Pn.pickT;rw [Zb hf,List.map_append,hj]
    rfl
   have ht:vs.length=k*2:=by have:=hc.1;simp [Pn.pickT] at this;omega
   have hb:=hc.append (RowT.one hA);rw [←hw] at hb;have hB:=fill_two (m:=ins.length) (a:=.slice S2 (Ly.got vals j).s.length sc2) (b:=.slice C2 (Ly.got vals j).c.length cc2) (z:=Zb1 none 0 0) ht hf;have q0:∃u,wr.cell? ⟨w.heap.size,k*2,none⟩=some u:=by rw [hG.cell];exact ⟨_,by rw [Zk,geZ soZ]⟩
   have q1:∃u,wr.cell? ⟨w.heap.size,k*2+1,none⟩=some u:=by rw [hG.cell];exact ⟨_,by rw [Zk,geZ soZ]⟩
   obtain ⟨u0,q0⟩:=q0;obtain ⟨u1,q1⟩:=q1;have f0:=hG.frozen (k*2);have f1:=hG.frozen (k*2+1);have r1:(k:Int)<(ins.length:Int):=by omega
   have r2:(j:Int)<(vals.length:Int):=by omega
   generalize Ly.got vals j=t at *
   have hu:Blk ((wr.setCell ⟨w.heap.size,k*2,none⟩ (.slice S2 t.s.length sc2)).setCell ⟨w.heap.size,k*2+1,none⟩ (.slice C2 t.c.length cc2)) w.heap.size 30 ((vs++[Zb1 S2 t.s.length sc2,Zb1 C2 t.c.length cc2])++Zc ((ins.length-(k+1))*2) (Zb1 none 0 0)).toArray:=by
    have:=(hG.set_ (k*2) (.slice S2 t.s.length sc2)).set_ (k*2+1) (.slice C2 t.c.length cc2);rw [←hB];simpa using this
   have hs:=(ha.set (p:=⟨w.heap.size,k*2,none⟩) (lrZ _) (.slice S2 t.s.length sc2)).set (p:=⟨w.heap.size,k*2+1,none⟩) (lrZ _) (.slice C2 t.c.length cc2);clear hx hv hj hV hT hA p2 p3 e2 hw ht hB;obtain ⟨HG,hq,hh,hg,hD,hF⟩:=zd6 hG hc ha hb hu hs;clear hG hc ha hb hu hs;go_wp2_with fail;go_roundw
   case rel=>exact ⟨k+1,_,by omega,by go_num,hD.out,hg.out,hF.out⟩
   case measure=>simp [intOf];omega
  ·obtain rfl:k=ins.length:=by omega
   rw [Nat.sub_self,Nat.zero_mul,List.replicate_zero,List.append_nil] at hG;rw [Zg] at hc;have hm:(Pn.pickT vals ins).length=ins.length:=by simp [Pn.pickT]
   obtain ⟨HG,hq,hh,hE⟩:=zd4 hG hc ha hm;clear hG hc ha hm;go_wp2_with fail;go_ret;exact ⟨w.heap.size,by (rw [hE.out]<;>rfl),lrZ _,hq.out.tnsB hh.out HG.out,hh.out⟩
namespace Ly
def flat (w:Ten):Bool:=Tn.right w&&decide (w.s.length=2)
theorem flat_yes {w:Ten} (h:flat w=true):Tn.right w=true/\w.s.length=2:=by simpa [flat] using h
theorem dense_w {w b x:Ten} (h:flat w=false):denseOk w b x=false:=by unfold flat at h;unfold denseOk;rw [h];simp
theorem dense_b {w b x:Ten} (h:Tn.right b=false):denseOk w b x=false:=by unfold denseOk;rw [h];simp
theorem dense_x {w b x:Ten} (h:Tn.right x=false):denseOk w b x=false:=by unfold denseOk;rw [h];simp
theorem dense_s {w b x:Ten} (h:(b.s==[at_ w.s 0])=false):denseOk w b x=false:=by
 have:¬b.s=[at_ w.s 0]:=by simpa using h
 unfold denseOk;simp [this]
theorem dense_all {w b x:Ten} (h1:flat w=true) (h2:Tn.right b=true) (h3:Tn.right x=true) (h4:(b.s==[at_ w.s 0])=true):denseOk w b x=((x.c.length:Int)==at_ w.s 1):=by
 obtain ⟨a,c⟩:=flat_yes h1;have:b.s=[at_ w.s 0]:=by simpa using h4
 unfold denseOk;rw [a,h2,h3,decide_eq_true c,decide_eq_true this];simp;rw [Bool.eq_iff_iff];simp
theorem dense_yes {w b x:Ten} (h:denseOk w b x=true):Tn.right w=true/\w.s.length=2/\Tn.right b=true/\Tn.right x=true/\b.s=[at_ w.s 0]/\(x.c.length:Int)=at_ w.s 1:=by simpa [denseOk,and_assoc] using h
end Ly
theorem qfc (S C:Option Addr) (c d:Nat) (t:Ten) (w:Zp1) (ht:TenIn w S C c d t):
  Calls Tryz.prog 106 #[.agg #[.slice S t.s.length c,.slice C t.c.length d]] w λe w'=>e=.returned (.bool (Ly.flat t))/\Below w.heap.size w w':=by
 have hg:Later w (w.alloc (.cells #[.slice S t.s.length c,.slice C t.c.length d] 30)):=(Later.refl w).alloc _;have hk:=Blk.new w 30 #[.slice S t.s.length c,.slice C t.c.length d];have l1:=ht.l1;have l2:=ht.l2;obtain ⟨hd,Hk,Ht⟩:=zd3 hg hk ht;clear hg hk ht;go_enter Tryz.func106,Tryz.ntmps106;go_wp2_with fail;generalize w.alloc (.cells #[.slice S t.s.length c,.slice C t.c.length d] 30)=w1 at *;refine (qa2 S C c d t w1 oZ oZ (Ht.out.later hd.out).r.1).mono ?_;rintro e w2 ⟨rfl,hf⟩;have ha:Later w1 w2:=hf;have hb:=ha.blk Hk.out;have c0:=hb.cell 0;simp at c0;clear hf;cases hr:Tn.right t
 ·have HE:=zI (show Ly.flat t=false by simp [Ly.flat,hr])
  clear hr;obtain ⟨hc,he⟩:=zd2 ha hb;clear ha hb;go_wp2_with fail;go_ret;exact ⟨by rw [HE.out];rfl,hd.out.trans hc.out⟩
 ·by_cases h:t.s.length=2
  ·have HE:=zI (show Ly.flat t=true by simp [Ly.flat,hr,h])
   have d1:((t.s.length:Int)==2)=true:=by simp;omega
   clear hr h;obtain ⟨hc,he⟩:=zd2 ha hb;clear ha hb;go_wp2_with fail;go_ret;exact ⟨by rw [HE.out];rfl,hd.out.trans hc.out⟩
  ·have HE:=zI (show Ly.flat t=false by simp [Ly.flat,h])
   have d1:((t.s.length:Int)==2)=false:=by simp;omega
   clear hr h;obtain ⟨hc,he⟩:=zd2 ha hb;clear ha hb;go_wp2_with fail;go_ret;exact ⟨by rw [HE.out];rfl,hd.out.trans hc.out⟩
theorem qcE (S C S' C' S2 C2:Option Addr) (c d c' d' c2 d2:Nat) (t b x:Ten) (w:Zp1) (ht:TenIn w S C c d t) (hb:TenIn w S' C' c' d' b) (hx:TenIn w S2 C2 c2 d2 x):
  Calls Tryz.prog 50 #[.agg #[.slice S t.s.length c,.slice C t.c.length d],.agg #[.slice S' b.s.length c',.slice C' b.c.length d'],.agg #[.slice S2 x.s.length c2,.slice C2 x.c.length d2]] w λe w'=>e=.returned (.bool (Ly.denseOk t b x))/\Below w.heap.size w w':=by
 obtain ⟨hD,hw,hA,hC⟩:=qal w 30 30 30 #[.slice S t.s.length c,.slice C t.c.length d] #[.slice S' b.s.length c',.slice C' b.c.length d'] #[.slice S2 x.s.length c2,.slice C2 x.c.length d2];have lt1:=ht.l1;have lb1:=hb.l1;have lx1:=hx.l1;have lt2:=ht.l2;have lb2:=hb.l2;have lx2:=hx.l2;obtain ⟨hz,hE,hy,hh,Ht,Hb,Hx⟩:=zd7 hD hw hA hC ht hb hx;clear hD hw hA hC ht hb hx;go_enter Tryz.func50,Tryz.ntmps50;go_wp2_with fail;generalize ((w.alloc (.cells #[.slice S t.s.length c,.slice C t.c.length d] 30)).alloc (.cells #[.slice S' b.s.length c',.slice C' b.c.length d'] 30)).alloc (.cells #[.slice S2 x.s.length c2,.slice C2 x.c.length d2] 30)=w2 at *;have x0:w2.cell? ⟨w.heap.size,0,none⟩=some (.slice S t.s.length c):=by rw [hz.out.cell];rfl
 have x1:w2.cell? ⟨w.heap.size,1,none⟩=some (.slice C t.c.length d):=by rw [hz.out.cell];rfl
 have x2:w2.cell? ⟨w.heap.size+1,0,none⟩=some (.slice S' b.s.length c'):=by rw [hE.out.cell];rfl
 have x3:w2.cell? ⟨w.heap.size+1,1,none⟩=some (.slice C' b.c.length d'):=by rw [hE.out.cell];rfl
 have x4:w2.cell? ⟨w.heap.size+2,0,none⟩=some (.slice S2 x.s.length c2):=by rw [hy.out.cell];rfl
 have x5:w2.cell? ⟨w.heap.size+2,1,none⟩=some (.slice C2 x.c.length d2):=by rw [hy.out.cell];rfl
 have hT:=(Ht.out.later hh.out)
 have hB:=(Hb.out.later hh.out)
 have hX:=(Hx.out.later hh.out)
 have hc:=λ(V:Zp1) (h:Later w2 V)=>qfc S C c d t V (hT.later h)
 have he:=λ(V:Zp1) (h:Later w2 V)=>qa2 S' C' c' d' b V oZ oZ (hB.later h).r.1
 have hd:=λ(V:Zp1) (h:Later w2 V)=>qa2 S2 C2 c2 d2 x V oZ oZ (hX.later h).r.1
 obtain ⟨hF,hG,hv⟩:=zd3 hc he hd;clear hc he hd;cases hf:Ly.flat t
 ·have HE:=zI (Ly.dense_w (b:=b) (x:=x) hf)
  have hc:=hF.out;rw [hf] at hc;have hi:=zI hc;clear hf hc;have KF:=zI (show ∀Xw,Later w2 Xw->Xw.cell? ⟨w.heap.size,0,none⟩=some (.slice S t.s.length c)/\Xw.cell? ⟨w.heap.size,1,none⟩=some (.slice C t.c.length d)/\Xw.cell? ⟨w.heap.size+1,0,none⟩=some (.slice S' b.s.length c')/\Xw.cell? ⟨w.heap.size+1,1,none⟩=some (.slice C' b.c.length d')/\Xw.cell? ⟨w.heap.size+2,0,none⟩=some (.slice S2 x.s.length c2)/\Xw.cell? ⟨w.heap.size+2,1,none⟩=some (.slice C2 x.c.length d2) from λXw h=>⟨h.cell x0,h.cell x1,h.cell x2,h.cell x3,h.cell x4,h.cell x5⟩);refine Zm1 ?_;refine Zl1 (S:=λXw=>Xw.cell? ⟨w.heap.size,0,none⟩=some (.slice S t.s.length c)/\Xw.cell? ⟨w.heap.size,1,none⟩=some (.slice C t.c.length d)/\Xw.cell? ⟨w.heap.size+1,0,none⟩=some (.slice S' b.s.length c')/\Xw.cell? ⟨w.heap.size+1,1,none⟩=some (.slice C' b.c.length d')/\Xw.cell? ⟨w.heap.size+2,0,none⟩=some (.slice S2 x.s.length c2)/\Xw.cell? ⟨w.heap.size+2,1,none⟩=some (.slice C2 x.c.length d2)) krZ (KF.out _ Lau) (λhHeld=>?_);refine tk 0 ?_;refine rd 1 λK hK=>?_
  simp only [ga,gs,gz]
  go_simp
  go_at_call 106;(with_reducible refine (hi.out _ (Lau:Later w2 _)).mono ?_);rintro e wa ⟨rfl,hn⟩
  try go_wp2_with fail
  refine hK.out _ _ (KF.out _ Lau) (λhHeld=>?_);clear hK K
  try simp only [ga,gs,gz,Act.put,sa,sz,ss]
  refine tk 2 ?_;refine tn 3 ?_;refine tn 4 ?_;refine tk 5 ?_;refine tk 6 ?_;refine tn 7 ?_;refine tn 8 ?_;refine tk 9 ?_;refine tk 10 ?_;refine tn 11 ?_;refine tn 12 ?_;refine tn 13 ?_;refine tn 14 ?_;refine tn 15 ?_;refine tn 16 ?_;refine tn 17 ?_;refine tn 18 ?_;refine tk 19 ?_;refine tk 20 ?_;refine tn 21 ?_;refine tn 22 ?_;refine tn 23 ?_;refine tn 24 ?_;refine tn 25 ?_;refine tn 26 ?_;refine tn 27 ?_;refine tn 28 ?_;refine tk 29 ?_;refine tk 30 ?_;clear KF;refine Zn1 krZ ?_ _;refine Zd1 ?_;have ha:=hh.out.trans (Lau:Later w2 wa);have hg:=zI ha;clear ha;go_wp2_with fail;go_ret;exact ⟨by rw [HE.out];rfl,hg.out⟩
 obtain ⟨hp,hl⟩:=Ly.flat_yes hf;have hc:=hF.out;rw [hf] at hc;have hi:=zI hc;clear hc;cases hrb:Tn.right b
 ·have HE:=zI (Ly.dense_b (w:=t) (x:=x) hrb)
  have he:=hG.out;rw [hrb] at he;have hm:=zI he;clear hf he hp hl hrb;have KF:=zI (show ∀Xw,Later w2 Xw->Xw.cell? ⟨w.heap.size,0,none⟩=some (.slice S t.s.length c)/\Xw.cell? ⟨w.heap.size,1,none⟩=some (.slice C t.c.length d)/\Xw.cell? ⟨w.heap.size+1,0,none⟩=some (.slice S' b.s.length c')/\Xw.cell? ⟨w.heap.size+1,1,none⟩=some (.slice C' b.c.length d')/\Xw.cell? ⟨w.heap.size+2,0,none⟩=some (.slice S2 x.s.length c2)/\Xw.cell? ⟨w.heap.size+2,1,none⟩=some (.slice C2 x.c.length d2) from λXw h=>⟨h.cell x0,h.cell x1,h.cell x2,h.cell x3,h.cell x4,h.cell x5⟩);refine Zm1 ?_;refine Zl1 (S:=λXw=>Xw.cell? ⟨w.heap.size,0,none⟩=some (.slice S t.s.length c)/\Xw.cell? ⟨w.heap.size,1,none⟩=some (.slice C t.c.length d)/\Xw.cell? ⟨w.heap.size+1,0,none⟩=some (.slice S' b.s.length c')/\Xw.cell? ⟨w.heap.size+1,1,none⟩=some (.slice C' b.c.length d')/\Xw.cell? ⟨w.heap.size+2,0,none⟩=some (.slice S2 x.s.length c2)/\Xw.cell? ⟨w.heap.size+2,1,none⟩=some (.slice C2 x.c.length d2)) krZ (KF.out _ Lau) (λhHeld=>?_);refine tk 0 ?_;refine rd 1 λK hK=>?_
  simp only [ga,gs,gz]
  go_simp
  go_at_call 106;(with_reducible refine (hi.out _ (Lau:Later w2 _)).mono ?_);rintro e wa ⟨rfl,hn⟩
  try go_wp2_with fail
  refine hK.out _ _ (KF.out _ Lau) (λhHeld=>?_);clear hK K
  try simp only [ga,gs,gz,Act.put,sa,sz,ss]
  refine tk 2 ?_;refine tk 3 ?_;refine rd 4 λK hK=>?_
  simp only [ga,gs,gz]
  go_simp
  go_at_call 51;(with_reducible refine (hm.out _ (Lau:Later w2 _)).mono ?_);rintro e wb ⟨rfl,hr⟩
  try go_wp2_with fail
  refine hK.out _ _ (KF.out _ Lau) (λhHeld=>?_);clear hK K
  try simp only [ga,gs,gz,Act.put,sa,sz,ss]
  refine tk 5 ?_;refine tk 6 ?_;refine tn 7 ?_;refine tn 8 ?_;refine tk 9 ?_;refine tk 10 ?_;refine tn 11 ?_;refine tn 12 ?_;refine tn 13 ?_;refine tn 14 ?_;refine tn 15 ?_;refine tn 16 ?_;refine tn 17 ?_;refine tn 18 ?_;refine tk 19 ?_;refine tk 20 ?_;refine tn 21 ?_;refine tn 22 ?_;refine tn 23 ?_;refine tn 24 ?_;refine tn 25 ?_;refine tn 26 ?_;refine tn 27 ?_;refine tn 28 ?_;refine tk 29 ?_;refine tk 30 ?_;clear KF;refine Zn1 krZ ?_ _;refine Zd1 ?_;have ha:=hh.out.trans (Lau:Later w2 wb);have hg:=zI ha;clear ha;go_wp2_with fail;go_ret;exact ⟨by rw [HE.out];rfl,hg.out⟩
 have he:=hG.out;rw [hrb] at he;have hm:=zI he;clear he;cases hrx:Tn.right x
 ·have HE:=zI (Ly.dense_x (w:=t) (b:=b) hrx)
  have hd:=hv.out;rw [hrx] at hd;have ho:=zI hd;clear hf hd hp hl hrb hrx;have KF:=zI (show ∀Xw,Later w2 Xw->Xw.cell? ⟨w.heap.size,0,none⟩=some (.slice S t.s.length c)/\Xw.cell? ⟨w.heap.size,1,none⟩=some (.slice C t.c.length d)/\Xw.cell? ⟨w.heap.size+1,0,none⟩=some (.slice S' b.s.length c')/\Xw.cell? ⟨w.heap.size+1,1,none⟩=some (.slice C' b.c.length d')/\Xw.cell? ⟨w.heap.size+2,0,none⟩=some (.slice S2 x.s.length c2)/\Xw.cell? ⟨w.heap.size+2,1,none⟩=some (.slice C2 x.c.length d2) from λXw h=>⟨h.cell x0,h.cell x1,h.cell x2,h.cell x3,h.cell x4,h.cell x5⟩);refine Zm1 ?_;refine Zl1 (S:=λXw=>Xw.cell? ⟨w.heap.size,0,none⟩=some (.slice S t.s.length c)/\Xw.cell? ⟨w.heap.size,1,none⟩=some (.slice C t.c.length d)/\Xw.cell? ⟨w.heap.size+1,0,none⟩=some (.slice S' b.s.length c')/\Xw.cell? ⟨w.heap.size+1,1,none⟩=some (.slice C' b.c.length d')/\Xw.cell? ⟨w.heap.size+2,0,none⟩=some (.slice S2 x.s.length c2)/\Xw.cell? ⟨w.heap.size+2,1,none⟩=some (.slice C2 x.c.length d2)) krZ (KF.out _ Lau) (λhHeld=>?_);refine tk 0 ?_;refine rd 1 λK hK=>?_
  simp only [ga,gs,gz]
  go_simp
  go_at_call 106;(with_reducible refine (hi.out _ (Lau:Later w2 _)).mono ?_);rintro e wa ⟨rfl,hn⟩
  try go_wp2_with fail
  refine hK.out _ _ (KF.out _ Lau) (λhHeld=>?_);clear hK K
  try simp only [ga,gs,gz,Act.put,sa,sz,ss]
  refine tk 2 ?_;refine tk 3 ?_;refine rd 4 λK hK=>?_
  simp only [ga,gs,gz]
  go_simp
  go_at_call 51;(with_reducible refine (hm.out _ (Lau:Later w2 _)).mono ?_);rintro e wb ⟨rfl,hr⟩
  try go_wp2_with fail
  refine hK.out _ _ (KF.out _ Lau) (λhHeld=>?_);clear hK K
  try simp only [ga,gs,gz,Act.put,sa,sz,ss]
  refine tk 5 ?_;refine tk 6 ?_;refine tk 7 ?_;refine rd 8 λK hK=>?_
  simp only [ga,gs,gz]
  go_simp
  go_at_call 51;(with_reducible refine (ho.out _ (Lau:Later w2 _)).mono ?_);rintro e wc ⟨rfl,hH⟩
  try go_wp2_with fail
  refine hK.out _ _ (KF.out _ Lau) (λhHeld=>?_);clear hK K
  try simp only [ga,gs,gz,Act.put,sa,sz,ss]
  refine tk 9 ?_;refine tk 10 ?_;refine tn 11 ?_;refine tn 12 ?_;refine tn 13 ?_;refine tn 14 ?_;refine tn 15 ?_;refine tn 16 ?_;refine tn 17 ?_;refine tn 18 ?_;refine tk 19 ?_;refine tk 20 ?_;refine tn 21 ?_;refine tn 22 ?_;refine tn 23 ?_;refine tn 24 ?_;refine tn 25 ?_;refine tn 26 ?_;refine tn 27 ?_;refine tn 28 ?_;refine tk 29 ?_;refine tk 30 ?_;clear KF;refine Zn1 krZ ?_ _;refine Zd1 ?_;have ha:=hh.out.trans (Lau:Later w2 wc);have hg:=zI ha;clear ha;go_wp2_with fail;go_ret;exact ⟨by rw [HE.out];rfl,hg.out⟩
 have hd:=hv.out;rw [hrx] at hd;have ho:=zI hd;clear hd;obtain ⟨bs,os,rfl,-,y0⟩:=hT.r.1 0 oZ;obtain ⟨bs',os',e',-,y1⟩:=hT.r.1 1 oZ;injection e' with e'
 injection e' with e1 e2
 subst e1 e2;have x6:w2.cell? ⟨bs,os,none⟩=some (.int .i64 (Ly.at_ t.s 0)):=y0;have x7:w2.cell? ⟨bs,os+1,none⟩=some (.int .i64 (Ly.at_ t.s 1)):=y1;have k1:(0:Int)<(t.s.length:Int):=by omega
 have k2:(1:Int)<(t.s.length:Int):=by omega
 have k3:0<t.s.length:=by omega
 have k4:1<t.s.length:=by omega
 have hj:=λ(V:Zp1) (g:Nat) (hk:Blk V g 3 #[.int .i64 (Ly.at_ t.s 0)]) (h:Later w2 V)=>(show Calls Tryz.prog 43 #[.slice S' b.s.length c',.slice (some ⟨g,0,none⟩) 1 1] V λe w'=>e=.returned (.bool (b.s==[Ly.at_ t.s 0]))/\∃n,w'=V.drewN n from qaa S' (some ⟨g,0,none⟩) c' 1 b.s [Ly.at_ t.s 0] V oZ sZ (hB.later h).r.1 (Blk.intsL [Ly.at_ t.s 0] hk))
 clear y0 y1;cases hs:(b.s==[Ly.at_ t.s 0])
 ·have HE:=zI (Ly.dense_s (w:=t) (x:=x) hs)
  rw [hs] at hj;have hu:=zI hj;clear hf hj hp hl hrb hrx hs hT hB hX;have KF:=zI (show ∀Xw,Later w2 Xw->Xw.cell? ⟨w.heap.size,0,none⟩=some (.slice (some ⟨bs,os,none⟩) t.s.length c)/\Xw.cell? ⟨w.heap.size,1,none⟩=some (.slice C t.c.length d)/\Xw.cell? ⟨w.heap.size+1,0,none⟩=some (.slice S' b.s.length c')/\Xw.cell? ⟨w.heap.size+1,1,none⟩=some (.slice C' b.c.length d')/\Xw.cell? ⟨w.heap.size+2,0,none⟩=some (.slice S2 x.s.length c2)/\Xw.cell? ⟨w.heap.size+2,1,none⟩=some (.slice C2 x.c.length d2)/\Xw.cell? ⟨bs,os,none⟩=some (.int .i64 (Ly.at_ t.s 0))/\Xw.cell? ⟨bs,os+1,none⟩=some (.int .i64 (Ly.at_ t.s 1)) from λXw h=>⟨h.cell x0,h.cell x1,h.cell x2,h.cell x3,h.cell x4,h.cell x5,h.cell x6,h.cell x7⟩);refine Zm1 ?_;refine Zl1 (S:=λXw=>Xw.cell? ⟨w.heap.size,0,none⟩=some (.slice (some ⟨bs,os,none⟩) t.s.length c)/\Xw.cell? ⟨w.heap.size,1,none⟩=some (.slice C t.c.length d)/\Xw.cell? ⟨w.heap.size+1,0,none⟩=some (.slice S' b.s.length c')/\Xw.cell? ⟨w.heap.size+1,1,none⟩=some (.slice C' b.c.length d')/\Xw.cell? ⟨w.heap.size+2,0,none⟩=some (.slice S2 x.s.length c2)/\Xw.cell? ⟨w.heap.size+2,1,none⟩=some (.slice C2 x.c.length d2)/\Xw.cell? ⟨bs,os,none⟩=some (.int .i64 (Ly.at_ t.s 0))/\Xw.cell? ⟨bs,os+1,none⟩=some (.int .i64 (Ly.at_ t.s 1))) krZ (KF.out _ Lau) (λhHeld=>?_);refine tk 0 ?_;refine rd 1 λK hK=>?_
  simp only [ga,gs,gz]
  go_simp
  go_at_call 106;(with_reducible refine (hi.out _ (Lau:Later w2 _)).mono ?_);rintro e wa ⟨rfl,hn⟩
  try go_wp2_with fail
  refine hK.out _ _ (KF.out _ Lau) (λhHeld=>?_);clear hK K
  try simp only [ga,gs,gz,Act.put,sa,sz,ss]
  refine tk 2 ?_;refine tk 3 ?_;refine rd 4 λK hK=>?_
  simp only [ga,gs,gz]
  go_simp
  go_at_call 51;(with_reducible refine (hm.out _ (Lau:Later w2 _)).mono ?_);rintro e wb ⟨rfl,hr⟩
  try go_wp2_with fail
  refine hK.out _ _ (KF.out _ Lau) (λhHeld=>?_);clear hK K
  try simp only [ga,gs,gz,Act.put,sa,sz,ss]
  refine tk 5 ?_;refine tk 6 ?_;refine tk 7 ?_;refine rd 8 λK hK=>?_
  simp only [ga,gs,gz]
  go_simp
  go_at_call 51;(with_reducible refine (ho.out _ (Lau:Later w2 _)).mono ?_);rintro e wc ⟨rfl,hH⟩
  try go_wp2_with fail
  refine hK.out _ _ (KF.out _ Lau) (λhHeld=>?_);clear hK K
  try simp only [ga,gs,gz,Act.put,sa,sz,ss]
  refine tk 9 ?_;refine tk 10 ?_;refine tk 11 ?_;refine tk 12 ?_;refine tk 13 ?_;refine tk 14 ?_;refine tk 15 ?_;refine tk 16 ?_;refine rd 17 λK hK=>?_
  simp only [ga,gs,gz]
  go_simp
  refine hK.out _ _ (KF.out _ Lau) (λhHeld=>?_);clear hK K
  try simp only [ga,gs,gz,Act.put,sa,sz,ss]
  refine rd 18 λK hK=>?_
  simp only [ga,gs,gz]
  go_simp
  go_at_call 43;(with_reducible refine (hu.out _ _ (Blk.new wc 3 #[.int .i64 (Ly.at_ t.s 0)]) (Lau:Later w2 _)).mono ?_);rintro e we ⟨rfl,qd,rfl⟩
  try go_wp2_with fail
  refine hK.out _ _ (KF.out _ Lau) (λhHeld=>?_);clear hK K
  try simp only [ga,gs,gz,Act.put,sa,sz,ss]
  refine tk 19 ?_;refine tk 20 ?_;refine tn 21 ?_;refine tn 22 ?_;refine tn 23 ?_;refine tn 24 ?_;refine tn 25 ?_;refine tn 26 ?_;refine tn 27 ?_;refine tn 28 ?_;refine tk 29 ?_;refine tk 30 ?_;clear KF;refine Zn1 krZ ?_ _;refine Zd1 ?_;have ha:=hh.out.trans (Lau:Later w2 ((wc.alloc (.cells #[.int .i64 (Ly.at_ t.s 0)] 3)).drewN qd));have hg:=zI ha;clear ha;go_wp2_with fail;go_ret;exact ⟨by rw [HE.out];rfl,hg.out⟩
 ·have HE:=zI (Ly.dense_all hf hrb hrx hs)
  rw [hs] at hj;have hu:=zI hj;clear hf hj hp hl hrb hrx hs hT hB hX;generalize hq:((x.c.length:Int)==Ly.at_ t.s 1)=q at HE;have hI:((x.c.length:Int)==Ly.at_ t.s 1)=q:=hq;clear hq;have KF:=zI (show ∀Xw,Later w2 Xw->Xw.cell? ⟨w.heap.size,0,none⟩=some (.slice (some ⟨bs,os,none⟩) t.s.length c)/\Xw.cell? ⟨w.heap.size,1,none⟩=some (.slice C t.c.length d)/\Xw.cell? ⟨w.heap.size+1,0,none⟩=some (.slice S' b.s.length c')/\Xw.cell? ⟨w.heap.size+1,1,none⟩=some (.slice C' b.c.length d')/\Xw.cell? ⟨w.heap.size+2,0,none⟩=some (.slice S2 x.s.length c2)/\Xw.cell? ⟨w.heap.size+2,1,none⟩=some (.slice C2 x.c.length d2)/\Xw.cell? ⟨bs,os,none⟩=some (.int .i64 (Ly.at_ t.s 0))/\Xw.cell? ⟨bs,os+1,none⟩=some (.int .i64 (Ly.at_ t.s 1)) from λXw h=>⟨h.cell x0,h.cell x1,h.cell x2,h.cell x3,h.cell x4,h.cell x5,h.cell x6,h.cell x7⟩);refine Zm1 ?_;refine Zl1 (S:=λXw=>Xw.cell? ⟨w.heap.size,0,none⟩=some (.slice (some ⟨bs,os,none⟩) t.s.length c)/\Xw.cell? ⟨w.heap.size,1,none⟩=some (.slice C t.c.length d)/\Xw.cell? ⟨w.heap.size+1,0,none⟩=some (.slice S' b.s.length c')/\Xw.cell? ⟨w.heap.size+1,1,none⟩=some (.slice C' b.c.length d')/\Xw.cell? ⟨w.heap.size+2,0,none⟩=some (.slice S2 x.s.length c2)/\Xw.cell? ⟨w.heap.size+2,1,none⟩=some (.slice C2 x.c.length d2)/\Xw.cell? ⟨bs,os,none⟩=some (.int .i64 (Ly.at_ t.s 0))/\Xw.cell? ⟨bs,os+1,none⟩=some (.int .i64 (Ly.at_ t.s 1))) krZ (KF.out _ Lau) (λhHeld=>?_);refine tk 0 ?_;refine rd 1 λK hK=>?_
  simp only [ga,gs,gz]
  go_simp
  go_at_call 106;(with_reducible refine (hi.out _ (Lau:Later w2 _)).mono ?_);rintro e wa ⟨rfl,hn⟩
  try go_wp2_with fail
  refine hK.out _ _ (KF.out _ Lau) (λhHeld=>?_);clear hK K
  try simp only [ga,gs,gz,Act.put,sa,sz,ss]
  refine tk 2 ?_;refine tk 3 ?_;refine rd 4 λK hK=>?_
  simp only [ga,gs,gz]
  go_simp
  go_at_call 51;(with_reducible refine (hm.out _ (Lau:Later w2 _)).mono ?_);rintro e wb ⟨rfl,hr⟩
  try go_wp2_with fail
  refine hK.out _ _ (KF.out _ Lau) (λhHeld=>?_);clear hK K
  try simp only [ga,gs,gz,Act.put,sa,sz,ss]
  refine tk 5 ?_;refine tk 6 ?_;refine tk 7 ?_;refine rd 8 λK hK=>?_
  simp only [ga,gs,gz]
  go_simp
  go_at_call 51;(with_reducible refine (ho.out _ (Lau:Later w2 _)).mono ?_);rintro e wc ⟨rfl,hH⟩
  try go_wp2_with fail
  refine hK.out _ _ (KF.out _ Lau) (λhHeld=>?_);clear hK K
  try simp only [ga,gs,gz,Act.put,sa,sz,ss]
  refine tk 9 ?_;refine tk 10 ?_;refine tk 11 ?_;refine tk 12 ?_;refine tk 13 ?_;refine tk 14 ?_;refine tk 15 ?_;refine tk 16 ?_;refine rd 17 λK hK=>?_
  simp only [ga,gs,gz]
  go_simp
  refine hK.out _ _ (KF.out _ Lau) (λhHeld=>?_);clear hK K
  try simp only [ga,gs,gz,Act.put,sa,sz,ss]
  refine rd 18 λK hK=>?_
  simp only [ga,gs,gz]
  go_simp
  go_at_call 43;(with_reducible refine (hu.out _ _ (Blk.new wc 3 #[.int .i64 (Ly.at_ t.s 0)]) (Lau:Later w2 _)).mono ?_);rintro e we ⟨rfl,qd,rfl⟩
  try go_wp2_with fail
  refine hK.out _ _ (KF.out _ Lau) (λhHeld=>?_);clear hK K
  try simp only [ga,gs,gz,Act.put,sa,sz,ss]
  refine tk 19 ?_;refine tk 20 ?_;refine tk 21 ?_;refine tk 22 ?_;refine tk 23 ?_;refine tk 24 ?_;refine tk 25 ?_;refine tk 26 ?_;refine tk 27 ?_;refine tk 28 ?_;refine tk 29 ?_;refine tk 30 ?_;clear KF;refine Zn1 krZ ?_ _;refine Zd1 ?_;have ha:=hh.out.trans (Lau:Later w2 ((wc.alloc (.cells #[.int .i64 (Ly.at_ t.s 0)] 3)).drewN qd));have hg:=zI ha;clear ha;go_wp2_with fail;go_ret;exact ⟨by rw [HE.out];rfl,hg.out⟩
end Go.Proofs.YtbnnpkcfifejmaaGreat
