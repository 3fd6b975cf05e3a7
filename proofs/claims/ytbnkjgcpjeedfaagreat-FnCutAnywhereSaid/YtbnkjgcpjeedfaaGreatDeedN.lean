/-
  RightD; DeedN: No condition.
-/
import Derived.Test.YtbnkjgcpjeedfaaGreatRight
import Derived.Test.YtbnkjgcpjeedfaaGreatRets
namespace Go.Proofs.YtbnkjgcpjeedfaaGreat
set_option maxHeartbeats 4000000
set_option maxRecDepth 100000
set_option linter.unusedSimpArgs false
open Go.RowKit
set_option linter.unusedVariables false
theorem Qq2(A:Option Addr)(c:Nat)(l:List Int)(w:World)(hlen:l.length<=maxLen)(hin:∀ x∈l,Qld x)(hr:Qav w w.heap.size Qn8 1 A l) :
 Calls Tryz.prog 8 #[.slice A l.length c] w fun e w'=>∃(b:Qad) (M:List Value),RB 24 b/\e=.returned (.agg M.toArray)/\BVal w.heap.size b M w'/\Ext w w':=by
 have Q0:=Blk.new w 37 #[.int .i64 0,.slice none 0 0,.slice none 0 0,.slice none 0 0,.int .i64 0,.slice none 0 0,.int .i64 0,.slice none 0 0,.int .i64 0,.int .i64 0,.string ⟨#[]⟩,.int .i64 0,.string ⟨#[]⟩]
 have he:=Ext.new (Below.refl w.heap.size w) (.cells #[.int .i64 0,.slice none 0 0,.slice none 0 0,.slice none 0 0,.int .i64 0,.slice none 0 0,.int .i64 0,.slice none 0 0,.int .i64 0,.int .i64 0,.string ⟨#[]⟩,.int .i64 0,.string ⟨#[]⟩] 37)
 have NW:=hU (Qpm w.heap.size A c l _ he.size hlen hin (Qbb.below hr he))
 obtain⟨q0,hq0⟩:∃ q0,q0=w.heap.size:=⟨_,rfl⟩
 obtain⟨L,hL⟩:∃ L,L=l.length:=⟨_,rfl⟩
 rw[<-hL] at NW hlen
 rw[<-hL]
 unfold maxLen at hlen
 obtain⟨k,hk⟩:∃ k:Nat,(4:Int)+(L:Int) / 12=(k:Int):=⟨L / 12+4,by omega⟩
 clear hin hr hL
 go_enter Tryz.func8,Tryz.ntmps8
 go_upto_region 1 with fail
 rw[<-hq0] at Q0
 rw[<-hq0]
 obtain⟨w1,hw1⟩:∃ w1,w1=w.alloc (.cells #[.int .i64 0,.slice none 0 0,.slice none 0 0,.slice none 0 0,.int .i64 0,.slice none 0 0,.int .i64 0,.slice none 0 0,.int .i64 0,.int .i64 0,.string ⟨#[]⟩,.int .i64 0,.string ⟨#[]⟩] 37):=⟨_,rfl⟩
 rw[<-hw1] at Q0 he NW
 rw[<-hw1]
 have hqw:w.heap.size<=q0:=by omega
 have hq1:q0<w1.heap.size:=Q0.lt
 clear hw1 hq0
 go_wp2_with fail
 refine NW.out.mono ?_
 rintro e w2 ⟨g,hg,rfl,hc,h1⟩
 have hs1:=he.size
 replace Q0:=Q0.ext h1;replace he:=he.next h1
 have CU:=hU hc
 have hgl:=hc.lt
 clear h1 NW hc
 go_upto_region 3 with fail
 clear hk
 have KK:∀(m:Nat),m<=24->∀(x:Int),0<=x->x<32->∀(W:World),Qc6 W w.heap.size g A c l->Calls Tryz.prog 37 #[.pointer (some ⟨g,0,none⟩),.int .i64 (1+x),.int .i64 (m:Int)] W fun e w'=>∃(b:Qad) (M:List Value),RB 24 b/\e=.returned (.agg M.toArray)/\BVal W.heap.size b M w'/\Qc6 w' w.heap.size g A c l/\Qaz g W w':=fun m hm x h0 h1 W hc=>Qrt w.heap.size g A c l (1+x) m W (by simp[inR];omega) hm hc
 have KK:=hU KK
 by_cases c24:24<k
 · have d24:(24:Int)<(k:Int):=by omega
   go_wp2_with fail
   refine(Qbl w.heap.size g A c l 32 _ (by decide) (by decide) CU.out).mono ?_
   rintro e w3 ⟨x,⟨x0,x1⟩,rfl,hc,kk⟩
   have e5:IntKind.i64.wrap (1+x)=1+x:=IntWalk.i64_in _ (by omega)
   have he3:=he.nextBut (by omega) kk
   have Q3:=Q0.extBut kk (by omega)
   have CU3:=hU hc
   clear hc kk Q0 CU he
   go_wp2_with fail
   refine(KK.out 24 (by omega) x x0 x1 _ CU3.out).mono ?_
   rintro e w4 ⟨b,M,hB,rfl,hv,hc,kk⟩
   have he4:=he3.nextBut (by omega) kk
   have Q4:=Q3.extBut kk (by omega)
   have hs3:=he3.size
   obtain⟨w5,hw5,z1,z2,z3⟩:∃ w5,w5=w4.setCells q0 0 M/\Blk w5 q0 37 M.toArray/\BVal w.heap.size b M w5/\Ext w w5:=⟨_,rfl,Qas Q4 M (by rw[hv.len];rfl),(hv.low hs3).putB Q4 M 0,Qaa (W:=w) hqw M 0 _ he4⟩
   have T:=hU (show w4.there q0 0 M.length by rw[hv.len];exact Q4.there 0 13 (by simp))
   have HW:=hU hw5;have Z1:=hU z1;have Z2:=hU z2;have Z3:=hU z3
   have M13:=hU hv.len;have M1:=hU hv.one;have HB:=hU hB
   clear hw5 z1 z2 z3 hv hc kk he4 Q4 he3 Q3 CU3 hB KK
   go_wp2_with (refine Qac rfl 37 _ _ rfl rfl q0 0 M rfl rfl T.out (by rw[M13.out];kernel_rfl) M1.out ?_;rw[<-HW.out])
   exact Qdc rfl rfl Z1.out Tryz.underlying37 rfl (by rw[List.size_toArray,M13.out];kernel_rfl) rfl ⟨b,M,HB.out,rfl,Z2.out,Z3.out⟩
 · have d24:¬ (24:Int)<(k:Int):=by omega
   go_wp2_with fail
   refine(Qbl w.heap.size g A c l 32 _ (by decide) (by decide) CU.out).mono ?_
   rintro e w3 ⟨x,⟨x0,x1⟩,rfl,hc,kk⟩
   have e5:IntKind.i64.wrap (1+x)=1+x:=IntWalk.i64_in _ (by omega)
   have he3:=he.nextBut (by omega) kk
   have Q3:=Q0.extBut kk (by omega)
   have CU3:=hU hc
   clear hc kk Q0 CU he
   go_wp2_with fail
   refine(KK.out k (by omega) x x0 x1 _ CU3.out).mono ?_
   rintro e w4 ⟨b,M,hB,rfl,hv,hc,kk⟩
   have he4:=he3.nextBut (by omega) kk
   have Q4:=Q3.extBut kk (by omega)
   have hs3:=he3.size
   obtain⟨w5,hw5,z1,z2,z3⟩:∃ w5,w5=w4.setCells q0 0 M/\Blk w5 q0 37 M.toArray/\BVal w.heap.size b M w5/\Ext w w5:=⟨_,rfl,Qas Q4 M (by rw[hv.len];rfl),(hv.low hs3).putB Q4 M 0,Qaa (W:=w) hqw M 0 _ he4⟩
   have T:=hU (show w4.there q0 0 M.length by rw[hv.len];exact Q4.there 0 13 (by simp))
   have HW:=hU hw5;have Z1:=hU z1;have Z2:=hU z2;have Z3:=hU z3
   have M13:=hU hv.len;have M1:=hU hv.one;have HB:=hU hB
   clear hw5 z1 z2 z3 hv hc kk he4 Q4 he3 Q3 CU3 hB KK
   go_wp2_with (refine Qac rfl 37 _ _ rfl rfl q0 0 M rfl rfl T.out (by rw[M13.out];kernel_rfl) M1.out ?_;rw[<-HW.out])
   exact Qdc rfl rfl Z1.out Tryz.underlying37 rfl (by rw[List.size_toArray,M13.out];kernel_rfl) rfl ⟨b,M,HB.out,rfl,Z2.out,Z3.out⟩
set_option maxHeartbeats 2000000
theorem Qq3(A:Option Addr)(c:Nat)(l:List Int)(w:World)(hlen:l.length<=maxLen)(hin:∀ x∈l,Qld x)(hr:Qav w w.heap.size Qn8 1 A l) :
 Calls Tryz.prog 9 #[.slice A l.length c] w fun e w'=>Ext w w'/\∃(x:Int) (t1:ByteArray) (n1:Nat) (s1 s2 who t2:ByteArray) (n2 y1 y2 y3:Int) (qi:Nat),(0<=x/\x<3)/\t1∈Qj5/\s1.size<=2/\s2.size<=8/\who∈whos/\t2∈Qj5/\n1<100/\0<=n2/\n2<3/\
  e=.returned (.tuple #[.int .i64 x,.agg #[.string t1,.int .i64 0,.int .i64 n1,.string s1,.string s2],.agg #[.string who,.string t2,.int .i64 n2],.slice (some ⟨qi,0,none⟩) 3 3])/\Blk w' qi 3 #[.int .i64 y1,.int .i64 y2,.int .i64 y3]/\(0<=y1/\y1<2)/\(0<=y2/\y2<60)/\(0<=y3/\y3<4):=by
 go_enter Tryz.func9,Tryz.ntmps9
 go_wp2_with fail
 have P0:w.heap.size<=((w.alloc (.cells #[.string ⟨#[]⟩,.int .i64 0,.int .i64 0,.string ⟨#[]⟩,.string ⟨#[]⟩] 40)).alloc (.cells #[.string ⟨#[]⟩,.string ⟨#[]⟩,.int .i64 0] 42)).heap.size:=by simp;omega
 have E0:=Ext.new (Ext.new (Below.refl w.heap.size w) (.cells #[.string ⟨#[]⟩,.int .i64 0,.int .i64 0,.string ⟨#[]⟩,.string ⟨#[]⟩] 40)) (.cells #[.string ⟨#[]⟩,.string ⟨#[]⟩,.int .i64 0] 42)
 have R1:=(Blk.new w 40 #[.string ⟨#[]⟩,.int .i64 0,.int .i64 0,.string ⟨#[]⟩,.string ⟨#[]⟩]).alloc (.cells #[.string ⟨#[]⟩,.string ⟨#[]⟩,.int .i64 0] 42)
 have R2:=Blk.new (w.alloc (.cells #[.string ⟨#[]⟩,.int .i64 0,.int .i64 0,.string ⟨#[]⟩,.string ⟨#[]⟩] 40)) 42 #[.string ⟨#[]⟩,.string ⟨#[]⟩,.int .i64 0]
 rw[World.size_alloc] at R2
 have hr0:=hr.below E0
 generalize (w.alloc (.cells #[.string ⟨#[]⟩,.int .i64 0,.int .i64 0,.string ⟨#[]⟩,.string ⟨#[]⟩] 40)).alloc (.cells #[.string ⟨#[]⟩,.string ⟨#[]⟩,.int .i64 0] 42)=w0 at *
 refine(Qpm w.heap.size A c l w0 P0 hlen hin hr0).mono ?_
 rintro e w1 ⟨g,hg,rfl,C1,E1⟩
 have he:=E0.next E1
 have hWg:w.heap.size<=g:=Nat.le_trans E0.size hg
 have hg1:w.heap.size≠g:=by have:=R2.lt;omega
 have hg2:w.heap.size+1≠g:=by have:=R2.lt;omega
 replace R1:=R1.ext E1
 replace R2:=R2.ext E1
 clear hr hr0 E0 E1
 go_wp2_with fail
 refine((Qbl _ g A c l 3 _ (by decide) (by decide) C1)).mono ?_
 rintro e w2 ⟨x,hx,rfl,C2,k1⟩
 replace he:=he.nextBut hWg k1
 replace R1:=R1.extBut k1 hg1
 replace R2:=R2.extBut k1 hg2
 clear C1 k1
 go_wp2_with fail
 refine((Qfj _ g A c l _ C2)).mono ?_
 rintro e w3 ⟨t1,ht1,rfl,C3,k1⟩
 replace he:=he.nextBut hWg k1
 replace R1:=R1.extBut k1 hg1
 replace R2:=R2.extBut k1 hg2
 clear C2 k1
 go_wp2_with fail
 refine((Qbl _ g A c l 100 _ (by decide) (by decide) C3)).mono ?_
 rintro e w4 ⟨n1,⟨hn1,hn2⟩,rfl,C4,k1⟩
 replace he:=he.nextBut hWg k1
 replace R1:=R1.extBut k1 hg1
 replace R2:=R2.extBut k1 hg2
 clear C3 k1
 obtain⟨n1,rfl⟩:∃ k:Nat,n1=(k:Int):=⟨n1.toNat,by omega⟩
 go_wp2_with fail
 refine((Qbl _ g A c l 3 _ (by decide) (by decide) C4)).mono ?_
 rintro e w5 ⟨m1,⟨hm1,hm2⟩,rfl,C5,k1⟩
 replace he:=he.nextBut hWg k1
 replace R1:=R1.extBut k1 hg1
 replace R2:=R2.extBut k1 hg2
 clear C4 k1
 obtain⟨m1,rfl⟩:∃ k:Nat,m1=(k:Int):=⟨m1.toNat,by omega⟩
 go_wp2_with fail
 refine((Qhl _ g A c l m1 _ (by omega) C5)).mono ?_
 rintro e w6 ⟨s1,hs1,rfl,C6,k1⟩
 replace he:=he.nextBut hWg k1
 replace R1:=R1.extBut k1 hg1
 replace R2:=R2.extBut k1 hg2
 clear C5 k1
 go_wp2_with fail
 refine((Qbl _ g A c l 9 _ (by decide) (by decide) C6)).mono ?_
 rintro e w7 ⟨m2,⟨hm3,hm4⟩,rfl,C7,k1⟩
 replace he:=he.nextBut hWg k1
 replace R1:=R1.extBut k1 hg1
 replace R2:=R2.extBut k1 hg2
 clear C6 k1
 obtain⟨m2,rfl⟩:∃ k:Nat,m2=(k:Int):=⟨m2.toNat,by omega⟩
 go_wp2_with fail
 refine((Qhl _ g A c l m2 _ (by omega) C7)).mono ?_
 rintro e w8 ⟨s2,hs2,rfl,C8,k1⟩
 replace he:=he.nextBut hWg k1
 replace R1:=R1.extBut k1 hg1
 replace R2:=R2.extBut k1 hg2
 clear C7 k1
 have hC8:=C8.lt
 have hq0:w.heap.size+1<w8.heap.size:=R2.lt
 go_wp2_with fail
 have R3:=(Blk.new w8 40 #[.string t1,.int .i64 0,.int .i64 (n1:Int),.string s1,.string s2]).alloc (.cells #[.string ⟨#[97,110,110]⟩,.string ⟨#[98,111,98]⟩,.string ⟨#[101,118,101]⟩] 9)
 have R4:=Blk.new (w8.alloc (.cells #[.string t1,.int .i64 0,.int .i64 (n1:Int),.string s1,.string s2] 40)) 9 #[.string ⟨#[97,110,110]⟩,.string ⟨#[98,111,98]⟩,.string ⟨#[101,118,101]⟩]
 rw[World.size_alloc] at R4
 replace C8:=(C8.alloc (.cells #[.string t1,.int .i64 0,.int .i64 (n1:Int),.string s1,.string s2] 40)).alloc (.cells #[.string ⟨#[97,110,110]⟩,.string ⟨#[98,111,98]⟩,.string ⟨#[101,118,101]⟩] 9)
 replace he:=Ext.new (Ext.new he (.cells #[.string t1,.int .i64 0,.int .i64 (n1:Int),.string s1,.string s2] 40)) (.cells #[.string ⟨#[97,110,110]⟩,.string ⟨#[98,111,98]⟩,.string ⟨#[101,118,101]⟩] 9)
 replace R1:=(R1.alloc (.cells #[.string t1,.int .i64 0,.int .i64 (n1:Int),.string s1,.string s2] 40)).alloc (.cells #[.string ⟨#[97,110,110]⟩,.string ⟨#[98,111,98]⟩,.string ⟨#[101,118,101]⟩] 9)
 replace R2:=(R2.alloc (.cells #[.string t1,.int .i64 0,.int .i64 (n1:Int),.string s1,.string s2] 40)).alloc (.cells #[.string ⟨#[97,110,110]⟩,.string ⟨#[98,111,98]⟩,.string ⟨#[101,118,101]⟩] 9)
 have hg3:w8.heap.size≠g:=by have:=hC8;omega
 have hg4:w8.heap.size+1≠g:=by have:=hC8;omega
 have hq1:w.heap.size+1<w8.heap.size:=hq0
 clear hC8 hq0
 generalize w8.heap.size=q at *
 generalize (w8.alloc (.cells #[.string t1,.int .i64 0,.int .i64 (n1:Int),.string s1,.string s2] 40)).alloc (.cells #[.string ⟨#[97,110,110]⟩,.string ⟨#[98,111,98]⟩,.string ⟨#[101,118,101]⟩] 9)=wa at *
 refine((Qhm _ g (q+1) A c _ l whos _ (by decide) (by decide) hg4 R4 C8)).mono ?_
 rintro e w9 ⟨who,hwho,rfl,C9,k1⟩
 replace he:=he.nextBut hWg k1
 replace R1:=R1.extBut k1 hg1
 replace R2:=R2.extBut k1 hg2
 replace R3:=R3.extBut k1 hg3
 clear C8 k1
 go_wp2_with fail
 refine((Qfj _ g A c l _ C9)).mono ?_
 rintro e w10 ⟨t2,ht2,rfl,C10,k1⟩
 replace he:=he.nextBut hWg k1
 replace R1:=R1.extBut k1 hg1
 replace R2:=R2.extBut k1 hg2
 replace R3:=R3.extBut k1 hg3
 clear C9 k1
 go_wp2_with fail
 refine((Qbl _ g A c l 3 _ (by decide) (by decide) C10)).mono ?_
 rintro e w11 ⟨n2,⟨hn3,hn4⟩,rfl,C11,k1⟩
 have C11':=C11.lt
 replace he:=he.nextBut hWg k1
 replace R1:=R1.extBut k1 hg1
 replace R2:=R2.extBut k1 hg2
 replace R3:=R3.extBut k1 hg3
 clear C10 k1
 go_wp2_with fail
 have R5:=Blk.new w11 42 #[.string who,.string t2,.int .i64 n2]
 replace C11:=C11.alloc (.cells #[.string who,.string t2,.int .i64 n2] 42)
 replace he:=Ext.new he (.cells #[.string who,.string t2,.int .i64 n2] 42)
 replace R1:=R1.alloc (.cells #[.string who,.string t2,.int .i64 n2] 42)
 replace R2:=R2.alloc (.cells #[.string who,.string t2,.int .i64 n2] 42)
 have hg5:w11.heap.size≠g:=by have:=C11';omega
 have hq2:q<w11.heap.size:=R3.lt
 replace R3:=R3.alloc (.cells #[.string who,.string t2,.int .i64 n2] 42)
 generalize w11.heap.size=q2 at *
 generalize w11.alloc (.cells #[.string who,.string t2,.int .i64 n2] 42)=wb at *
 refine wp_region_held_drew (S:=Qgl w w.heap.size g q q2 A c l #[.string t1,.int .i64 0,.int .i64 (n1:Int),.string s1,.string s2] #[.string who,.string t2,.int .i64 n2]) (by kernel_rfl) (Qgl.ext ⟨he,C11,R3,R5,⟨_,rfl,R1⟩,⟨_,rfl,R2⟩⟩ ⟨rfl,rfl,rfl,Nat.le_refl _,fun _ _=>rfl⟩) (fun hHeld=>?_)
 clear he C11 R3 R5 R1 R2 R4
 refine wpAnyH_take (i:=0) (oi:=_) (v:=?v0) rfl (by kernel_rfl) (by kernel_rfl) (by kernel_rfl) (fun _ _ _ h=>h) (Or.inl ⟨by first|(go_simp;done)|rfl,?hy0⟩) hHeld ?rest0
 case hy0=>(intro w9 h9;go_simp;(try with_reducible rfl))
 case rest0=>
 (try simp only[Act.put,List.setIfInBounds_toArray,List.set_cons_zero,List.set_cons_succ])
 refine wpAnyH_take (i:=1) (oi:=_) (v:=_) rfl (by kernel_rfl) (by kernel_rfl) (by kernel_rfl) (fun _ _ _ h=>h) (yieldsIf_load_mid (by rfl) 40 _ rfl q 0 rfl [.string t1,.int .i64 0,.int .i64 (n1:Int),.string s1,.string s2] _ (fun w' h=>Blk.range h.2.2.1) Tryz.underlying40 rfl (by kernel_rfl)) hHeld ?_
 (try simp only[Act.put,List.setIfInBounds_toArray,List.set_cons_zero,List.set_cons_succ])
 refine wpAnyH_take (i:=2) (oi:=_) (v:=_) rfl (by kernel_rfl) (by kernel_rfl) (by kernel_rfl) (fun _ _ _ h=>h) (yieldsIf_load_mid (by rfl) 42 _ rfl q2 0 rfl [.string who,.string t2,.int .i64 n2] _ (fun w' h=>Blk.range h.2.2.2.1) Tryz.underlying42 rfl (by kernel_rfl)) hHeld ?_
 (try simp only[Act.put,List.setIfInBounds_toArray,List.set_cons_zero,List.set_cons_succ])
 refine wpAnyH_take (i:=3) (oi:=_) (v:=?v1) rfl (by kernel_rfl) (by kernel_rfl) (by kernel_rfl) (fun _ _ _ h=>h) (Or.inl ⟨by first|(go_simp;done)|rfl,?hy1⟩) hHeld ?rest1
 case hy1=>(intro w9 h9;go_simp;(try with_reducible rfl))
 case rest1=>
 (try simp only[Act.put,List.setIfInBounds_toArray,List.set_cons_zero,List.set_cons_succ])
 refine wpAnyH_take (i:=5) (oi:=_) (v:=?v2) rfl (by kernel_rfl) (by kernel_rfl) (by kernel_rfl) (fun _ _ _ h=>h) (Or.inl ⟨by first|(go_simp;done)|rfl,?hy2⟩) hHeld ?rest2
 case hy2=>(intro w9 h9;go_simp;(try with_reducible rfl))
 case rest2=>
 (try simp only[Act.put,List.setIfInBounds_toArray,List.set_cons_zero,List.set_cons_succ])
 refine wpAnyH_take (i:=7) (oi:=_) (v:=?v3) rfl (by kernel_rfl) (by kernel_rfl) (by kernel_rfl) (fun _ _ _ h=>h) (Or.inl ⟨by first|(go_simp;done)|rfl,?hy3⟩) hHeld ?rest3
 case hy3=>(intro w9 h9;go_simp;(try with_reducible rfl))
 case rest3=>
 (try simp only[Act.put,List.setIfInBounds_toArray,List.set_cons_zero,List.set_cons_succ])
 refine wpAnyH_ready (rs:=[4]) (by kernel_rfl) (by simp) ?_
 refine AllReadyH.cons (o:=_) rfl (fun K hK=>?_) AllReadyH.nil
 go_simp
 refine(Qbl _ g A c l 2 _ (by decide) (by decide) hHeld.2.1).mono ?_
 rintro e v4 ⟨y1,hy1,rfl,D4,k4⟩
 (try go_wp2_with fail)
 refine hK.out _ _ (hHeld.call hWg hg1 hg2 hg3 hg5 D4 k4) (fun hH4=>?_)
 clear hK K D4 k4
 (try simp only[Act.put,List.setIfInBounds_toArray,List.set_cons_zero,List.set_cons_succ])
 refine wpAnyH_ready (rs:=[6]) (by kernel_rfl) (by simp) ?_
 refine AllReadyH.cons (o:=_) rfl (fun K hK=>?_) AllReadyH.nil
 go_simp
 refine(Qbl _ g A c l 60 _ (by decide) (by decide) hH4.2.1).mono ?_
 rintro e v6 ⟨y2,hy2,rfl,D6,k6⟩
 (try go_wp2_with fail)
 refine hK.out _ _ (hH4.call hWg hg1 hg2 hg3 hg5 D6 k6) (fun hH6=>?_)
 clear hK K D6 k6
 (try simp only[Act.put,List.setIfInBounds_toArray,List.set_cons_zero,List.set_cons_succ])
 refine wpAnyH_ready (rs:=[8]) (by kernel_rfl) (by simp) ?_
 refine AllReadyH.cons (o:=_) rfl (fun K hK=>?_) AllReadyH.nil
 go_simp
 refine(Qbl _ g A c l 4 _ (by decide) (by decide) hH6.2.1).mono ?_
 rintro e v8 ⟨y3,hy3,rfl,D8,k8⟩
 (try go_wp2_with fail)
 refine hK.out _ _ (hH6.call hWg hg1 hg2 hg3 hg5 D8 k8) (fun hH8=>?_)
 clear hK K D8 k8
 (try simp only[Act.put,List.setIfInBounds_toArray,List.set_cons_zero,List.set_cons_succ])
 refine wpAnyH_take (i:=10) (oi:=_) (v:=?v10) rfl (by kernel_rfl) (by kernel_rfl) (by kernel_rfl) (fun _ _ _ h=>h) (Or.inl ⟨by first|(go_simp;done)|rfl,?hy10⟩) hH8 ?rest10
 case hy10=>(intro w9 h9;go_simp;(try with_reducible rfl))
 case rest10=>
 (try simp only[Act.put,List.setIfInBounds_toArray,List.set_cons_zero,List.set_cons_succ])
 have hqq:w.heap.size<q:=by omega
 have hqq2:w.heap.size<q2:=by omega
 have hq3:w.heap.size+1<q:=by omega
 have hq4:w.heap.size+1<q2:=by omega
 refine wpAnyH_ready (rs:=[9,11]) (by decide +kernel) (by simp) ?_
 refine AllReadyH.cons (o:=_) rfl (fun K hK=>?_) (AllReadyH.cons (o:=_) rfl (fun K hK=>?_) AllReadyH.nil)
 · go_simp
   have G1:=Qgl.ext hH8 (Ext.new (Below.refl _ _) (.cells #[.int .i64 y1,.int .i64 y2,.int .i64 y3] 3))
   have KI:=Blk.new v8 3 #[.int .i64 y1,.int .i64 y2,.int .i64 y3]
   have hI:w.heap.size+1<v8.heap.size:=by have:=hH8.2.2.1.lt;omega
   refine hK.out _ _ G1 (fun _=>?_)
   clear hK K
   (try simp only[Act.put,List.setIfInBounds_toArray,List.set_cons_zero,List.set_cons_succ])
   generalize v8.alloc (.cells #[.int .i64 y1,.int .i64 y2,.int .i64 y3] 3)=u1 at G1 KI ⊢
   refine wpAnyH_ready (rs:=[11]) (by decide +kernel) (by simp) ?_
   refine AllReadyH.cons (o:=_) rfl (fun K hK=>?_) AllReadyH.nil
   obtain⟨a0,ha0,hA0⟩:=G1.2.2.2.2.1
   refine Qdn 40 _ _ rfl rfl w.heap.size 0 [.string t1,.int .i64 0,.int .i64 (n1:Int),.string s1,.string s2] rfl rfl (hA0.there 0 5 (by omega)) (by kernel_rfl) (by simp[Value.oneCell']) ?_
   obtain⟨D1,D2⟩:=Qgl.put1 G1 (Nat.le_refl _) hg1 hqq hqq2 [.string t1,.int .i64 0,.int .i64 (n1:Int),.string s1,.string s2] rfl
   clear hA0 ha0 a0
   refine hK.out _ _ D1 (fun _=>?_)
   clear hK K
   (try simp only[Act.put,List.setIfInBounds_toArray,List.set_cons_zero,List.set_cons_succ])
   replace KI:=KI.farCells (g':=w.heap.size) (by omega) [.string t1,.int .i64 0,.int .i64 (n1:Int),.string s1,.string s2] 0
   generalize u1.setCells w.heap.size 0 [.string t1,.int .i64 0,.int .i64 (n1:Int),.string s1,.string s2]=u2 at D1 D2 KI ⊢
   refine wpAnyH_ready (rs:=[12]) (by decide +kernel) (by simp) ?_
   refine AllReadyH.cons (o:=_) rfl (fun K hK=>?_) AllReadyH.nil
   obtain⟨b0,hb0,hB0⟩:=D1.2.2.2.2.2
   refine Qdn 42 _ _ rfl rfl (w.heap.size+1) 0 [.string who,.string t2,.int .i64 n2] rfl rfl (hB0.there 0 3 (by omega)) (by kernel_rfl) (by simp[Value.oneCell']) ?_
   obtain⟨F1,F2⟩:=Qgl.put2 D1 (Nat.le_refl _) hg2 hq3 hq4 [.string who,.string t2,.int .i64 n2] rfl
   have D3:=D2.farCells (g':=w.heap.size+1) (by omega) [.string who,.string t2,.int .i64 n2] 0
   clear hB0 hb0 b0
   refine hK.out _ _ F1 (fun _=>?_)
   clear hK K
   (try simp only[Act.put,List.setIfInBounds_toArray,List.set_cons_zero,List.set_cons_succ])
   replace KI:=KI.farCells (g':=w.heap.size+1) (by omega) [.string who,.string t2,.int .i64 n2] 0
   generalize u2.setCells (w.heap.size+1) 0 [.string who,.string t2,.int .i64 n2]=u3 at F1 F2 D3 KI ⊢
   refine wpAnyH_ready (rs:=[13]) (by decide +kernel) (by simp) ?_
   refine AllReadyH.cons (o:=_) rfl (fun K hK=>?_) AllReadyH.nil
   go_simp
   refine hK.out _ _ F1 (fun _=>?_)
   clear hK K
   (try simp only[Act.put,List.setIfInBounds_toArray,List.set_cons_zero,List.set_cons_succ])
   refine wpAnyH_done (by kernel_rfl) ?_ _
   go_wp2_with fail
   refine Qp6 (s:=2) (p:=3) (q:=4) (u:=5) (t:=40) (t':=42) rfl rfl rfl D3 F2 Tryz.underlying40 Tryz.underlying42 rfl rfl (by kernel_rfl) (by kernel_rfl) rfl ?_
   exact⟨F1.1,x,t1,n1,s1,s2,who,t2,n2,y1,y2,y3,_,hx,ht1,by omega,by omega,hwho,ht2,by omega,hn3,hn4,rfl,KI,hy1,hy2,hy3⟩
 · obtain⟨a0,ha0,hA0⟩:=hH8.2.2.2.2.1
   refine Qdn 40 _ _ rfl rfl w.heap.size 0 [.string t1,.int .i64 0,.int .i64 (n1:Int),.string s1,.string s2] rfl rfl (hA0.there 0 5 (by omega)) (by kernel_rfl) (by simp[Value.oneCell']) ?_
   obtain⟨D1,D2⟩:=Qgl.put1 hH8 (Nat.le_refl _) hg1 hqq hqq2 [.string t1,.int .i64 0,.int .i64 (n1:Int),.string s1,.string s2] rfl
   clear hA0 ha0 a0
   refine hK.out _ _ D1 (fun _=>?_)
   clear hK K
   (try simp only[Act.put,List.setIfInBounds_toArray,List.set_cons_zero,List.set_cons_succ])
   generalize v8.setCells w.heap.size 0 [.string t1,.int .i64 0,.int .i64 (n1:Int),.string s1,.string s2]=u1 at D1 D2 ⊢
   refine wpAnyH_ready (rs:=[9,12]) (by decide +kernel) (by simp) ?_
   refine AllReadyH.cons (o:=_) rfl (fun K hK=>?_) (AllReadyH.cons (o:=_) rfl (fun K hK=>?_) AllReadyH.nil)
   · go_simp
     have G1:=Qgl.ext D1 (Ext.new (Below.refl _ _) (.cells #[.int .i64 y1,.int .i64 y2,.int .i64 y3] 3))
     have KI:=Blk.new u1 3 #[.int .i64 y1,.int .i64 y2,.int .i64 y3]
     have hI:w.heap.size+1<u1.heap.size:=by have:=D1.2.2.1.lt;omega
     replace D2:=D2.alloc (.cells #[.int .i64 y1,.int .i64 y2,.int .i64 y3] 3)
     refine hK.out _ _ G1 (fun _=>?_)
     clear hK K
     (try simp only[Act.put,List.setIfInBounds_toArray,List.set_cons_zero,List.set_cons_succ])
     generalize u1.alloc (.cells #[.int .i64 y1,.int .i64 y2,.int .i64 y3] 3)=u2 at G1 D2 KI ⊢
     refine wpAnyH_ready (rs:=[12]) (by decide +kernel) (by simp) ?_
     refine AllReadyH.cons (o:=_) rfl (fun K hK=>?_) AllReadyH.nil
     obtain⟨b0,hb0,hB0⟩:=G1.2.2.2.2.2
     refine Qdn 42 _ _ rfl rfl (w.heap.size+1) 0 [.string who,.string t2,.int .i64 n2] rfl rfl (hB0.there 0 3 (by omega)) (by kernel_rfl) (by simp[Value.oneCell']) ?_
     obtain⟨F1,F2⟩:=Qgl.put2 G1 (Nat.le_refl _) hg2 hq3 hq4 [.string who,.string t2,.int .i64 n2] rfl
     have D3:=D2.farCells (g':=w.heap.size+1) (by omega) [.string who,.string t2,.int .i64 n2] 0
     clear hB0 hb0 b0
     refine hK.out _ _ F1 (fun _=>?_)
     clear hK K
     (try simp only[Act.put,List.setIfInBounds_toArray,List.set_cons_zero,List.set_cons_succ])
     replace KI:=KI.farCells (g':=w.heap.size+1) (by omega) [.string who,.string t2,.int .i64 n2] 0
     generalize u2.setCells (w.heap.size+1) 0 [.string who,.string t2,.int .i64 n2]=u3 at F1 F2 D3 KI ⊢
     refine wpAnyH_ready (rs:=[13]) (by decide +kernel) (by simp) ?_
     refine AllReadyH.cons (o:=_) rfl (fun K hK=>?_) AllReadyH.nil
     go_simp
     refine hK.out _ _ F1 (fun _=>?_)
     clear hK K
     (try simp only[Act.put,List.setIfInBounds_toArray,List.set_cons_zero,List.set_cons_succ])
     refine wpAnyH_done (by kernel_rfl) ?_ _
     go_wp2_with fail
     refine Qp6 (s:=2) (p:=3) (q:=4) (u:=5) (t:=40) (t':=42) rfl rfl rfl D3 F2 Tryz.underlying40 Tryz.underlying42 rfl rfl (by kernel_rfl) (by kernel_rfl) rfl ?_
     exact⟨F1.1,x,t1,n1,s1,s2,who,t2,n2,y1,y2,y3,_,hx,ht1,by omega,by omega,hwho,ht2,by omega,hn3,hn4,rfl,KI,hy1,hy2,hy3⟩
   · obtain⟨b0,hb0,hB0⟩:=D1.2.2.2.2.2
     refine Qdn 42 _ _ rfl rfl (w.heap.size+1) 0 [.string who,.string t2,.int .i64 n2] rfl rfl (hB0.there 0 3 (by omega)) (by kernel_rfl) (by simp[Value.oneCell']) ?_
     obtain⟨F1,F2⟩:=Qgl.put2 D1 (Nat.le_refl _) hg2 hq3 hq4 [.string who,.string t2,.int .i64 n2] rfl
     have D3:=D2.farCells (g':=w.heap.size+1) (by omega) [.string who,.string t2,.int .i64 n2] 0
     clear hB0 hb0 b0
     refine hK.out _ _ F1 (fun _=>?_)
     clear hK K
     (try simp only[Act.put,List.setIfInBounds_toArray,List.set_cons_zero,List.set_cons_succ])
     generalize u1.setCells (w.heap.size+1) 0 [.string who,.string t2,.int .i64 n2]=u2 at F1 F2 D3 ⊢
     refine wpAnyH_ready (rs:=[9]) (by decide +kernel) (by simp) ?_
     refine AllReadyH.cons (o:=_) rfl (fun K hK=>?_) AllReadyH.nil
     go_simp
     have G1:=Qgl.ext F1 (Ext.new (Below.refl _ _) (.cells #[.int .i64 y1,.int .i64 y2,.int .i64 y3] 3))
     have KI:=Blk.new u2 3 #[.int .i64 y1,.int .i64 y2,.int .i64 y3]
     have hI:w.heap.size+1<u2.heap.size:=by have:=F1.2.2.1.lt;omega
     replace D3:=D3.alloc (.cells #[.int .i64 y1,.int .i64 y2,.int .i64 y3] 3)
     replace F2:=F2.alloc (.cells #[.int .i64 y1,.int .i64 y2,.int .i64 y3] 3)
     refine hK.out _ _ G1 (fun _=>?_)
     clear hK K
     (try simp only[Act.put,List.setIfInBounds_toArray,List.set_cons_zero,List.set_cons_succ])
     generalize u2.alloc (.cells #[.int .i64 y1,.int .i64 y2,.int .i64 y3] 3)=u3 at G1 D3 F2 KI ⊢
     refine wpAnyH_ready (rs:=[13]) (by decide +kernel) (by simp) ?_
     refine AllReadyH.cons (o:=_) rfl (fun K hK=>?_) AllReadyH.nil
     go_simp
     refine hK.out _ _ G1 (fun _=>?_)
     clear hK K
     (try simp only[Act.put,List.setIfInBounds_toArray,List.set_cons_zero,List.set_cons_succ])
     refine wpAnyH_done (by kernel_rfl) ?_ _
     go_wp2_with fail
     refine Qp6 (s:=2) (p:=3) (q:=4) (u:=5) (t:=40) (t':=42) rfl rfl rfl D3 F2 Tryz.underlying40 Tryz.underlying42 rfl rfl (by kernel_rfl) (by kernel_rfl) rfl ?_
     exact⟨G1.1,x,t1,n1,s1,s2,who,t2,n2,y1,y2,y3,_,hx,ht1,by omega,by omega,hwho,ht2,by omega,hn3,hn4,rfl,KI,hy1,hy2,hy3⟩
end Go.Proofs.YtbnkjgcpjeedfaaGreat
