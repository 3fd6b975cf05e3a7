/-
  CutI: No condition.
-/
import Derived.Test.YtbnkjgcpjeedfaaGreatSpFetI0
import Derived.Test.YtbnkjgcpjeedfaaGreatRecs
import Derived.Test.YtbnkjgcpjeedfaaGreatBrkNew
namespace Go.Proofs.YtbnkjgcpjeedfaaGreat
set_option maxHeartbeats 8000000
set_option maxRecDepth 100000
set_option linter.unusedSimpArgs false
open Go.RowKit
set_option linter.unusedVariables false
def Qtu (T:List ByteArray) (u:Value) (w:World) (e:Ending) (w':World):Prop:=∃(q' c':Nat) (cur:Array Value),e=.returned (.tuple #[.agg #[.slice (some ⟨q',0,none⟩) 3 c'],u])/\Blk w' q' 9 cur/\cur.toList.take 3=T.flatMap sone/\w.heap.size<=q'/\Ext w w'/\(3<=c'/\c'<=maxLen)
theorem Qgq{w:World}{q c:Nat}{cur:Array Value}{T:List ByteArray}(h:Blk w q 9 cur)(hc:cur.toList.take 3=T.flatMap sone)(h3:T.length=3)(hb:3<=c/\c<=maxLen):SlF AnyB sone 1 w (some ⟨q,0,none⟩) T c:=by
 refine⟨by omega,hb.2,⟨by rw[Qnt];simp,fun _=>⟨q,0,rfl,h.lt,fun j u hu=>?_⟩⟩,fun _ _ _=>trivial⟩
 rw[<-hc,List.getElem?_take] at hu
 split at hu
 · rw[Nat.zero_add,h.cell];simpa using hu
 · cases hu
theorem Qx7{w w':World}(h:Ext w w'):∃ u,u=w':=⟨w',rfl⟩
theorem Qtw(q c f:Nat)(l:List ByteArray)(s t:ByteArray)(V:Option Addr)(vc:Nat)(w:World)(hl3:l.length=3)(hok:Qch l=true)(hr:SlF AnyB sone 1 w (some ⟨q,0,none⟩) l c)(hw:Qav w w.heap.size Qbs.cells 3 V [⟨(f:Int),(s.size:Int),t⟩])(hf:f<3)(hs:l[f]?=some s)(h3:s.size<=290000)(ht:t.size<=2000)(hvc:1<=vc) :
 Calls Tryz.prog 103 #[.agg #[.slice (some ⟨q,0,none⟩) 3 c],.slice V 1 vc,.int .i64 1,.int .i64 0] w fun e w'=>Qtu (l.set f (s.extract 0 s.size++t)) (.bool true) w e w':=by
 obtain⟨B0,B1,he⟩:=Qcq w #[.slice (some ⟨q,0,none⟩) 3 c] #[.slice none 0 0] 52 52
 have DO:=hU (fun(W:World) (h:Ext w W)=>Qcr (some ⟨q,0,none⟩) c l W (hr.ext h).reads (by omega))
 rw[hl3,hok] at DO
 have PA:Hid (∀ W:World,Ext w W->Calls Tryz.prog 20 #[.agg #[.slice (some ⟨q,0,none⟩) 3 c],.slice V 1 vc] W fun e w'=>Qtu (l.set f (s.extract 0 s.size++t)) (.int .i64 1) W e w'):=hU (fun W h=>Qoh q c f s.size l s t V vc W hl3 hok (hr.ext h) (hw.ext h) hf hs (Nat.le_refl _) (by omega) (by omega))
 have RT:=hU (fun W=>Qp4 (P:=Tryz.prog) (t:=46) V 1 vc 1 3 Tryz.underlying46 (fun W=>by kernel_rfl) (by omega) W)
 have I1:=hU (show inR 1 0 1=true from rfl)
 have hvc0:¬ (vc:Int)<1:=by omega
 have hl4:=hU hl3
 clear hr hw hl3 hok hs
 go_enter Tryz.func103,Tryz.ntmps103
 go_upto_region 1 with fail
 obtain⟨w1,hw1⟩:∃ w1,w1=(w.alloc (.cells #[.slice (some ⟨q,0,none⟩) 3 c] 52)).alloc (.cells #[.slice none 0 0] 52):=⟨_,rfl⟩
 rw[<-hw1] at B0 B1 he
 rw[<-hw1]
 obtain⟨g,hg⟩:∃ g,g=w.heap.size:=⟨_,rfl⟩
 rw[<-hg] at B0 B1
 rw[<-hg]
 have hgw:w.heap.size<=g:=by omega
 clear hw1 hg
 obtain⟨r0,f0⟩:=B0.rules
 go_wp2_with fail
 refine(DO.out _ he).mono ?_
 rintro e w2 ⟨rfl,h1⟩
 replace B0:=B0.ext h1;replace B1:=B1.ext h1;replace he:=he.next h1
 clear h1 DO r0 f0
 go_wp2_with fail
 refine(Qba _ _ _ _).mono ?_
 rintro e wx ⟨rfl,rfl⟩
 rw[I1.out]
 have hx:=Ext.new (Below.refl w2.heap.size w2) (.cells #[.int .i64 0,.int .i64 0,.string ⟨#[]⟩] 50)
 have K10:=Blk.new w2 50 #[.int .i64 0,.int .i64 0,.string ⟨#[]⟩]
 have h1l:=B1.lt
 replace B0:=B0.ext hx;replace B1:=B1.ext hx;replace he:=he.next hx
 clear hx
 go_upto_region 4 with fail
 obtain⟨g10,hg10⟩:∃ g10,g10=w2.heap.size:=⟨_,rfl⟩
 rw[<-hg10] at K10 h1l
 rw[<-hg10]
 clear hg10
 generalize w2.alloc (.cells #[.int .i64 0,.int .i64 0,.string ⟨#[]⟩] 50)=w3 at *
 obtain⟨w4,hw4⟩:∃ w4,w4=w3:=⟨_,rfl⟩
 subst hw4
 go_upto_region 6 with fail
 obtain⟨r10,f10⟩:=K10.rules
 go_wp2_with fail
 refine(Qba _ _ _ _).mono ?_
 rintro e wx ⟨rfl,rfl⟩
 rw[show inR (0:Int) 0 0=true from rfl]
 clear r10 f10
 go_upto_region 8 with fail
 have HE:=hU he;have K4:=hU B0;have K8:=hU B1;have KT:=hU K10
 have h4s:=he.size
 have rt:=RT.out
 clear he B0 B1 K10
 go_cut [11,12] (fun o n wx=>∃(g11 q' c':Nat) (cur:Array Value),o=.pointer (some ⟨g11,0,none⟩)/\n=.int .i64 1/\Blk wx g11 52 #[.slice (some ⟨q',0,none⟩) 3 c']/\Blk wx q' 9 cur/\cur.toList.take 3=(l.set f (s.extract 0 s.size++t)).flatMap sone/\(3<=c'/\c'<=maxLen)/\Ext w4 wx/\w4.heap.size<=g11/\w4.heap.size<=q'/\g11≠q')
 case first=>
  refine wp_region_held_drew (S:=fun w'=>Ext w4 w') (by kernel_rfl) (Below.refl _ _).drew (fun hH=>?_)
  generalize w4.drew=wd at *
  refine Qah 0 (.agg #[.slice (some ⟨q,0,none⟩) 3 c]) (some 46) rfl rfl (by kernel_rfl) (Or.inl ⟨by rfl,?ya1⟩) hH ?ra1
  case ya1=>intro w' hS';obtain⟨r0,f0⟩:=(K4.out.ext hS').rules;go_simp;try with_reducible rfl
  try simp only[zA]
  refine Qah 1 (.slice V 1 vc) (some 47) rfl rfl (by kernel_rfl) (Or.inl ⟨by rfl,?ya2⟩) hH ?ra2
  case ya2=>intro w' hS';obtain⟨r0,f0⟩:=(K4.out.ext hS').rules;go_simp;try with_reducible rfl
  try simp only[zA]
  refine Qah 2 (.int .i64 1) (some 48) rfl rfl (by kernel_rfl) (Or.inl ⟨by rfl,?ya3⟩) hH ?ra3
  case ya3=>intro w' hS';obtain⟨r0,f0⟩:=(K4.out.ext hS').rules;go_simp;try with_reducible rfl
  try simp only[zA]
  refine Qah 3 (.slice V 1 vc) (some 49) rfl rfl (by kernel_rfl) (Or.inl ⟨by rfl,?ya4⟩) hH ?ra4
  case ya4=>intro w' hS';obtain⟨r0,f0⟩:=(K4.out.ext hS').rules;go_simp;try with_reducible rfl
  try simp only[zA]
  refine twoH 4 8 (oi:=_) (oj:=_) (some 50) (some 11) (by kernel_rfl) rfl rfl rfl rfl rfl rfl (fun K' hK=>?_) (fun K' hK=>?_)
  · skip
    refine⟨?_⟩
    rw[if_pos (by rfl)]
    go_simp
    refine(PA.out _ (HE.out.next hH)).mono ?_
    rintro e wA ⟨q',c',cur,rfl,kq,hcu,hqq,h1,hcb⟩
    have KQ:=hU kq;have HCU:=hU hcu;have HQQ:=hU (Nat.le_trans hH.size hqq);have HCB:=hU hcb
    have QX:=hU hqq
    refine hK.out _ _ ⟨_,rfl⟩ (hH.next h1) (fun hH2=>?_)
    clear hK K' hH h1 kq hcu hqq hcb
    have hH:=hH2
    clear hH2
    try simp only[zB]
    refine Qah 5 (.tuple #[.agg #[.slice (some ⟨q',0,none⟩) 3 c'],.int .i64 1]) (some 45) rfl rfl (by kernel_rfl) (Or.inl ⟨by rfl,?yap1⟩) hH ?rap1
    case yap1=>intro w' hS';obtain⟨r0,f0⟩:=(K4.out.ext hS').rules;go_simp;try with_reducible rfl
    try simp only[zA]
    refine Qah 6 (.agg #[.slice (some ⟨q',0,none⟩) 3 c']) (some 51) rfl rfl (by kernel_rfl) (Or.inl ⟨by rfl,?yap2⟩) hH ?rap2
    case yap2=>intro w' hS';obtain⟨r0,f0⟩:=(K4.out.ext hS').rules;go_simp;try with_reducible rfl
    try simp only[zA]
    refine Qah 7 (.int .i64 1) (some 52) rfl rfl (by kernel_rfl) (Or.inl ⟨by rfl,?yap3⟩) hH ?rap3
    case yap3=>intro w' hS';obtain⟨r0,f0⟩:=(K4.out.ext hS').rules;go_simp;try with_reducible rfl
    try simp only[zA]
    refine oneH 8 (oi:=_) (some 11) (by kernel_rfl) rfl rfl rfl (fun K' hK=>?_)
    refine⟨?_⟩
    rw[if_pos (by rfl)]
    go_simp
    have h1:=Ext.new (Below.refl wA.heap.size wA) (.cells #[.slice none 0 0] 52)
    have K11:=hU (Blk.new wA 52 #[.slice none 0 0])
    have G11:=hU hH.size
    have KL:=hU KQ.out.lt
    replace KQ:=hU (KQ.out.ext h1)
    refine hK.out _ _ ⟨_,rfl⟩ (hH.next h1) (fun hH2=>?_)
    clear hK K' hH h1
    have hH:=hH2
    clear hH2
    try simp only[zB]
    generalize hg11:wA.heap.size=g11 at *
    generalize wA.alloc (.cells #[.slice none 0 0] 52)=wB at *
    have NE:=hU (show g11≠q' by have:=KL.out;omega)
    refine oneH 9 (oi:=_) none (by kernel_rfl) rfl rfl rfl (fun K' hK=>?_)
    refine⟨?_⟩;rw[if_pos (by rfl)]
    refine Qao 52 _ _ (by rfl) (by rfl) g11 0 [.slice (some ⟨q',0,none⟩) 3 c'] (by rfl) (by rfl) (K11.out.there 0 1 (by simp)) (by kernel_rfl) (by rfl) ?_
    have Z1:=hU (K11.out.put 0 [.slice (some ⟨q',0,none⟩) 3 c'] #[.slice (some ⟨q',0,none⟩) 3 c'] (by simp) rfl)
    have Z2:=hU (KQ.out.farCells (g':=g11) (Ne.symm NE.out) [.slice (some ⟨q',0,none⟩) 3 c'] 0)
    have h1:Ext w4 (wB.setCells g11 0 [.slice (some ⟨q',0,none⟩) 3 c']):=Qaa (W:=w4) (g:=g11) G11.out [.slice (some ⟨q',0,none⟩) 3 c'] 0 _ hH
    refine hK.out _ _ ⟨undef,rfl⟩ (h1) (fun hH2=>?_)
    clear hK K' hH
    have hH:=hH2
    clear hH2
    try simp only[zB]
    generalize wB.setCells g11 0 [.slice (some ⟨q',0,none⟩) 3 c']=w9 at *
    refine Qah 10 (.int .i64 1) (some 12) rfl rfl (by kernel_rfl) (Or.inl ⟨by rfl,?yap4⟩) hH ?rap4
    case yap4=>intro w' hS';obtain⟨r0,f0⟩:=(K4.out.ext hS').rules;go_simp;try with_reducible rfl
    try simp only[zA]
    have h1:=hH
    clear hH
    refine wpAnyH_done (by kernel_rfl) ?_ _
    try go_wp2_with fail
    go_meet
    case rel=>exact⟨g11,q',c',cur,rfl,rfl,Z1.out,Z2.out,HCU.out,HCB.out,h1,G11.out,HQQ.out,NE.out⟩
  · skip
    refine⟨?_⟩
    rw[if_pos (by rfl)]
    go_simp
    have h1:=Ext.new (Below.refl wd.heap.size wd) (.cells #[.slice none 0 0] 52)
    have K11:=hU (Blk.new wd 52 #[.slice none 0 0])
    have G11:=hU hH.size
    refine hK.out _ _ ⟨_,rfl⟩ (hH.next h1) (fun hH2=>?_)
    clear hK K' hH h1
    have hH:=hH2
    clear hH2
    try simp only[zB]
    generalize hg11:wd.heap.size=g11 at *
    generalize wd.alloc (.cells #[.slice none 0 0] 52)=wA at *
    have L11:=hU K11.out.lt
    refine oneH 4 (oi:=_) (some 50) (by kernel_rfl) rfl rfl rfl (fun K' hK=>?_)
    refine⟨?_⟩
    rw[if_pos (by rfl)]
    go_simp
    refine(PA.out _ (HE.out.next hH)).mono ?_
    rintro e wB ⟨q',c',cur,rfl,kq,hcu,hqq,h1,hcb⟩
    have KQ:=hU kq;have HCU:=hU hcu;have HQQ:=hU (Nat.le_trans hH.size hqq);have HCB:=hU hcb
    have QX:=hU hqq
    replace K11:=hU (K11.out.ext h1)
    refine hK.out _ _ ⟨_,rfl⟩ (hH.next h1) (fun hH2=>?_)
    clear hK K' hH h1 kq hcu hqq hcb
    have hH:=hH2
    clear hH2
    try simp only[zB]
    have NE:=hU (show g11≠q' by have:=L11.out;have:=QX.out;omega)
    refine Qah 5 (.tuple #[.agg #[.slice (some ⟨q',0,none⟩) 3 c'],.int .i64 1]) (some 45) rfl rfl (by kernel_rfl) (Or.inl ⟨by rfl,?yar1⟩) hH ?rar1
    case yar1=>intro w' hS';obtain⟨r0,f0⟩:=(K4.out.ext hS').rules;go_simp;try with_reducible rfl
    try simp only[zA]
    refine Qah 6 (.agg #[.slice (some ⟨q',0,none⟩) 3 c']) (some 51) rfl rfl (by kernel_rfl) (Or.inl ⟨by rfl,?yar2⟩) hH ?rar2
    case yar2=>intro w' hS';obtain⟨r0,f0⟩:=(K4.out.ext hS').rules;go_simp;try with_reducible rfl
    try simp only[zA]
    refine Qah 7 (.int .i64 1) (some 52) rfl rfl (by kernel_rfl) (Or.inl ⟨by rfl,?yar3⟩) hH ?rar3
    case yar3=>intro w' hS';obtain⟨r0,f0⟩:=(K4.out.ext hS').rules;go_simp;try with_reducible rfl
    try simp only[zA]
    refine oneH 9 (oi:=_) none (by kernel_rfl) rfl rfl rfl (fun K' hK=>?_)
    refine⟨?_⟩;rw[if_pos (by rfl)]
    refine Qao 52 _ _ (by rfl) (by rfl) g11 0 [.slice (some ⟨q',0,none⟩) 3 c'] (by rfl) (by rfl) (K11.out.there 0 1 (by simp)) (by kernel_rfl) (by rfl) ?_
    have Z1:=hU (K11.out.put 0 [.slice (some ⟨q',0,none⟩) 3 c'] #[.slice (some ⟨q',0,none⟩) 3 c'] (by simp) rfl)
    have Z2:=hU (KQ.out.farCells (g':=g11) (Ne.symm NE.out) [.slice (some ⟨q',0,none⟩) 3 c'] 0)
    have h1:Ext w4 (wB.setCells g11 0 [.slice (some ⟨q',0,none⟩) 3 c']):=Qaa (W:=w4) (g:=g11) G11.out [.slice (some ⟨q',0,none⟩) 3 c'] 0 _ hH
    refine hK.out _ _ ⟨undef,rfl⟩ (h1) (fun hH2=>?_)
    clear hK K' hH
    have hH:=hH2
    clear hH2
    try simp only[zB]
    generalize wB.setCells g11 0 [.slice (some ⟨q',0,none⟩) 3 c']=w9 at *
    refine Qah 10 (.int .i64 1) (some 12) rfl rfl (by kernel_rfl) (Or.inl ⟨by rfl,?yar4⟩) hH ?rar4
    case yar4=>intro w' hS';obtain⟨r0,f0⟩:=(K4.out.ext hS').rules;go_simp;try with_reducible rfl
    try simp only[zA]
    have h1:=hH
    clear hH
    refine wpAnyH_done (by kernel_rfl) ?_ _
    try go_wp2_with fail
    go_meet
    case rel=>exact⟨g11,q',c',cur,rfl,rfl,Z1.out,Z2.out,HCU.out,HCB.out,h1,G11.out,HQQ.out,NE.out⟩
 case rest=>
 obtain⟨g11,q',c',cur,rfl,rfl,k11,kq,hcu,hcb,h1,hg1,hg2,hne⟩:=hcut
 obtain⟨w5,hw5⟩:=Qx7 h1
 subst hw5
 have K11:=hU k11;have KQ:=hU kq;have HCU:=hU hcu;have HCB:=hU hcb;have E5:=hU (HE.out.next h1);have K85:=hU (K8.out.ext h1);have KT5:=hU (KT.out.ext h1)
 have hl8:=K8.out.lt;have hlt:=KT.out.lt
 have hqw:w.heap.size<=q':=by omega
 clear k11 kq hcu hcb h1 HE K4 K8 KT rt
 have Z1:=hU (K85.out.put 0 [.slice (some ⟨q',0,none⟩) 3 c'] #[.slice (some ⟨q',0,none⟩) 3 c'] (by simp) rfl)
 have Z2:=hU (KQ.out.farCells (g':=g+1) (by omega) [.slice (some ⟨q',0,none⟩) 3 c'] 0)
 have Z3:=hU (Qaa (W:=w) (g:=g+1) (by omega) [.slice (some ⟨q',0,none⟩) 3 c'] 0 _ E5.out)
 obtain⟨r11,f11⟩:=K11.out.rules
 obtain⟨r8,f8⟩:=K85.out.rules
 go_wp2_with fail
 exact Qat rfl rfl Z1.out Tryz.underlying52 rfl (by kernel_rfl) rfl ⟨q',c',cur,rfl,Z2.out,HCU.out,hqw,Z3.out,HCB.out⟩
theorem Qv3(q c f part:Nat)(l:List ByteArray)(s t:ByteArray)(V:Option Addr)(vc:Nat)(w:World)(hl3:l.length=3)(hok:Qch l=true)(hr:SlF AnyB sone 1 w (some ⟨q,0,none⟩) l c)(hw:Qav w w.heap.size Qbs.cells 3 V [⟨(f:Int),(s.size:Int),t⟩])(hf:f<3)(hs:l[f]?=some s)(h3:s.size<=290000)(ht:t.size<=2000)(hvc:1<=vc)(hp:part<=t.size) :
 Calls Tryz.prog 103 #[.agg #[.slice (some ⟨q,0,none⟩) 3 c],.slice V 1 vc,.int .i64 0,.int .i64 (part:Int)] w fun e w'=>Qtu (if part=0 then l else l.set f (s.extract 0 s.size++t.extract 0 part)) (.bool true) w e w':=by
 obtain⟨B0,B1,he⟩:=Qcq w #[.slice (some ⟨q,0,none⟩) 3 c] #[.slice none 0 0] 52 52
 have DO:=hU (fun(W:World) (h:Ext w W)=>Qcr (some ⟨q,0,none⟩) c l W (hr.ext h).reads (by omega))
 rw[hl3,hok] at DO
 have PA:Hid (∀ W:World,Ext w W->Calls Tryz.prog 20 #[.agg #[.slice (some ⟨q,0,none⟩) 3 c],.slice V 0 vc] W fun e w'=>Qtu l (.int .i64 0) W e w'):=hU (fun W h=>Qj0 q c l V vc W hl3 hok (hr.ext h))
 have RT:=hU (fun W=>Qp4 (P:=Tryz.prog) (t:=46) V 1 vc 0 3 Tryz.underlying46 (fun W=>by kernel_rfl) (by omega) W)
 have PT:=hU (fun(q' c':Nat) (cur:Array Value) (W:World) (h1:Blk W q' 9 cur) (h2:cur.toList.take 3=l.flatMap sone) (h5:3<=c'/\c'<=maxLen)=>Put_good q' c' f s.size l s (t.extract 0 part) W hl3 hok (Qgq h1 h2 hl3 h5) hf hs (Nat.le_refl _) (by omega) (by rw[ByteArray.size_extract];omega))
 obtain⟨b0,off,rfl,hb0,hc⟩:=Qbb.at_ hw (k:=0) (by simp)
 have y0:w.cell? ⟨b0,off,none⟩=some (.int .i64 (f:Int)):=hc 0 _ rfl
 have y1:w.cell? ⟨b0,off+1,none⟩=some (.int .i64 (s.size:Int)):=by have:=hc 1 (.int .i64 (s.size:Int)) rfl;simpa using this
 have y2:w.cell? ⟨b0,off+2,none⟩=some (.string t):=by have:=hc 2 (.string t) rfl;simpa using this
 have Y:Hid (∀ W,Ext w W->W.cell? ⟨b0,off,none⟩=some (.int .i64 (f:Int))/\W.cell? ⟨b0,off+1,none⟩=some (.int .i64 (s.size:Int))/\W.cell? ⟨b0,off+2,none⟩=some (.string t)):=hU (fun W h=>⟨(h.cell (p:=⟨b0,off,none⟩) hb0).trans y0,(h.cell (p:=⟨b0,off+1,none⟩) hb0).trans y1,(h.cell (p:=⟨b0,off+2,none⟩) hb0).trans y2⟩)
 have I2:=hU (show inR (part:Int) 0 (t.size:Int)=true by simp[inR];omega)
 clear hc y0 y1 y2
 have I1:=hU (show inR 0 0 1=true from rfl)
 have hvc0:¬ (vc:Int)<1:=by omega
 have hl4:=hU hl3
 clear hr hw hl3 hok hs
 go_enter Tryz.func103,Tryz.ntmps103
 go_upto_region 1 with fail
 obtain⟨w1,hw1⟩:∃ w1,w1=(w.alloc (.cells #[.slice (some ⟨q,0,none⟩) 3 c] 52)).alloc (.cells #[.slice none 0 0] 52):=⟨_,rfl⟩
 rw[<-hw1] at B0 B1 he
 rw[<-hw1]
 obtain⟨g,hg⟩:∃ g,g=w.heap.size:=⟨_,rfl⟩
 rw[<-hg] at B0 B1
 rw[<-hg]
 have hgw:w.heap.size<=g:=by omega
 clear hw1 hg
 obtain⟨r0,f0⟩:=B0.rules
 go_wp2_with fail
 refine(DO.out _ he).mono ?_
 rintro e w2 ⟨rfl,h1⟩
 replace B0:=B0.ext h1;replace B1:=B1.ext h1;replace he:=he.next h1
 clear h1 DO r0 f0
 go_wp2_with fail
 refine(Qba _ _ _ _).mono ?_
 rintro e wx ⟨rfl,rfl⟩
 rw[I1.out]
 have hx:=Ext.new (Below.refl w2.heap.size w2) (.cells #[.int .i64 0,.int .i64 0,.string ⟨#[]⟩] 50)
 have K10:=Blk.new w2 50 #[.int .i64 0,.int .i64 0,.string ⟨#[]⟩]
 have h1l:=B1.lt
 replace B0:=B0.ext hx;replace B1:=B1.ext hx;replace he:=he.next hx
 clear hx
 go_upto_region 4 with fail
 obtain⟨g10,hg10⟩:∃ g10,g10=w2.heap.size:=⟨_,rfl⟩
 rw[<-hg10] at K10 h1l
 rw[<-hg10]
 clear hg10
 generalize w2.alloc (.cells #[.int .i64 0,.int .i64 0,.string ⟨#[]⟩] 50)=w3 at *
 obtain⟨y0,y1,y2⟩:=Y.out _ he
 obtain⟨w4,hw4,k10,b0',b1',he4⟩:∃ w4,w4=w3.setCells g10 0 [.int .i64 (f:Int),.int .i64 (s.size:Int),.string t]/\Blk w4 g10 50 #[.int .i64 (f:Int),.int .i64 (s.size:Int),.string t]/\Blk w4 g 52 #[.slice (some ⟨q,0,none⟩) 3 c]/\Blk w4 (g+1) 52 #[.slice none 0 0]/\Ext w w4:=⟨_,rfl,K10.put 0 [.int .i64 (f:Int),.int .i64 (s.size:Int),.string t] #[.int .i64 (f:Int),.int .i64 (s.size:Int),.string t] (by simp) rfl,B0.farCells (by omega) _ _,B1.farCells (by omega) _ _,Qaa (W:=w) (g:=g10) (by omega) _ 0 _ he⟩
 have T10:=hU (K10.there 0 3 (by simp));have HW4:=hU hw4
 clear hw4
 go_upto_region 6 with(refine Qac rfl 50 _ _ rfl rfl g10 0 [.int .i64 (f:Int),.int .i64 (s.size:Int),.string t] rfl rfl T10.out (by kernel_rfl) (by rfl) ?_;rw[<-HW4.out])
 clear y0 y1 y2 T10 HW4 K10 B0 B1 he
 have K10:=k10;have B0:=b0';have B1:=b1';have he:=he4
 clear k10 b0' b1' he4
 obtain⟨r10,f10⟩:=K10.rules
 go_wp2_with fail
 refine(Qba _ _ _ _).mono ?_
 rintro e wx ⟨rfl,rfl⟩
 rw[I2.out]
 clear r10 f10
 go_upto_region 8 with fail
 have HE:=hU he;have K4:=hU B0;have K8:=hU B1;have KT:=hU K10
 have h4s:=he.size
 have rt:=RT.out
 clear he B0 B1 K10
 go_cut [11,12] (fun o n wx=>∃(g11 q' c':Nat) (cur:Array Value),o=.pointer (some ⟨g11,0,none⟩)/\n=.int .i64 0/\Blk wx g11 52 #[.slice (some ⟨q',0,none⟩) 3 c']/\Blk wx q' 9 cur/\cur.toList.take 3=l.flatMap sone/\(3<=c'/\c'<=maxLen)/\Ext w4 wx/\w4.heap.size<=g11/\w4.heap.size<=q'/\g11≠q')
 case first=>
  refine wp_region_held_drew (S:=fun w'=>Ext w4 w') (by kernel_rfl) (Below.refl _ _).drew (fun hH=>?_)
  generalize w4.drew=wd at *
  refine Qah 0 (.agg #[.slice (some ⟨q,0,none⟩) 3 c]) (some 46) rfl rfl (by kernel_rfl) (Or.inl ⟨by rfl,?yb1⟩) hH ?rb1
  case yb1=>intro w' hS';obtain⟨r0,f0⟩:=(K4.out.ext hS').rules;go_simp;try with_reducible rfl
  try simp only[zA]
  refine Qah 1 (.slice (some ⟨b0,off,none⟩) 1 vc) (some 47) rfl rfl (by kernel_rfl) (Or.inl ⟨by rfl,?yb2⟩) hH ?rb2
  case yb2=>intro w' hS';obtain⟨r0,f0⟩:=(K4.out.ext hS').rules;go_simp;try with_reducible rfl
  try simp only[zA]
  refine Qah 2 (.int .i64 0) (some 48) rfl rfl (by kernel_rfl) (Or.inl ⟨by rfl,?yb3⟩) hH ?rb3
  case yb3=>intro w' hS';obtain⟨r0,f0⟩:=(K4.out.ext hS').rules;go_simp;try with_reducible rfl
  try simp only[zA]
  refine Qah 3 (.slice (some ⟨b0,off,none⟩) 0 vc) (some 49) rfl rfl (by kernel_rfl) (Or.inl ⟨by rfl,?yb4⟩) hH ?rb4
  case yb4=>intro w' hS';obtain⟨r0,f0⟩:=(K4.out.ext hS').rules;go_simp;try with_reducible rfl
  try simp only[zA]
  refine twoH 4 8 (oi:=_) (oj:=_) (some 50) (some 11) (by kernel_rfl) rfl rfl rfl rfl rfl rfl (fun K' hK=>?_) (fun K' hK=>?_)
  · skip
    refine⟨?_⟩
    rw[if_pos (by rfl)]
    go_simp
    refine(PA.out _ (HE.out.next hH)).mono ?_
    rintro e wA ⟨q',c',cur,rfl,kq,hcu,hqq,h1,hcb⟩
    have KQ:=hU kq;have HCU:=hU hcu;have HQQ:=hU (Nat.le_trans hH.size hqq);have HCB:=hU hcb
    have QX:=hU hqq
    refine hK.out _ _ ⟨_,rfl⟩ (hH.next h1) (fun hH2=>?_)
    clear hK K' hH h1 kq hcu hqq hcb
    have hH:=hH2
    clear hH2
    try simp only[zB]
    refine Qah 5 (.tuple #[.agg #[.slice (some ⟨q',0,none⟩) 3 c'],.int .i64 0]) (some 45) rfl rfl (by kernel_rfl) (Or.inl ⟨by rfl,?ybp1⟩) hH ?rbp1
    case ybp1=>intro w' hS';obtain⟨r0,f0⟩:=(K4.out.ext hS').rules;go_simp;try with_reducible rfl
    try simp only[zA]
    refine Qah 6 (.agg #[.slice (some ⟨q',0,none⟩) 3 c']) (some 51) rfl rfl (by kernel_rfl) (Or.inl ⟨by rfl,?ybp2⟩) hH ?rbp2
    case ybp2=>intro w' hS';obtain⟨r0,f0⟩:=(K4.out.ext hS').rules;go_simp;try with_reducible rfl
    try simp only[zA]
    refine Qah 7 (.int .i64 0) (some 52) rfl rfl (by kernel_rfl) (Or.inl ⟨by rfl,?ybp3⟩) hH ?rbp3
    case ybp3=>intro w' hS';obtain⟨r0,f0⟩:=(K4.out.ext hS').rules;go_simp;try with_reducible rfl
    try simp only[zA]
    refine oneH 8 (oi:=_) (some 11) (by kernel_rfl) rfl rfl rfl (fun K' hK=>?_)
    refine⟨?_⟩
    rw[if_pos (by rfl)]
    go_simp
    have h1:=Ext.new (Below.refl wA.heap.size wA) (.cells #[.slice none 0 0] 52)
    have K11:=hU (Blk.new wA 52 #[.slice none 0 0])
    have G11:=hU hH.size
    have KL:=hU KQ.out.lt
    replace KQ:=hU (KQ.out.ext h1)
    refine hK.out _ _ ⟨_,rfl⟩ (hH.next h1) (fun hH2=>?_)
    clear hK K' hH h1
    have hH:=hH2
    clear hH2
    try simp only[zB]
    generalize hg11:wA.heap.size=g11 at *
    generalize wA.alloc (.cells #[.slice none 0 0] 52)=wB at *
    have NE:=hU (show g11≠q' by have:=KL.out;omega)
    refine oneH 9 (oi:=_) none (by kernel_rfl) rfl rfl rfl (fun K' hK=>?_)
    refine⟨?_⟩;rw[if_pos (by rfl)]
    refine Qao 52 _ _ (by rfl) (by rfl) g11 0 [.slice (some ⟨q',0,none⟩) 3 c'] (by rfl) (by rfl) (K11.out.there 0 1 (by simp)) (by kernel_rfl) (by rfl) ?_
    have Z1:=hU (K11.out.put 0 [.slice (some ⟨q',0,none⟩) 3 c'] #[.slice (some ⟨q',0,none⟩) 3 c'] (by simp) rfl)
    have Z2:=hU (KQ.out.farCells (g':=g11) (Ne.symm NE.out) [.slice (some ⟨q',0,none⟩) 3 c'] 0)
    have h1:Ext w4 (wB.setCells g11 0 [.slice (some ⟨q',0,none⟩) 3 c']):=Qaa (W:=w4) (g:=g11) G11.out [.slice (some ⟨q',0,none⟩) 3 c'] 0 _ hH
    refine hK.out _ _ ⟨undef,rfl⟩ (h1) (fun hH2=>?_)
    clear hK K' hH
    have hH:=hH2
    clear hH2
    try simp only[zB]
    generalize wB.setCells g11 0 [.slice (some ⟨q',0,none⟩) 3 c']=w9 at *
    refine Qah 10 (.int .i64 0) (some 12) rfl rfl (by kernel_rfl) (Or.inl ⟨by rfl,?ybp4⟩) hH ?rbp4
    case ybp4=>intro w' hS';obtain⟨r0,f0⟩:=(K4.out.ext hS').rules;go_simp;try with_reducible rfl
    try simp only[zA]
    have h1:=hH
    clear hH
    refine wpAnyH_done (by kernel_rfl) ?_ _
    try go_wp2_with fail
    go_meet
    case rel=>exact⟨g11,q',c',cur,rfl,rfl,Z1.out,Z2.out,HCU.out,HCB.out,h1,G11.out,HQQ.out,NE.out⟩
  · skip
    refine⟨?_⟩
    rw[if_pos (by rfl)]
    go_simp
    have h1:=Ext.new (Below.refl wd.heap.size wd) (.cells #[.slice none 0 0] 52)
    have K11:=hU (Blk.new wd 52 #[.slice none 0 0])
    have G11:=hU hH.size
    refine hK.out _ _ ⟨_,rfl⟩ (hH.next h1) (fun hH2=>?_)
    clear hK K' hH h1
    have hH:=hH2
    clear hH2
    try simp only[zB]
    generalize hg11:wd.heap.size=g11 at *
    generalize wd.alloc (.cells #[.slice none 0 0] 52)=wA at *
    have L11:=hU K11.out.lt
    refine oneH 4 (oi:=_) (some 50) (by kernel_rfl) rfl rfl rfl (fun K' hK=>?_)
    refine⟨?_⟩
    rw[if_pos (by rfl)]
    go_simp
    refine(PA.out _ (HE.out.next hH)).mono ?_
    rintro e wB ⟨q',c',cur,rfl,kq,hcu,hqq,h1,hcb⟩
    have KQ:=hU kq;have HCU:=hU hcu;have HQQ:=hU (Nat.le_trans hH.size hqq);have HCB:=hU hcb
    have QX:=hU hqq
    replace K11:=hU (K11.out.ext h1)
    refine hK.out _ _ ⟨_,rfl⟩ (hH.next h1) (fun hH2=>?_)
    clear hK K' hH h1 kq hcu hqq hcb
    have hH:=hH2
    clear hH2
    try simp only[zB]
    have NE:=hU (show g11≠q' by have:=L11.out;have:=QX.out;omega)
    refine Qah 5 (.tuple #[.agg #[.slice (some ⟨q',0,none⟩) 3 c'],.int .i64 0]) (some 45) rfl rfl (by kernel_rfl) (Or.inl ⟨by rfl,?ybr1⟩) hH ?rbr1
    case ybr1=>intro w' hS';obtain⟨r0,f0⟩:=(K4.out.ext hS').rules;go_simp;try with_reducible rfl
    try simp only[zA]
    refine Qah 6 (.agg #[.slice (some ⟨q',0,none⟩) 3 c']) (some 51) rfl rfl (by kernel_rfl) (Or.inl ⟨by rfl,?ybr2⟩) hH ?rbr2
    case ybr2=>intro w' hS';obtain⟨r0,f0⟩:=(K4.out.ext hS').rules;go_simp;try with_reducible rfl
    try simp only[zA]
    refine Qah 7 (.int .i64 0) (some 52) rfl rfl (by kernel_rfl) (Or.inl ⟨by rfl,?ybr3⟩) hH ?rbr3
    case ybr3=>intro w' hS';obtain⟨r0,f0⟩:=(K4.out.ext hS').rules;go_simp;try with_reducible rfl
    try simp only[zA]
    refine oneH 9 (oi:=_) none (by kernel_rfl) rfl rfl rfl (fun K' hK=>?_)
    refine⟨?_⟩;rw[if_pos (by rfl)]
    refine Qao 52 _ _ (by rfl) (by rfl) g11 0 [.slice (some ⟨q',0,none⟩) 3 c'] (by rfl) (by rfl) (K11.out.there 0 1 (by simp)) (by kernel_rfl) (by rfl) ?_
    have Z1:=hU (K11.out.put 0 [.slice (some ⟨q',0,none⟩) 3 c'] #[.slice (some ⟨q',0,none⟩) 3 c'] (by simp) rfl)
    have Z2:=hU (KQ.out.farCells (g':=g11) (Ne.symm NE.out) [.slice (some ⟨q',0,none⟩) 3 c'] 0)
    have h1:Ext w4 (wB.setCells g11 0 [.slice (some ⟨q',0,none⟩) 3 c']):=Qaa (W:=w4) (g:=g11) G11.out [.slice (some ⟨q',0,none⟩) 3 c'] 0 _ hH
    refine hK.out _ _ ⟨undef,rfl⟩ (h1) (fun hH2=>?_)
    clear hK K' hH
    have hH:=hH2
    clear hH2
    try simp only[zB]
    generalize wB.setCells g11 0 [.slice (some ⟨q',0,none⟩) 3 c']=w9 at *
    refine Qah 10 (.int .i64 0) (some 12) rfl rfl (by kernel_rfl) (Or.inl ⟨by rfl,?ybr4⟩) hH ?rbr4
    case ybr4=>intro w' hS';obtain⟨r0,f0⟩:=(K4.out.ext hS').rules;go_simp;try with_reducible rfl
    try simp only[zA]
    have h1:=hH
    clear hH
    refine wpAnyH_done (by kernel_rfl) ?_ _
    try go_wp2_with fail
    go_meet
    case rel=>exact⟨g11,q',c',cur,rfl,rfl,Z1.out,Z2.out,HCU.out,HCB.out,h1,G11.out,HQQ.out,NE.out⟩
 case rest=>
 obtain⟨g11,q',c',cur,rfl,rfl,k11,kq,hcu,hcb,h1,hg1,hg2,hne⟩:=hcut
 obtain⟨w5,hw5⟩:=Qx7 h1
 subst hw5
 have K11:=hU k11;have KQ:=hU kq;have HCU:=hU hcu;have HCB:=hU hcb;have E5:=hU (HE.out.next h1);have K85:=hU (K8.out.ext h1);have KT5:=hU (KT.out.ext h1)
 have hl8:=K8.out.lt;have hlt:=KT.out.lt
 have hqw:w.heap.size<=q':=by omega
 clear k11 kq hcu hcb h1 HE K4 K8 KT rt
 by_cases hp0:part=0
 · have z0:((part:Int)==0)=true:=beq_iff_eq.2 (by omega)
   have HP0:=hU hp0
   clear hp0
   have Z1:=hU (K85.out.put 0 [.slice (some ⟨q',0,none⟩) 3 c'] #[.slice (some ⟨q',0,none⟩) 3 c'] (by simp) rfl)
   have Z2:=hU (KQ.out.farCells (g':=g+1) (by omega) [.slice (some ⟨q',0,none⟩) 3 c'] 0)
   have Z3:=hU (Qaa (W:=w) (g:=g+1) (by omega) [.slice (some ⟨q',0,none⟩) 3 c'] 0 _ E5.out)
   obtain⟨r11,f11⟩:=K11.out.rules
   obtain⟨r8,f8⟩:=K85.out.rules
   go_wp2_with fail
   exact Qat rfl rfl Z1.out Tryz.underlying52 rfl (by kernel_rfl) rfl ⟨q',c',cur,rfl,Z2.out,by first|exact HCU.out|(rw[if_pos HP0.out];exact HCU.out),hqw,Z3.out,HCB.out⟩
 have z0:((part:Int)==0)=false:=beq_false_of_ne (by omega)
 have HP0:=hU hp0
 have hpt:(part:Int)<=(t.size:Int):=by omega
 have hpt2:¬ t.size<part:=by omega
 clear hp0
 obtain⟨r10,f10⟩:=KT5.out.rules
 go_upto_region 14 with fail
 have k10:=hU (show Blk (w5.setCell ⟨g10,2,none⟩ (.string (t.extract 0 part))) g10 50 #[.int .i64 (f:Int),.int .i64 (s.size:Int),.string (t.extract 0 part)] from KT5.out.set_ 2 _)
 have k11:=hU (K11.out.far (p:=⟨g10,2,none⟩) (by show g11≠g10;omega) (.string (t.extract 0 part)))
 have kq:=hU (KQ.out.far (p:=⟨g10,2,none⟩) (by show q'≠g10;omega) (.string (t.extract 0 part)))
 have k8:=hU (K85.out.far (p:=⟨g10,2,none⟩) (by show g+1≠g10;omega) (.string (t.extract 0 part)))
 have e6:=hU (show Ext w (w5.setCell ⟨g10,2,none⟩ (.string (t.extract 0 part))) from Below.setCell E5.out (p:=⟨g10,2,none⟩) (by show w.heap.size<=g10;omega) (.string (t.extract 0 part)))
 clear r10 f10 K11 KQ K85 KT5 E5
 generalize w5.setCell ⟨g10,2,none⟩ (.string (t.extract 0 part))=w6 at *
 obtain⟨r10,f10⟩:=k10.out.rules
 obtain⟨r11,f11⟩:=k11.out.rules
 have hl8b:=k8.out.lt
 go_wp2_with fail
 refine(PT.out q' c' cur w6 kq.out HCU.out HCB.out).mono ?_
 rintro e w7 ⟨q2,c2,cur2,rfl,kq2,hcu2,hq2,h2,hcb2⟩
 have E7:=hU (e6.out.next h2)
 have K87:=hU (k8.out.ext h2);have HCU2:=hU hcu2;have HCB2:=hU hcb2
 have hs6:=e6.out.size
 clear r10 f10 r11 f11 h2 hcu2 hcb2 k10 k11 kq k8 e6
 have Z1:=hU (K87.out.put 0 [.slice (some ⟨q2,0,none⟩) 3 c2] #[.slice (some ⟨q2,0,none⟩) 3 c2] (by simp) rfl)
 have Z2:=hU (kq2.farCells (g':=g+1) (by omega) [.slice (some ⟨q2,0,none⟩) 3 c2] 0)
 have Z3:=hU (Qaa (W:=w) (g:=g+1) (by omega) [.slice (some ⟨q2,0,none⟩) 3 c2] 0 _ E7.out)
 obtain⟨r8,f8⟩:=K87.out.rules
 clear kq2
 go_wp2_with fail
 exact Qat rfl rfl Z1.out Tryz.underlying52 rfl (by kernel_rfl) rfl ⟨q2,c2,cur2,rfl,Z2.out,by first|exact HCU2.out|(have:=HCU2.out;simpa using this)|(rw[if_neg HP0.out];exact HCU2.out),by omega,Z3.out,HCB2.out⟩
end Go.Proofs.YtbnkjgcpjeedfaaGreat
