/-
  PubB: No condition.
-/
import Derived.Test.YtbnkjgcpjeedfaaGreatPubA
import Derived.Test.YtbnkjgcpjeedfaaGreatCopyC
import Derived.Test.YtbnkjgcpjeedfaaGreatPartsB
namespace Go.Proofs.YtbnkjgcpjeedfaaGreat
set_option maxHeartbeats 8000000
set_option maxRecDepth 100000
set_option linter.unusedSimpArgs false
open Go.RowKit
set_option linter.unusedVariables false
theorem run_upto{P:Program}{t:TypeId}(A:Option Addr)(len c m size:Nat)(ht:P.underlying t=some (.slice (P.elem t)))(hs:∀ W:World,(sizeOf (P.elem t)).run P W=.ok size W)(hm:m<=c){x:Int}(hx:x=(m:Int))(W:World) :
 (Instr.slice t (.slice A len c) none (some (.int .i64 x)) none).run P W=.ok (.slice A m c) W:=by
 subst hx
 rw[run_slice_h (P:=P) W t A len c ht .i64 (m:Int) (by omega) (by omega),hs]
 simp[Result.andThen,sliced]
 intro _
 cases A with
 | none=>rfl
 | some a=>simp[Addr.add]
theorem slf_upto{α:Type}{f:α->List Value}{size m:Nat}{w:World}{A:Option Addr}{c:Nat}{l:List α}(hf:∀ a,(f a).length=size)(h:SlF AnyB f size w A l c)(hm:m<=l.length):SlF AnyB f size w A (l.take m) c:=
 ⟨by have:=h.le;rw[List.length_take];omega,h.cap,Qpd hf h.reads m hm,fun _ _ _=>trivial⟩
theorem Qvs{K:Nat}{w w1 w2:World}(h:Below K w w1)(he:Ext w1 w2)(hK:K<=w1.heap.size):Below K w w2:=
 ⟨he.os.trans h.os,he.tape.trans h.tape,he.output.trans h.output,Nat.le_trans h.size he.size,fun k hk=>(he.block k (by omega)).trans (h.block k hk)⟩
theorem wf_nat2{k:Nat}(h:k<=1048576):(Lit.int .i64 (k:Int)).wf=true:=by
 have h1:(IntKind.min .i64)=-9223372036854775808:=by decide
 have h2:(IntKind.max .i64)=9223372036854775807:=by decide
 simp only[Lit.wf,h1,h2,Bool.and_eq_true,decide_eq_true_eq];omega
theorem Qsr{α:Type}{f:α->List Value}{size:Nat}{w:World}:SlF AnyB f size w none [] 0:=
 ⟨Nat.le_refl _,Nat.zero_le _,⟨by simp,fun h=>by simp at h⟩,fun h=>by simp at h⟩
def befB (b:Qad) (h0:Qak):Qad:=⟨b.width,b.log,[],[h0],noB.sealed⟩
def PbEnd (b:Qad) (d:Qaf) (K g:Nat) (vr vh v1 v2:Value) (w:World) (e:Ending) (w':World):Prop:=
 ∃ vw,(Qcu b.log.entries d≠0/\e=.returned (.tuple #[vw,.int .i64 0,.int .i64 (Qcu b.log.entries d:Int)])/\Ext w w')\/
  (Qcu b.log.entries d=0/\e=.returned (.tuple #[vw,.int .i64 (b.log.entries.length:Int),.int .i64 0])/\∃ ve,Blk w' g 37 (Qe8 (pbB0 b d) ve vr vh v1 v2).toArray/\Qb9 K w' (pbB0 b d) ve vr vh v1 v2/\w'.ownsRow K 50 3 vw 1 (Qcs b 0 (Qa3 (Qfw b d))).cells/\Below K w w')
theorem Qs3(b:Qad)(d:Qaf)(g:Nat)(A0:Option Addr)(a0:Nat)(A1:Option Addr)(a1:Nat)(A2:Option Addr)(a2:Nat)(A3:Option Addr)(a3:Nat)(A4:Option Addr)(a4:Nat)(K:Nat)(w:World)(hb:Blk w g 37 #[.int .i64 b.width,.slice A0 b.log.entries.length a0,.slice A1 b.receipts.length a1,.slice A2 b.heads.length a2,.int .i64 b.sealed.leaves.size,.slice A3 b.sealed.leaves.peaks.length a3,.int .i64 b.sealed.taken.size,.slice A4 b.sealed.taken.peaks.length a4,.int .i64 b.sealed.head.number,.int .i64 b.sealed.head.size,.string b.sealed.head.root,.int .i64 b.sealed.head.taken,.string b.sealed.head.takenRoot])(hrows:Qb9 K w b (.slice A0 b.log.entries.length a0) (.slice A1 b.receipts.length a1) (.slice A2 b.heads.length a2) (.slice A3 b.sealed.leaves.peaks.length a3) (.slice A4 b.sealed.taken.peaks.length a4))(hk:TxOk b)(hd:d.Ok)(hKg:K<=g)(hKw:K<=w.heap.size) :
 Calls Tryz.prog 99 #[.pointer (some ⟨g,0,none⟩),.string d.topic,.int .i64 d.time,.string d.key,.string d.body] w (PbEnd b d K g (.slice A1 b.receipts.length a1) (.slice A2 b.heads.length a2) (.slice A3 b.sealed.leaves.peaks.length a3) (.slice A4 b.sealed.taken.peaks.length a4) w):=by
 have hgw:=hb.lt
 have BG:=hU hb;have RW:=hU hrows;have HD:=hU hd;have HK:=hU hk
 have S0:=hU (Qb6 hrows.e);have SH:=hU (Qb6 hrows.h)
 obtain⟨h0,hh0⟩:∃ h0,b.heads.take 1=[h0]:=by
  have:=hk.h
  cases hq:b.heads with
  | nil=>rw[hq] at this;simp at this
  | cons x xs=>exact⟨x,rfl⟩
 have SL:=hU (fun W=>run_upto (P:=Tryz.prog) (t:=28) A2 b.heads.length a2 1 5 Tryz.underlying28 (fun W=>by kernel_rfl) (by have h1:=(Qb6 hrows.h).le;have h2:=hk.h;omega) (x:=1) rfl W)
 have CL:=hU (fun(W:World) (hW:Ext w W)=>Qn4 A0 a0 b.log.entries W (S0.out.ext hW) hk.n.e)
 have HH0:=hU hh0
 have SLF:=SL.out
 obtain⟨cs,hcs⟩:∃ cs:List Value,cs=[.int .i64 b.width,.slice A0 b.log.entries.length a0,.slice A1 b.receipts.length a1,.slice A2 b.heads.length a2,.int .i64 b.sealed.leaves.size,.slice A3 b.sealed.leaves.peaks.length a3,.int .i64 b.sealed.taken.size,.slice A4 b.sealed.taken.peaks.length a4,.int .i64 b.sealed.head.number,.int .i64 b.sealed.head.size,.string b.sealed.head.root,.int .i64 b.sealed.head.taken,.string b.sealed.head.takenRoot]:=⟨_,rfl⟩
 have BH:Hid (∀(W:World),Blk W g 37 cs.toArray->W.cell? ⟨g,0,none⟩=some (.int .i64 b.width)/\W.cell? ⟨g,1,none⟩=some (.slice A0 b.log.entries.length a0)/\W.cell? ⟨g,3,none⟩=some (.slice A2 b.heads.length a2)):=hU (fun W h=>by
  rw[hcs] at h
  exact⟨h.cell 0,h.cell 1,h.cell 3⟩)
 have HCS:=hU hcs
 have BC:Blk w g 37 cs.toArray:=by rw[hcs];exact hb
 clear hb hrows hd hk hcs
 go_enter Tryz.func99,Tryz.ntmps99
 go_upto_region 1 with fail
 go_cut [13] (fun vq wx=>∃(p:Nat) (V:Option Addr) (v:Nat),vq=.pointer (some ⟨p,0,none⟩)/\Blk wx p 37 #[.int .i64 b.width,.slice V b.log.entries.length v,.slice none 0 0,.slice A2 1 a2,.int .i64 0,.slice none 0 0,.int .i64 0,.slice none 0 0,.int .i64 0,.int .i64 0,.string ⟨#[]⟩,.int .i64 0,.string ⟨#[]⟩]/\wx.ownsRow w.heap.size 40 5 (.slice V b.log.entries.length v) b.log.entries.length (b.log.entries.flatMap Qaf.cells)/\w.heap.size<=p/\Ext w wx)
 case first=>
  refine wp_region_held_drew (S:=fun w'=>Blk w' g 37 cs.toArray/\Ext w w') (by kernel_rfl) ⟨BC.drew,(Below.refl _ _).drew⟩ (fun hH=>?_)
  clear BC
  generalize w.drew=w0 at *
  refine tk 0 (.pointer (some ⟨g,0,none⟩)) (some 18) hH ?_
  try simp only[zA]
  refine tk 1 (.pointer (some ⟨g,0,none⟩)) (some 19) hH ?_
  try simp only[zA]
  refine tk 2 (.pointer (some ⟨g,1,none⟩)) (some 20) hH ?_
  try simp only[zA]
  refine Qah 3 (.agg #[.slice A0 b.log.entries.length a0]) (some 21) rfl rfl (by kernel_rfl) (Or.inl ⟨by rfl,?ypb4⟩) hH ?rpb4
  case ypb4=>intro w' hS';obtain⟨s0,s1⟩:=hS';obtain⟨x0,x1,x3⟩:=BH.out _ s0;go_simp;try with_reducible rfl
  try simp only[zA]
  refine tk 5 (.pointer (some ⟨g,0,none⟩)) (some 23) hH ?_
  try simp only[zA]
  refine tk 6 (.pointer (some ⟨g,0,none⟩)) (some 24) hH ?_
  try simp only[zA]
  refine tk 7 (.pointer (some ⟨g,3,none⟩)) (some 25) hH ?_
  try simp only[zA]
  refine Qah 8 (.slice A2 b.heads.length a2) (some 26) rfl rfl (by kernel_rfl) (Or.inl ⟨by rfl,?ypb8⟩) hH ?rpb8
  case ypb8=>intro w' hS';obtain⟨s0,s1⟩:=hS';obtain⟨x0,x1,x3⟩:=BH.out _ s0;go_simp;try with_reducible rfl
  try simp only[zA]
  refine Qah 9 (.slice A2 1 a2) (some 27) rfl rfl (by kernel_rfl) (Or.inl ⟨by rfl,?ypb9⟩) hH ?rpb9
  case ypb9=>intro w' hS';obtain⟨s0,s1⟩:=hS';obtain⟨x0,x1,x3⟩:=BH.out _ s0;go_simp;try with_reducible rfl
  try simp only[zA]
  refine tk 10 (.pointer (some ⟨g,0,none⟩)) (some 28) hH ?_
  try simp only[zA]
  refine tk 11 (.pointer (some ⟨g,0,none⟩)) (some 29) hH ?_
  try simp only[zA]
  refine tk 12 (.pointer (some ⟨g,0,none⟩)) (some 30) hH ?_
  try simp only[zA]
  refine Qah 13 (.int .i64 b.width) (some 31) rfl rfl (by kernel_rfl) (Or.inl ⟨by rfl,?ypb13⟩) hH ?rpb13
  case ypb13=>intro w' hS';obtain⟨s0,s1⟩:=hS';obtain⟨x0,x1,x3⟩:=BH.out _ s0;go_simp;try with_reducible rfl
  try simp only[zA]
  refine twoH 4 15 (oi:=_) (oj:=_) (some 22) (some 13) (by kernel_rfl) rfl rfl rfl rfl rfl rfl (fun K' hK=>?_) (fun K' hK=>?_)
  · skip
    refine⟨?_⟩
    rw[if_pos (by rfl)]
    go_simp
    refine(CL.out _ hH.2).mono ?_
    rintro e wA ⟨vv,rfl,hr,h1⟩
    have hr:=Qaj (B':=w.heap.size) hr hH.2.size
    obtain⟨V,v,rfl,_⟩:=Qae hr
    have RV:=hU hr
    refine hK.out _ _ ⟨_,rfl⟩ (⟨hH.1.ext h1,hH.2.next h1⟩) (fun hH2=>?_)
    clear hK K' hH h1 hr
    have hH:=hH2
    clear hH2
    try simp only[zB]
    refine Qah 14 (.agg #[.int .i64 b.width,.slice V b.log.entries.length v,.slice none 0 0,.slice A2 1 a2,.int .i64 0,.slice none 0 0,.int .i64 0,.slice none 0 0,.int .i64 0,.int .i64 0,.string ⟨#[]⟩,.int .i64 0,.string ⟨#[]⟩]) (some 32) rfl rfl (by kernel_rfl) (Or.inl ⟨by rfl,?ypba1⟩) hH ?rpba1
    case ypba1=>intro w' hS';obtain⟨s0,s1⟩:=hS';obtain⟨x0,x1,x3⟩:=BH.out _ s0;go_simp;try with_reducible rfl
    try simp only[zA]
    refine oneH 15 (oi:=_) (some 13) (by kernel_rfl) rfl rfl rfl (fun K' hK=>?_)
    have h1:=Ext.new (Below.refl wA.heap.size wA) (.cells #[.int .i64 0,.slice none 0 0,.slice none 0 0,.slice none 0 0,.int .i64 0,.slice none 0 0,.int .i64 0,.slice none 0 0,.int .i64 0,.int .i64 0,.string ⟨#[]⟩,.int .i64 0,.string ⟨#[]⟩] 37)
    obtain⟨q,hq⟩:∃ q,q=wA.heap.size:=⟨_,rfl⟩
    have bq:=Blk.new wA 37 #[.int .i64 0,.slice none 0 0,.slice none 0 0,.slice none 0 0,.int .i64 0,.slice none 0 0,.int .i64 0,.slice none 0 0,.int .i64 0,.int .i64 0,.string ⟨#[]⟩,.int .i64 0,.string ⟨#[]⟩]
    rw[<-hq] at bq
    have QB:=hU (show w.heap.size<=q by have:=hH.2.size;omega)
    obtain⟨wF,hu_,h1,bq⟩:∃ u,u=wA.alloc (.cells #[.int .i64 0,.slice none 0 0,.slice none 0 0,.slice none 0 0,.int .i64 0,.slice none 0 0,.int .i64 0,.slice none 0 0,.int .i64 0,.int .i64 0,.string ⟨#[]⟩,.int .i64 0,.string ⟨#[]⟩] 37)/\Ext wA u/\Blk u q 37 #[.int .i64 0,.slice none 0 0,.slice none 0 0,.slice none 0 0,.int .i64 0,.slice none 0 0,.int .i64 0,.slice none 0 0,.int .i64 0,.int .i64 0,.string ⟨#[]⟩,.int .i64 0,.string ⟨#[]⟩]:=⟨_,rfl,h1,bq⟩
    have HUU:=hU hu_;have HQQ:=hU hq
    clear hu_ hq
    refine⟨?_⟩
    rw[if_pos (by rfl)]
    go_simp
    rw[<-HUU.out,<-HQQ.out]
    replace RV:=hU (Qag RV.out h1)
    have BQ:=hU bq
    clear bq
    refine hK.out _ _ ⟨_,rfl⟩ (⟨hH.1.ext h1,hH.2.next h1⟩) (fun hH2=>?_)
    clear hK K' hH h1 HUU HQQ
    have hH:=hH2
    clear hH2
    try simp only[zB]
    obtain⟨vs,hvs⟩:∃ vs:List Value,vs=[.int .i64 b.width,.slice V b.log.entries.length v,.slice none 0 0,.slice A2 1 a2,.int .i64 0,.slice none 0 0,.int .i64 0,.slice none 0 0,.int .i64 0,.int .i64 0,.string ⟨#[]⟩,.int .i64 0,.string ⟨#[]⟩]:=⟨_,rfl⟩
    have VS13:=hU (show vs.length=13 by rw[hvs];rfl)
    have VS1:=hU (show vs.all (·.oneCell')=true by rw[hvs];rfl)
    have HVS:=hU hvs
    rw[<-hvs]
    clear hvs
    have qb:=QB.out
    have Tq:=hU (show World.there wF q 0 vs.length by rw[VS13.out];exact BQ.out.there 0 13 (by simp))
    have bz:=Qas BQ.out vs (by rw[VS13.out];rfl)
    have rz:=Qa1 RV.out BQ.out (by decide) vs 0
    have b1z:Blk (World.setCells wF q 0 vs) g 37 cs.toArray:=hH.1.farCells (by omega) vs 0
    have e5z:=Qaa (W:=w) QB.out vs 0 _ hH.2
    refine oneH 16 (oi:=_) none (by kernel_rfl) rfl rfl rfl (fun K' hK=>?_)
    refine⟨?_⟩
    rw[if_pos (by rfl)]
    refine Qao 37 _ _ rfl rfl q 0 vs rfl rfl Tq.out (by rw[VS13.out];kernel_rfl) VS1.out ?_
    refine hK.out _ _ ⟨undef,rfl⟩ ⟨b1z,e5z⟩ (fun hH2=>?_)
    clear hK K' hH Tq
    have hH:=hH2
    clear hH2
    try simp only[zB]
    refine wpAnyH_done (by kernel_rfl) ?_ _
    (try go_wp2_with fail)
    go_meet
    case rel=>exact⟨q,V,v,rfl,by rw[<-HVS.out];exact bz,rz,QB.out,hH.2⟩
  · skip
    have h1:=Ext.new (Below.refl w0.heap.size w0) (.cells #[.int .i64 0,.slice none 0 0,.slice none 0 0,.slice none 0 0,.int .i64 0,.slice none 0 0,.int .i64 0,.slice none 0 0,.int .i64 0,.int .i64 0,.string ⟨#[]⟩,.int .i64 0,.string ⟨#[]⟩] 37)
    obtain⟨q,hq⟩:∃ q,q=w0.heap.size:=⟨_,rfl⟩
    have bq:=Blk.new w0 37 #[.int .i64 0,.slice none 0 0,.slice none 0 0,.slice none 0 0,.int .i64 0,.slice none 0 0,.int .i64 0,.slice none 0 0,.int .i64 0,.int .i64 0,.string ⟨#[]⟩,.int .i64 0,.string ⟨#[]⟩]
    rw[<-hq] at bq
    have QB:=hU (show w.heap.size<=q by have:=hH.2.size;omega)
    obtain⟨wQ,hu_,h1,bq⟩:∃ u,u=w0.alloc (.cells #[.int .i64 0,.slice none 0 0,.slice none 0 0,.slice none 0 0,.int .i64 0,.slice none 0 0,.int .i64 0,.slice none 0 0,.int .i64 0,.int .i64 0,.string ⟨#[]⟩,.int .i64 0,.string ⟨#[]⟩] 37)/\Ext w0 u/\Blk u q 37 #[.int .i64 0,.slice none 0 0,.slice none 0 0,.slice none 0 0,.int .i64 0,.slice none 0 0,.int .i64 0,.slice none 0 0,.int .i64 0,.int .i64 0,.string ⟨#[]⟩,.int .i64 0,.string ⟨#[]⟩]:=⟨_,rfl,h1,bq⟩
    have HUU:=hU hu_;have HQQ:=hU hq
    clear hu_ hq
    refine⟨?_⟩
    rw[if_pos (by rfl)]
    go_simp
    rw[<-HUU.out,<-HQQ.out]
    have BQ:=hU bq
    clear bq
    refine hK.out _ _ ⟨_,rfl⟩ (⟨hH.1.ext h1,hH.2.next h1⟩) (fun hH2=>?_)
    clear hK K' hH h1 HUU HQQ
    have hH:=hH2
    clear hH2
    try simp only[zB]
    refine oneH 4 (oi:=_) (some 22) (by kernel_rfl) rfl rfl rfl (fun K' hK=>?_)
    refine⟨?_⟩
    rw[if_pos (by rfl)]
    go_simp
    refine(CL.out _ hH.2).mono ?_
    rintro e wA ⟨vv,rfl,hr,h1⟩
    have hr:=Qaj (B':=w.heap.size) hr hH.2.size
    obtain⟨V,v,rfl,_⟩:=Qae hr
    have RV:=hU hr
    replace BQ:=hU (BQ.out.ext h1)
    refine hK.out _ _ ⟨_,rfl⟩ (⟨hH.1.ext h1,hH.2.next h1⟩) (fun hH2=>?_)
    clear hK K' hH h1 hr
    have hH:=hH2
    clear hH2
    try simp only[zB]
    refine Qah 14 (.agg #[.int .i64 b.width,.slice V b.log.entries.length v,.slice none 0 0,.slice A2 1 a2,.int .i64 0,.slice none 0 0,.int .i64 0,.slice none 0 0,.int .i64 0,.int .i64 0,.string ⟨#[]⟩,.int .i64 0,.string ⟨#[]⟩]) (some 32) rfl rfl (by kernel_rfl) (Or.inl ⟨by rfl,?ypbb1⟩) hH ?rpbb1
    case ypbb1=>intro w' hS';obtain⟨s0,s1⟩:=hS';obtain⟨x0,x1,x3⟩:=BH.out _ s0;go_simp;try with_reducible rfl
    try simp only[zA]
    obtain⟨vs,hvs⟩:∃ vs:List Value,vs=[.int .i64 b.width,.slice V b.log.entries.length v,.slice none 0 0,.slice A2 1 a2,.int .i64 0,.slice none 0 0,.int .i64 0,.slice none 0 0,.int .i64 0,.int .i64 0,.string ⟨#[]⟩,.int .i64 0,.string ⟨#[]⟩]:=⟨_,rfl⟩
    have VS13:=hU (show vs.length=13 by rw[hvs];rfl)
    have VS1:=hU (show vs.all (·.oneCell')=true by rw[hvs];rfl)
    have HVS:=hU hvs
    rw[<-hvs]
    clear hvs
    have qb:=QB.out
    have Tq:=hU (show World.there wA q 0 vs.length by rw[VS13.out];exact BQ.out.there 0 13 (by simp))
    have bz:=Qas BQ.out vs (by rw[VS13.out];rfl)
    have rz:=Qa1 RV.out BQ.out (by decide) vs 0
    have b1z:Blk (World.setCells wA q 0 vs) g 37 cs.toArray:=hH.1.farCells (by omega) vs 0
    have e5z:=Qaa (W:=w) QB.out vs 0 _ hH.2
    refine oneH 16 (oi:=_) none (by kernel_rfl) rfl rfl rfl (fun K' hK=>?_)
    refine⟨?_⟩
    rw[if_pos (by rfl)]
    refine Qao 37 _ _ rfl rfl q 0 vs rfl rfl Tq.out (by rw[VS13.out];kernel_rfl) VS1.out ?_
    refine hK.out _ _ ⟨undef,rfl⟩ ⟨b1z,e5z⟩ (fun hH2=>?_)
    clear hK K' hH Tq
    have hH:=hH2
    clear hH2
    try simp only[zB]
    refine wpAnyH_done (by kernel_rfl) ?_ _
    (try go_wp2_with fail)
    go_meet
    case rel=>exact⟨q,V,v,rfl,by rw[<-HVS.out];exact bz,rz,QB.out,hH.2⟩
 case rest=>
 obtain⟨p,V,v,rfl,bp,rv,hp,he⟩:=hcut
 obtain⟨w1,rfl⟩:=Qin bp
 have hp1:=bp.lt
 have hgp:g<p:=by omega
 have AE:=hU (Qse b d g A0 a0 A1 a1 A2 a2 A3 a3 A4 a4 K w1 (BG.out.ext he) (RW.out.ext he) HD.out HK.out.n.e hKg (Nat.le_trans hKw he.size))
 clear BC SLF
 go_wp2_with fail
 refine AE.out.mono ?_
 rintro e w2 (⟨hne,rfl,h1⟩|⟨E,rfl,ve,B2,R2,hf⟩)
 · have HNE:=hU hne
   replace he:=he.next h1
   obtain⟨cc,hcc⟩:∃ cc,cc=Qcu b.log.entries d:=⟨_,rfl⟩
   rw[<-hcc] at hne
   rw[<-hcc]
   have HCC:=hU hcc
   have z0:((cc:Int) != 0)=true:=by rw[bne_iff_ne];omega
   clear hcc hne h1 AE
   go_wp2_with fail
   go_ret3
   refine⟨.slice none 0 0,.inl ⟨HNE.out,?_,he⟩⟩
   rw[<-HCC.out]
   rfl
 have E0:=hU E
 have AD:=hU (Qtm E)
 obtain⟨VE,ce,rfl,_⟩:=Qae R2.e
 have rv2:=hf.own rv (fun y hy h=>by have h1:=(rv.lt y hy).1;rcases h with h|h;omega;have h2:=(RW.out.e.lt y h).2;omega)
 have bp2:=hf.blk bp (fun h=>by rcases h with h|h;omega;have h2:=(RW.out.e.lt _ h).2;omega)
 have bel:Below K w w2:=Qqx he hf (fun y h=>by rcases h with h|h;omega;exact(RW.out.e.lt y h).1) hKw
 obtain⟨n,hn⟩:∃ n,n=b.log.entries.length:=⟨_,rfl⟩
 have HN:=hU hn
 have hml:(pbB0 b d).log.entries.length=n+1:=by rw[hn];simp[pbB0]
 have x1:w2.cell? ⟨g,1,none⟩=some (.slice VE (n+1) ce):=by rw[<-hml];exact B2.cell 1
 obtain⟨d2,hd2⟩:∃ d2,d2=Qfw b d:=⟨_,rfl⟩
 have hdl:(pbB0 b d).log.entries[n]?=some d2:=by rw[hn,hd2];simp[pbB0]
 obtain⟨bb,off,rfl,hbb,hc⟩:=Qbb.at_ (Qb6 R2.e).reads (k:=n) (by rw[hml];omega)
 obtain⟨c0,c1,c2,c3,c4⟩:=Qdt hc hdl
 have hnl:=HK.out.n.e
 have HD2:=hU (show d2.Ok by
  have h1:=HD.out
  have h2:=Qlt b.log.entries d.topic
  rw[hd2]
  refine⟨h1.1,?_,h1.2.2.1,h1.2.2.2.1,h1.2.2.2.2⟩
  show(Lit.int .i64 (cntT b.log.entries d.topic:Int)).wf=true
  exact wf_nat2 (by omega))
 have TX:=hU (show Qa3 d2=Qa3 (Qfw b d) by rw[hd2])
 rw[<-hn]
 rw[<-hn] at hnl
 have hlt:n<n+1:=Nat.lt_succ_self n
 have B2H:=hU B2;have R2H:=hU R2;have BEL:=hU bel
 have kw2:=bel.size
 have RV:=hU rv2;have BP:=hU bp2
 clear AE E hf hc hdl hd2 hn hml bel B2 rv2 bp2 rv bp he
 go_wp2_with fail
 refine(Qgr d2 _ HD2.out).mono ?_
 rintro e w3 ⟨rfl,h1⟩
 clear x1 c0 c1 c2 c3 c4
 obtain⟨tx,htx⟩:∃ tx,tx=Qa3 d2:=⟨_,rfl⟩
 rw[<-htx]
 have HTX:=hU htx
 clear htx
 have WB:=hU (Qf5 (befB b h0) 0 (by decide) tx p V v none 0 A2 a2 none 0 none 0 w3 (BP.out.ext h1) ⟨Qb6 (Qag RV.out h1),Qsr,(by have h:=slf_upto Qak.cells_length (show SlF AnyB Qak.cells 5 w3 A2 b.heads a2 from(Qb6 R2H.out.h).ext h1) HK.out.h;rw[HH0.out] at h;exact h),Qsr,Qsr⟩ ⟨HK.out.e,(fun r hr=>by cases hr),Nat.lt_succ_self 0,⟨HK.out.n.e,Nat.zero_le _,(by show 1<=1048576;decide),Nat.zero_le _,Nat.zero_le _⟩⟩ (by rw[HTX.out];exact Qcx (Qdr d2)))
 go_wp2_with fail
 refine WB.out.mono ?_
 rintro e w4 ⟨vw,rfl,ow,h2⟩
 have h3:=h1.next h2
 have k3:K<=w3.heap.size:=Nat.le_trans hKw (Nat.le_trans kw2 h1.size)
 have ow:=Qaj (B':=K) ow k3
 rw[write0 (show(befB b h0).log=b.log from rfl)] at ow
 have OW:=hU ow
 clear WB ow
 go_wp2_with fail
 go_ret3
 refine⟨vw,.inr ⟨E0.out,?_,_,B2H.out.ext h3,R2H.out.ext h3,?_,?_⟩⟩
 · rw[<-HN.out];rfl
 · rw[<-TX.out,<-HTX.out];exact OW.out
 · exact Qvs BEL.out h3 (Nat.le_trans hKw kw2)
end Go.Proofs.YtbnkjgcpjeedfaaGreat
