/-
  SealsB: No condition.
-/
import Derived.Test.YtbnkjgcpjeedfaaGreatHeadsOks
namespace Go.Proofs.YtbnkjgcpjeedfaaGreat
set_option maxHeartbeats 4000000
set_option maxRecDepth 100000
set_option linter.unusedSimpArgs false
open Go.RowKit
set_option linter.unusedVariables false
def Qhx (A:Option Addr) (c n size:Nat):Option Addr:=if c=n then A else A.map (·.add (n*size))
theorem Qiu{α:Type}{f:α->List Value}{size:Nat}{w:World}{B:Nat}{A:Option Addr}{l:List α}(hf:∀ a,(f a).length=size)(h:Qav w B f size A l){c n m:Nat}(hn:n<=m)(hm:m<=l.length)(hc:l.length<=c) :
 Qav w B f size (Qhx A c n size) ((l.drop n).take (m-n)):=by
 refine⟨Qes f size hf _,fun hpos=>?_⟩
 rw[List.length_take,List.length_drop] at hpos
 obtain⟨b,off,e,hb,hcl⟩:=h.2 (by omega)
 subst e
 refine⟨b,off+n*size,by rw[Qhx,if_neg (by omega)];exact congrArg some (Qhw b off (n*size)),hb,fun j u hu=>?_⟩
 have e1:l.flatMap f=(l.take n).flatMap f++(((l.drop n).take (m-n)).flatMap f++((l.drop n).drop (m-n)).flatMap f):=by
  rw[<-List.flatMap_append,List.take_append_drop,<-List.flatMap_append,List.take_append_drop]
 have e2:((l.take n).flatMap f).length=n*size:=by rw[Qes f size hf,List.length_take,Nat.min_eq_left (by omega)]
 have:=hcl (n*size+j) u (by rw[e1,List.getElem?_append_right (by omega),e2,Nat.add_sub_cancel_left,List.getElem?_append_left (List.getElem?_eq_some_iff.1 hu).1];exact hu)
 rw[Nat.add_assoc];exact this
theorem Qt3{P:Program}{t:TypeId}(A:Option Addr)(len c n m size:Nat)(ht:P.underlying t=some (.slice (P.elem t)))(hs:∀ W:World,(sizeOf (P.elem t)).run P W=.ok size W)(hn:n<=m)(hm:m<=c){x y:Int}(hx:x=(n:Int))(hy:y=(m:Int))(W:World) :
 (Instr.slice t (.slice A len c) (some (.int .i64 x)) (some (.int .i64 y)) none).run P W=.ok (.slice (Qhx A c n size) (m-n) (c-n)) W:=by
 subst hx;subst hy
 rw[run_slice_lh (P:=P) W t A len c ht .i64 .i64 (n:Int) (m:Int) (by omega) (by omega) (by omega),hs]
 simp[Result.andThen,sliced,Qhx]
def Qcm (wd:Int) (L T:List ByteArray) (hs:List Qak):Bool:=((hs.headD hz).eqb (newH true wd))&&Qed (Qc0 wd L T hs) hs.length
theorem Qmy{wd:Int}{L T:List ByteArray}{hs:List Qak}{k:Nat}(hk:k<hs.length)(h:Qc0 wd L T hs k=false):Qcm wd L T hs=false:=by
 rw[Qcm,Qd2 h _ hk,Bool.and_false]
theorem sealsB_0{wd:Int}{L T:List ByteArray}{hs:List Qak}{h:Qak}(h0:hs[0]?=some h)(he:(newH true wd).eqb h=false):Qcm wd L T hs=false:=by
 have:hs.headD hz=h:=by
  cases hs with
  | nil=>simp at h0
  | cons x r=>simpa using h0
 rw[Qcm,this]
 cases e:h.eqb (newH true wd)
 · rfl
 · rw[(Qak.eqb_iff _ _).1 e,Qak.eqb_self] at he;cases he
theorem Qt2{wd:Int}{l:List ByteArray}{z:Int}(h0:0<=z)(hl:z<=l.length):(Qbi wd (l.take z.toNat)).size=z/\(Qbt (ndB wd) (l.take z.toNat)).length=pc z.toNat:=by
 have:(l.take z.toNat).length=z.toNat:=by rw[List.length_take];omega
 refine⟨by simp only[Qbi,this];omega,by rw[Qeq,this]⟩
theorem Qsv(wd:Int)(hwd:inR wd 1 32=true)(A1:Option Addr)(c1:Nat)(L:List ByteArray)(A2:Option Addr)(c2:Nat)(T:List ByteArray)(A3:Option Addr)(c3:Nat)(hs:List Qak)(w:World)
 (hL:Qav w w.heap.size sone 1 A1 L) (hT:Qav w w.heap.size sone 1 A2 T) (hH:SlF AnyB Qak.cells 5 w A3 hs c3) (hok:Qdj wd hs=true) (hpos:0<hs.length) (hLw:∀ x∈L,WdT wd x) (hTw:∀ x∈T,WdT wd x) (hLl:L.length<=512) (hTl:T.length<=512) (hLc:L.length<=c1) (hTc:T.length<=c2) (hc1:c1<=maxLen) (hc2:c2<=maxLen) :
 Calls Tryz.prog 117 #[.int .i64 wd,.slice A1 L.length c1,.slice A2 T.length c2,.slice A3 hs.length c3] w fun e w'=>Ext w w'/\
  ((Qcm wd L T hs=false/\e=.returned (.tuple #[.agg (Qhu hz).toArray,.bool false]))\/
   (Qcm wd L T hs=true/\∃ v1 v2,e=.returned (.tuple #[.agg (Qb1 (Qa5 wd L T hs hs.length).leaves.size v1 (Qa5 wd L T hs hs.length).taken.size v2 (Qa5 wd L T hs hs.length).head).toArray,.bool true])/\
    RowT w.heap.size w' v1 (Qa5 wd L T hs hs.length).leaves.peaks/\RowT w.heap.size w' v2 (Qa5 wd L T hs hs.length).taken.peaks/\(∀ x,v1.ownBlock=some x->v2.ownBlock≠some x))):=by
 have K0:=hU (Blk.new w 35 (Qhu hz).toArray)
 have He:=hU (Ext.new (Below.refl w.heap.size w) (.cells (Qhu hz).toArray 35))
 have SN:=hU (fun W=>Qnk wd W)
 rw[hwd] at SN
 have HL:=hU hL;have HT:=hU hT;have HR:=hU hH;have OK:=hU hok;have LW:=hU hLw;have TW:=hU hTw;have HC:=hU (And.intro hc1 hc2);have LC:=hU (And.intro hLc hTc)
 have hln:hs.length<=400:=(Qci hok).2.1
 clear hL hT hH hok hLw hTw hc1 hc2 hLc hTc
 simp only[Qhu,hz] at K0 He SN ⊢
 go_enter Tryz.func117,Tryz.ntmps117
 go_wp2_with fail
 obtain⟨g,hg⟩:∃ g,g=w.heap.size:=⟨_,rfl⟩
 have K0:=hU (show Blk _ g _ _ by rw[hg];exact K0.out)
 rw[<-hg]
 have Hg:=hU hg
 clear hg
 refine(SN.out _).mono ?_
 rintro e w1 ⟨rfl,h1⟩
 have he:=He.out.next h1
 have k0:=K0.out.ext h1
 clear h1 K0 He SN
 obtain⟨HN,hHN⟩:∃ HN,HN=newH true wd:=⟨_,rfl⟩
 have HHN:=hU hHN
 rw[<-hHN]
 clear hHN
 go_upto_region 2 with fail
 have D:=hU (Blk.new w1 35 #[.int .i64 0,.slice none 0 0,.int .i64 0,.slice none 0 0,.int .i64 HN.number,.int .i64 HN.size,.string HN.root,.int .i64 HN.taken,.string HN.takenRoot])
 have hgs:=k0.lt
 have k0:=k0.alloc (.cells #[.int .i64 0,.slice none 0 0,.int .i64 0,.slice none 0 0,.int .i64 HN.number,.int .i64 HN.size,.string HN.root,.int .i64 HN.taken,.string HN.takenRoot] 35)
 have hw1:=he.size
 have he:=he.new (.cells #[.int .i64 0,.slice none 0 0,.int .i64 0,.slice none 0 0,.int .i64 HN.number,.int .i64 HN.size,.string HN.root,.int .i64 HN.taken,.string HN.takenRoot] 35)
 obtain⟨s,hs1⟩:∃ s,s=w1.heap.size:=⟨_,rfl⟩
 have D:=hU (show Blk _ s _ _ by rw[hs1];exact D.out)
 rw[<-hs1]
 rw[<-hs1] at hw1 hgs
 clear hs1
 generalize w1.alloc (.cells #[.int .i64 0,.slice none 0 0,.int .i64 0,.slice none 0 0,.int .i64 HN.number,.int .i64 HN.size,.string HN.root,.int .i64 HN.taken,.string HN.takenRoot] 35)=w2 at *
 have K0:=hU k0;have HE:=hU he
 clear k0 he
 go_wp2_with fail
 go_loopw [21] (fun i wr=>∃(k:Nat) (v1 v2:Value),k<=hs.length/\i=.int .i64 (k:Int)/\Qed (Qc0 wd L T hs) k=true/\(0<k->((hs.headD ⟨0,0,⟨#[]⟩,0,⟨#[]⟩⟩).eqb HN)=true)/\Blk wr s 35 (Qb1 (Qa5 wd L T hs k).leaves.size v1 (Qa5 wd L T hs k).taken.size v2 (Qa5 wd L T hs k).head).toArray/\
  RowT w.heap.size wr v1 (Qa5 wd L T hs k).leaves.peaks/\RowT w.heap.size wr v2 (Qa5 wd L T hs k).taken.peaks/\(∀ x,v1.ownBlock=some x->v2.ownBlock≠some x)/\Blk wr g 35 #[.int .i64 0,.slice none 0 0,.int .i64 0,.slice none 0 0,.int .i64 0,.int .i64 0,.string ⟨#[]⟩,.int .i64 0,.string ⟨#[]⟩]/\Ext w wr) (fun i _=>hs.length-(intOf i).toNat)
 case atStart=>exact⟨0,.slice none 0 0,.slice none 0 0,Nat.zero_le _,rfl,rfl,fun h=>absurd h (by omega),by rw[HHN.out] at D;exact D.out,RowT.nil _ _,RowT.nil _ _,fun x hx=>(by cases hx),K0.out,HE.out⟩
 case round=>
  clear D K0 HE
  obtain⟨k,v1,v2,hk,rfl,hi,hh0,hB,hr1,hr2,hne,k0,he⟩:=hrel
  have Hi:=hU hi;have H0:=hU hh0;have HB:=hU hB;have R1:=hU hr1;have R2:=hU hr2;have NE:=hU hne;have K0:=hU k0;have HE:=hU he
  have hsl:=HB.out.lt
  clear hi hh0 hB hr1 hr2 hne k0
  by_cases hlt:k<hs.length
  case neg=>
   obtain rfl:k=hs.length:=by omega
   have E:=hU (show Qcm wd L T hs=true by
    have h1:=H0.out hpos
    rw[HHN.out] at h1
    rw[Qcm,Hi.out,Bool.and_true];exact h1)
   obtain⟨a1,b1,hv1,_⟩:=Qae R1.out
   obtain⟨a2,b2,hv2,_⟩:=Qae R2.out
   obtain⟨cs,hcs⟩:∃ cs,cs=Qb1 (Qa5 wd L T hs hs.length).leaves.size v1 (Qa5 wd L T hs hs.length).taken.size v2 (Qa5 wd L T hs hs.length).head:=⟨_,rfl⟩
   have hl9:cs.length=9:=by rw[hcs];rfl
   have ho9:cs.all (·.oneCell')=true:=by rw[hcs,hv1,hv2];rfl
   have HB9:=HB.out
   rw[<-hcs] at HB9
   have RG:=hU (Blk.range HB9)
   have TZ:=hU (K0.out.there 0 cs.length (by rw[hl9];simp))
   have hk5:Frm (fun b=>b=g) wr (wr.setCells g 0 cs):=Frm.setCells (X:=fun b=>b=g) (Frm.refl _ wr) (g:=g) (fun _=>rfl) _ _
   obtain⟨w4,hw4,kz,hx,ra,rb⟩:∃ w4,w4=wr.setCells g 0 cs/\Blk w4 g 35 cs.toArray/\Ext w w4/\RowT w.heap.size w4 v1 (Qa5 wd L T hs hs.length).leaves.peaks/\RowT w.heap.size w4 v2 (Qa5 wd L T hs hs.length).taken.peaks:=
    ⟨_,rfl,K0.out.put 0 cs cs.toArray (by rw[hl9];simp) (by rw[List.take_zero,List.nil_append,List.drop_eq_nil_of_le (by rw[hl9];simp),List.append_nil]),Qaa (W:=w) (g:=g) (by have:=Hg.out;omega) cs 0 _ HE.out,hk5.own R1.out (fun b hb=>RowT.apart R1.out K0.out (by decide) b hb),hk5.own R2.out (fun b hb=>RowT.apart R2.out K0.out (by decide) b hb)⟩
   have HW:=hU hw4;have KZ:=hU kz;have HX:=hU hx;have RA:=hU ra;have RB:=hU rb;have HL9:=hU hl9;have HO9:=hU ho9;have HCS:=hU hcs
   clear hw4 kz hx ra rb hk5 hl9 ho9 hcs HB9 hv1 hv2 he
   go_wp2_with (first|(refine wpList_load_mid rfl 35 _ rfl s 0 rfl cs _ RG.out Tryz.underlying35 rfl (by rw[HL9.out];kernel_rfl) ?_)|(refine Qac rfl 35 _ _ rfl rfl g 0 cs rfl rfl TZ.out (by rw[HL9.out];kernel_rfl) HO9.out ?_;rw[<-HW.out]))
   exact Qat rfl rfl KZ.out Tryz.underlying35 rfl (by rw[List.size_toArray,HL9.out];kernel_rfl) rfl ⟨HX.out,Or.inr ⟨E.out,v1,v2,by rw[HCS.out];rfl,RA.out,RB.out,NE.out⟩⟩
  obtain⟨b,off,rfl,hb,_⟩:=Qbb.at_ (HR.out.ext he).reads (k:=k) hlt
  obtain⟨d,hd⟩:∃ d,hs[k]?=some d:=⟨hs[k],List.getElem?_eq_getElem hlt⟩
  obtain⟨c0,c1',c2',c3',c4⟩:=Qbz (HR.out.ext he) hd
  have Hd:=hU hd
  clear hd
  go_upto_region 5 with fail
  have ke:=Blk.new wr 33 #[.int .i64 d.number,.int .i64 d.size,.string d.root,.int .i64 d.taken,.string d.takenRoot]
  replace K0:=hU (K0.out.alloc (.cells #[.int .i64 d.number,.int .i64 d.size,.string d.root,.int .i64 d.taken,.string d.takenRoot] 33));replace HB:=hU (HB.out.alloc (.cells #[.int .i64 d.number,.int .i64 d.size,.string d.root,.int .i64 d.taken,.string d.takenRoot] 33))
  have hx:=Ext.new (Below.refl wr.heap.size wr) (.cells #[.int .i64 d.number,.int .i64 d.size,.string d.root,.int .i64 d.taken,.string d.takenRoot] 33)
  replace R1:=hU (R1.out.ext hx);replace R2:=hU (R2.out.ext hx)
  replace HE:=hU (HE.out.next hx)
  have hwr:=he.size
  obtain⟨q,hq⟩:∃ q,q=wr.heap.size:=⟨_,rfl⟩
  rw[<-hq] at ke
  rw[<-hq]
  have hqs:s<q:=by rw[hq];exact hsl
  clear hx hq c0 c1' c2' c3' c4 he
  generalize wr.alloc (.cells #[.int .i64 d.number,.int .i64 d.size,.string d.root,.int .i64 d.taken,.string d.takenRoot] 33)=w3 at *
  obtain⟨rq,fq⟩:=ke.rules
  have DOK:=hU (Qfk Hd.out ((Qci OK.out).2.2 k hlt))
  by_cases p1:(L.length:Int)<d.size
  · have p1':decide ((L.length:Int)<d.size)=true:=decide_eq_true p1
    have E:=hU (show Qcm wd L T hs=false from Qmy hlt (by rw[Qc0,Hd.out];simp;omega))
    have TZ:=hU (K0.out.there 0 9 (by simp))
    obtain⟨w4,hw4,kz,hx⟩:∃ w4,w4=w3.setCells g 0 [.int .i64 0,.slice none 0 0,.int .i64 0,.slice none 0 0,.int .i64 0,.int .i64 0,.string ⟨#[]⟩,.int .i64 0,.string ⟨#[]⟩]/\Blk w4 g 35 #[.int .i64 0,.slice none 0 0,.int .i64 0,.slice none 0 0,.int .i64 0,.int .i64 0,.string ⟨#[]⟩,.int .i64 0,.string ⟨#[]⟩]/\Ext w w4:=
     ⟨_,rfl,K0.out.put 0 [.int .i64 0,.slice none 0 0,.int .i64 0,.slice none 0 0,.int .i64 0,.int .i64 0,.string ⟨#[]⟩,.int .i64 0,.string ⟨#[]⟩] #[.int .i64 0,.slice none 0 0,.int .i64 0,.slice none 0 0,.int .i64 0,.int .i64 0,.string ⟨#[]⟩,.int .i64 0,.string ⟨#[]⟩] (by simp) rfl,Qaa (W:=w) (g:=g) (by have:=Hg.out;omega) [.int .i64 0,.slice none 0 0,.int .i64 0,.slice none 0 0,.int .i64 0,.int .i64 0,.string ⟨#[]⟩,.int .i64 0,.string ⟨#[]⟩] 0 _ HE.out⟩
    have HW:=hU hw4;have KZ:=hU kz;have HX:=hU hx
    clear hw4 kz hx
    go_wp2_with (first|(refine Qac rfl 35 _ _ rfl rfl g 0 [.int .i64 0,.slice none 0 0,.int .i64 0,.slice none 0 0,.int .i64 0,.int .i64 0,.string ⟨#[]⟩,.int .i64 0,.string ⟨#[]⟩] rfl rfl TZ.out (by kernel_rfl) (by rfl) ?_;rw[<-HW.out]))
    exact Qat rfl rfl KZ.out Tryz.underlying35 rfl (by kernel_rfl) rfl ⟨HX.out,Or.inl ⟨E.out,rfl⟩⟩
  by_cases p2:(T.length:Int)<d.taken
  · have p2':decide ((T.length:Int)<d.taken)=true:=decide_eq_true p2
    have E:=hU (show Qcm wd L T hs=false from Qmy hlt (by rw[Qc0,Hd.out];simp;omega))
    have TZ:=hU (K0.out.there 0 9 (by simp))
    obtain⟨w4,hw4,kz,hx⟩:∃ w4,w4=w3.setCells g 0 [.int .i64 0,.slice none 0 0,.int .i64 0,.slice none 0 0,.int .i64 0,.int .i64 0,.string ⟨#[]⟩,.int .i64 0,.string ⟨#[]⟩]/\Blk w4 g 35 #[.int .i64 0,.slice none 0 0,.int .i64 0,.slice none 0 0,.int .i64 0,.int .i64 0,.string ⟨#[]⟩,.int .i64 0,.string ⟨#[]⟩]/\Ext w w4:=
     ⟨_,rfl,K0.out.put 0 [.int .i64 0,.slice none 0 0,.int .i64 0,.slice none 0 0,.int .i64 0,.int .i64 0,.string ⟨#[]⟩,.int .i64 0,.string ⟨#[]⟩] #[.int .i64 0,.slice none 0 0,.int .i64 0,.slice none 0 0,.int .i64 0,.int .i64 0,.string ⟨#[]⟩,.int .i64 0,.string ⟨#[]⟩] (by simp) rfl,Qaa (W:=w) (g:=g) (by have:=Hg.out;omega) [.int .i64 0,.slice none 0 0,.int .i64 0,.slice none 0 0,.int .i64 0,.int .i64 0,.string ⟨#[]⟩,.int .i64 0,.string ⟨#[]⟩] 0 _ HE.out⟩
    have HW:=hU hw4;have KZ:=hU kz;have HX:=hU hx
    clear hw4 kz hx
    go_wp2_with (first|(refine Qac rfl 35 _ _ rfl rfl g 0 [.int .i64 0,.slice none 0 0,.int .i64 0,.slice none 0 0,.int .i64 0,.int .i64 0,.string ⟨#[]⟩,.int .i64 0,.string ⟨#[]⟩] rfl rfl TZ.out (by kernel_rfl) (by rfl) ?_;rw[<-HW.out]))
    exact Qat rfl rfl KZ.out Tryz.underlying35 rfl (by kernel_rfl) rfl ⟨HX.out,Or.inl ⟨E.out,rfl⟩⟩
  have p1':decide ((L.length:Int)<d.size)=false:=decide_eq_false p1
  have p2':decide ((T.length:Int)<d.taken)=false:=decide_eq_false p2
  have hkc:(k:Int)<=400:=by omega
  rcases Nat.eq_zero_or_pos k with hk0|hk0
  · have K00:=hU hk0
    have Hd0:=hU (show hs[0]?=some d by rw[<-hk0];exact Hd.out)
    have HB0:=hU (show Blk w3 s 35 #[.int .i64 0,v1,.int .i64 0,v2,.int .i64 HN.number,.int .i64 HN.size,.string HN.root,.int .i64 HN.taken,.string HN.takenRoot] by have:=HB.out;rw[hk0] at this;rw[HHN.out];exact this)
    have g0:decide ((0:Int)<(k:Int))=false:=decide_eq_false (by omega)
    have g0':¬ 0<k:=by omega
    clear hk0
    obtain⟨rs,fs⟩:=HB0.out.rules
    have HQ:=Qak.run_neq HN d
    cases q1:HN.eqb d
    · have E:=hU (show Qcm wd L T hs=false from sealsB_0 Hd0.out (by rw[<-HHN.out];exact q1))
      have TZ:=hU (K0.out.there 0 9 (by simp))
      obtain⟨w4,hw4,kz,hx⟩:∃ w4,w4=w3.setCells g 0 [.int .i64 0,.slice none 0 0,.int .i64 0,.slice none 0 0,.int .i64 0,.int .i64 0,.string ⟨#[]⟩,.int .i64 0,.string ⟨#[]⟩]/\Blk w4 g 35 #[.int .i64 0,.slice none 0 0,.int .i64 0,.slice none 0 0,.int .i64 0,.int .i64 0,.string ⟨#[]⟩,.int .i64 0,.string ⟨#[]⟩]/\Ext w w4:=
       ⟨_,rfl,K0.out.put 0 [.int .i64 0,.slice none 0 0,.int .i64 0,.slice none 0 0,.int .i64 0,.int .i64 0,.string ⟨#[]⟩,.int .i64 0,.string ⟨#[]⟩] #[.int .i64 0,.slice none 0 0,.int .i64 0,.slice none 0 0,.int .i64 0,.int .i64 0,.string ⟨#[]⟩,.int .i64 0,.string ⟨#[]⟩] (by simp) rfl,Qaa (W:=w) (g:=g) (by have:=Hg.out;omega) [.int .i64 0,.slice none 0 0,.int .i64 0,.slice none 0 0,.int .i64 0,.int .i64 0,.string ⟨#[]⟩,.int .i64 0,.string ⟨#[]⟩] 0 _ HE.out⟩
      have HW:=hU hw4;have KZ:=hU kz;have HX:=hU hx
      clear hw4 kz hx
      go_wp2_with (first|(refine Qac rfl 35 _ _ rfl rfl g 0 [.int .i64 0,.slice none 0 0,.int .i64 0,.slice none 0 0,.int .i64 0,.int .i64 0,.string ⟨#[]⟩,.int .i64 0,.string ⟨#[]⟩] rfl rfl TZ.out (by kernel_rfl) (by rfl) ?_;rw[<-HW.out]))
      exact Qat rfl rfl KZ.out Tryz.underlying35 rfl (by kernel_rfl) rfl ⟨HX.out,Or.inl ⟨E.out,rfl⟩⟩
    · have SZ:=hU (Qws (L:=L) (T:=T) Hd0.out (show d=newH true wd by rw[<-HHN.out];exact((Qak.eqb_iff _ _).1 q1).symm))
      have NX:=hU (show Qed (Qc0 wd L T hs) (k+1)=true from Qe9 Hi.out (by rw[K00.out];exact SZ.out.1))
      have HD0:=hU (show(hs.headD ⟨0,0,⟨#[]⟩,0,⟨#[]⟩⟩).eqb HN=true by
       have h0:=Hd0.out
       cases hs with
       | nil=>simp at h0
       | cons x r=>
         have:x=d:=by simpa using h0
         rw[List.headD_cons,this,(Qak.eqb_iff _ _).1 q1,Qak.eqb_self])
      have SP:=hU (show Qa5 wd L T hs (k+1)=Qa5 wd L T hs k by rw[K00.out,SZ.out.2];rfl)
      go_wp2_with fail
      go_roundw
      case rel=>exact⟨k+1,v1,v2,by omega,by go_num,NX.out,fun _=>HD0.out,by rw[SP.out];exact HB.out,by rw[SP.out];exact R1.out,by rw[SP.out];exact R2.out,NE.out,K0.out,HE.out⟩
      case measure=>simp[intOf];omega
  obtain⟨j,hj⟩:∃ j,k=j+1:=⟨k-1,by omega⟩
  obtain⟨gh,hgh⟩:∃ gh,hs[j]?=some gh:=⟨hs[j]'(by omega),List.getElem?_eq_getElem (by omega)⟩
  have Hj:=hU hj;have Hgh:=hU hgh
  have Hd1:=hU (show hs[j+1]?=some d by rw[<-hj];exact Hd.out)
  have gok:=Qfk hgh ((Qci OK.out).2.2 j (by omega))
  have gin:=Qg5 gok.1
  have up:=Qr0 hgh Hd1.out ((Qci OK.out).2.2 (j+1) (by omega))
  have din:=Qg5 DOK.out.1
  obtain⟨n1,hn1⟩:∃ n1,n1=gh.size.toNat:=⟨_,rfl⟩
  obtain⟨n2,hn2⟩:∃ n2,n2=gh.taken.toNat:=⟨_,rfl⟩
  obtain⟨m1,hm1⟩:∃ m1,m1=d.size.toNat:=⟨_,rfl⟩
  obtain⟨m2,hm2⟩:∃ m2,m2=d.taken.toNat:=⟨_,rfl⟩
  have sr1:=Qt2 (wd:=wd) (l:=L) gin.1 (by omega)
  have sr2:=Qt2 (wd:=wd) (l:=T) gin.2.2.1 (by omega)
  have SPk:Qa5 wd L T hs k=Qbx wd L T gh:=by rw[hj];exact Qep hgh
  rw[SPk] at HB R1 R2
  have r1:RowT w.heap.size w3 v1 (Qbt (ndB wd) (L.take n1)).reverse:=by rw[hn1];exact R1.out
  have r2:RowT w.heap.size w3 v2 (Qbt (ndB wd) (T.take n2)).reverse:=by rw[hn2];exact R2.out
  have hB:Blk w3 s 35 (Qb1 gh.size v1 gh.taken v2 gh).toArray:=by have:=HB.out;simp only[Qbx] at this;rw[sr1.1,sr2.1] at this;exact this
  have hB2:Blk w3 s 35 ([]++Qb1 (n1:Int) v1 (n2:Int) v2 gh++[]).toArray:=by
   rw[show(n1:Int)=gh.size by omega,show(n2:Int)=gh.taken by omega]
   simpa using hB
  have lw1:=LC.out
  have cc:=HC.out
  have ll1:((L.drop n1).take (m1-n1)).length=m1-n1:=by rw[List.length_take,List.length_drop];omega
  have ll2:((T.drop n2).take (m2-n2)).length=m2-n2:=by rw[List.length_take,List.length_drop];omega
  have lo1:∀ b,b<w.heap.size->b≠s/\v1.ownBlock≠some b/\v2.ownBlock≠some b:=fun b hb=>⟨by omega,fun e=>by have:=(r1.lt b e).1;omega,fun e=>by have:=(r2.lt b e).1;omega⟩
  have pr1:=Qiu Qbw HL.out (c:=c1) (n:=n1) (m:=m1) (by omega) (by omega) lw1.1
  have pr2:=Qiu Qbw HT.out (c:=c2) (n:=n2) (m:=m2) (by omega) (by omega) lw1.2
  have q1:SlF (fun b=>b≠s/\v1.ownBlock≠some b/\v2.ownBlock≠some b) sone 1 w3 (Qhx A1 c1 n1 1) ((L.drop n1).take (m1-n1)) (c1-n1):=
   ⟨by rw[ll1];omega,by omega,(Qbb.ext pr1 HE.out),fun h0 a ea=>by obtain⟨b,off,e,hb,_⟩:=pr1.2 h0;rw[ea] at e;cases e;exact lo1 b hb⟩
  have q2:SlF (fun b=>b≠s/\v1.ownBlock≠some b/\v2.ownBlock≠some b) sone 1 w3 (Qhx A2 c2 n2 1) ((T.drop n2).take (m2-n2)) (c2-n2):=
   ⟨by rw[ll2];omega,by omega,(Qbb.ext pr2 HE.out),fun h0 a ea=>by obtain⟨b,off,e,hb,_⟩:=pr2.2 h0;rw[ea] at e;cases e;exact lo1 b hb⟩
  have C:=hU (Quc wd hwd w.heap.size s 35 0 n1 n2 [] [] v1 v2 gh (Qbt (ndB wd) (L.take n1)) (Qbt (ndB wd) (T.take n2)) (Qhx A1 c1 n1 1) (c1-n1) ((L.drop n1).take (m1-n1)) (Qhx A2 c2 n2 1) (c2-n2) ((T.drop n2).take (m2-n2)) w3.drew rfl hB2 (by decide) r1 r2 NE.out HE.out.size
   (Qkf hwd (fun x hx=>LW.out x (List.mem_of_mem_take hx))) (Qkf hwd (fun x hx=>TW.out x (List.mem_of_mem_take hx))) (by rw[hn1];exact sr1.2) (by rw[hn2];exact sr2.2) (by omega) (by omega) (by rw[ll1];omega) (by rw[ll2];omega) (by rw[gok.2];omega) q1.drew q2.drew
   (fun x hx=>LW.out x (List.mem_of_mem_drop (List.mem_of_mem_take hx))) (fun x hx=>TW.out x (List.mem_of_mem_drop (List.mem_of_mem_take hx))))
  have SL1:=fun W=>Qt3 (P:=Tryz.prog) (t:=29) A1 L.length c1 n1 m1 1 Tryz.underlying29 (fun W=>by kernel_rfl) (by omega) (by omega) (x:=gh.size) (y:=d.size) (by omega) (by omega) W
  have SL2:=fun W=>Qt3 (P:=Tryz.prog) (t:=29) A2 T.length c2 n2 m2 1 Tryz.underlying29 (fun W=>by kernel_rfl) (by omega) (by omega) (x:=gh.taken) (y:=d.taken) (by omega) (by omega) W
  have SR:=hU (Qux (w:=wd) (L:=L) (T:=T) OK.out hgh Hd1.out (by omega) (by omega))
  obtain⟨NS,hNS⟩:∃ NS,NS=Qxq wd (Qa5 wd L T hs (j+1)) ((L.drop gh.size.toNat).take (d.size.toNat-gh.size.toNat)) ((T.drop gh.taken.toNat).take (d.taken.toNat-gh.taken.toNat)):=⟨_,rfl⟩
  have SR:Hid (NS.head.eqb d=Qc0 wd L T hs (j+1)/\(NS.head.eqb d=true->NS=Qa5 wd L T hs (j+2))):=hU (by rw[hNS];exact SR.out)
  have e1:(Qbx wd L T gh).leaves=⟨gh.size,(Qbt (ndB wd) (L.take n1)).reverse⟩:=by
   have:=sr1.1
   rw[hn1]
   exact(show Qbi wd (L.take gh.size.toNat)=⟨(Qbi wd (L.take gh.size.toNat)).size,(Qbt (ndB wd) (L.take gh.size.toNat)).reverse⟩ from rfl).trans (by rw[this])
  have e2:(Qbx wd L T gh).taken=⟨gh.taken,(Qbt (ndB wd) (T.take n2)).reverse⟩:=by
   have:=sr2.1
   rw[hn2]
   exact(show Qbi wd (T.take gh.taken.toNat)=⟨(Qbi wd (T.take gh.taken.toNat)).size,(Qbt (ndB wd) (T.take gh.taken.toNat)).reverse⟩ from rfl).trans (by rw[this])
  obtain⟨X1,hX1⟩:∃ X1,X1=Qcj (ndB wd) n1 (Qbt (ndB wd) (L.take n1)) ((L.drop n1).take (m1-n1)):=⟨_,rfl⟩
  obtain⟨X2,hX2⟩:∃ X2,X2=Qcj (ndB wd) n2 (Qbt (ndB wd) (T.take n2)) ((T.drop n2).take (m2-n2)):=⟨_,rfl⟩
  have NSf:NS=⟨⟨((n1+(m1-n1):Nat):Int),X1.reverse⟩,⟨((n2+(m2-n2):Nat):Int),X2.reverse⟩,⟨gh.number+1,((n1+(m1-n1):Nat):Int),Qjr (ndB wd) (Qcg wd) X1,((n2+(m2-n2):Nat):Int),Qjr (ndB wd) (Qcg wd) X2⟩⟩:=by
   have a1:gh.size.toNat=n1:=hn1.symm
   have a2:gh.taken.toNat=n2:=hn2.symm
   have a3:d.size.toNat=m1:=hm1.symm
   have a4:d.taken.toNat=m2:=hm2.symm
   have b1:gh.size+((m1-n1:Nat):Int)=((n1+(m1-n1):Nat):Int):=by omega
   have b2:gh.taken+((m2-n2:Nat):Int)=((n2+(m2-n2):Nat):Int):=by omega
   rw[hNS,<-hj,SPk]
   unfold Qxq
   simp only[e1,e2,a1,a2,a3,a4,ll1,ll2,List.reverse_reverse,<-hX1,<-hX2,b1,b2,Qkb]
   rfl
  rw[ll1,ll2,<-hX1,<-hX2] at C
  obtain⟨Y1,hY1⟩:∃ Y1:Int,Y1=((n1+(m1-n1):Nat):Int):=⟨_,rfl⟩
  obtain⟨Y2,hY2⟩:∃ Y2:Int,Y2=((n2+(m2-n2):Nat):Int):=⟨_,rfl⟩
  obtain⟨Z1,hZ1⟩:∃ Z1,Z1=Qjr (ndB wd) (Qcg wd) X1:=⟨_,rfl⟩
  obtain⟨Z2,hZ2⟩:∃ Z2,Z2=Qjr (ndB wd) (Qcg wd) X2:=⟨_,rfl⟩
  rw[<-hY1,<-hY2,<-hZ1,<-hZ2] at C NSf
  obtain⟨P1,hP1⟩:∃ P1,P1=Qhx A1 c1 n1 1:=⟨_,rfl⟩
  obtain⟨P2,hP2⟩:∃ P2,P2=Qhx A2 c2 n2 1:=⟨_,rfl⟩
  obtain⟨D1,hD1⟩:∃ D1,D1=m1-n1:=⟨_,rfl⟩
  obtain⟨D2,hD2⟩:∃ D2,D2=m2-n2:=⟨_,rfl⟩
  obtain⟨E1,hE1⟩:∃ E1,E1=c1-n1:=⟨_,rfl⟩
  obtain⟨E2,hE2⟩:∃ E2,E2=c2-n2:=⟨_,rfl⟩
  rw[<-hP1,<-hD1,<-hE1,<-hP2,<-hD2,<-hE2] at C
  rw[<-hP1,<-hD1,<-hE1] at SL1
  rw[<-hP2,<-hD2,<-hE2] at SL2
  have NSF:=hU NSf
  have HB1:=hU (show Blk w3 s 35 #[.int .i64 gh.size,v1,.int .i64 gh.taken,v2,.int .i64 gh.number,.int .i64 gh.size,.string gh.root,.int .i64 gh.taken,.string gh.takenRoot] from hB)
  have gs:decide ((0:Int)<(k:Int))=true:=decide_eq_true (by omega)
  have gs':0<k:=hk0
  have KE:=hU ke
  have apk1:=hU (r1.apart K0.out (by decide));have apk2:=hU (r2.apart K0.out (by decide))
  have ape1:=hU (r1.apart ke (by decide));have ape2:=hU (r2.apart ke (by decide))
  have lt1:=hU r1.lt;have lt2:=hU r2.lt
  clear hj hgh gok gin up din hn1 hn2 hm1 hm2 sr1 sr2 SPk hB2 lw1 cc ll1 ll2 lo1 pr1 pr2 q1 q2 hNS e1 e2 hX1 hX2 NSf hY1 hY2 hZ1 hZ2 hP1 hP2 hD1 hD2 hE1 hE2 hB r1 r2
  obtain⟨rs,fs⟩:=HB1.out.rules
  go_wp2_with fail
  go_still_tail 15,(by kernel_rfl)
  change wpList _ _ _ _ _ w3.drew
  go_wp2_with fail
  refine C.out.mono ?_
  rintro e w5 ⟨m5,u1,u2,rfl,hB5,hr1,hr2,hF5,hM1,hM2,hN5⟩
  have B5:Blk w5 s 35 #[.int .i64 Y1,u1,.int .i64 Y2,u2,.int .i64 NS.head.number,.int .i64 NS.head.size,.string NS.head.root,.int .i64 NS.head.taken,.string NS.head.takenRoot]:=by rw[NSF.out];simpa [Qb1] using hB5
  have he5:Ext w w5:=hF5.toExt HE.out.drew (fun b hb hx=>by
   rcases hx with e|e|e
   · omega
   · have:=(lt1.out b e).1;omega
   · have:=(lt2.out b e).1;omega)
  have k05:Blk w5 g 35 #[.int .i64 0,.slice none 0 0,.int .i64 0,.slice none 0 0,.int .i64 0,.int .i64 0,.string ⟨#[]⟩,.int .i64 0,.string ⟨#[]⟩]:=hF5.blk K0.out.drew (fun hx=>by
   rcases hx with e|e|e
   · omega
   · exact apk1.out g e rfl
   · exact apk2.out g e rfl)
  have ke5:Blk w5 q 33 #[.int .i64 d.number,.int .i64 d.size,.string d.root,.int .i64 d.taken,.string d.takenRoot]:=hF5.blk KE.out.drew (fun hx=>by
   rcases hx with e|e|e
   · omega
   · exact ape1.out q e rfl
   · exact ape2.out q e rfl)
  replace K0:=hU k05;replace HE:=hU he5
  have HB5:=hU B5;have Ru1:=hU hr1;have Ru2:=hU hr2;have HN5:=hU hN5
  clear hB5 hr1 hr2 hF5 hM1 hM2 hN5 rs fs rq fq ke k05 he5 C SL1 SL2 HB1 KE R1 R2 HB NE
  obtain⟨rs,fs⟩:=B5.rules
  obtain⟨rq,fq⟩:=ke5.rules
  have HQ:=Qak.run_neq NS.head d
  clear B5 ke5
  cases q5:NS.head.eqb d
  · have E:=hU (show Qcm wd L T hs=false from Qmy hlt (by rw[Hj.out,<-SR.out.1];exact q5))
    have TZ:=hU (K0.out.there 0 9 (by simp))
    obtain⟨w4,hw4,kz,hx⟩:∃ w4,w4=w5.setCells g 0 [.int .i64 0,.slice none 0 0,.int .i64 0,.slice none 0 0,.int .i64 0,.int .i64 0,.string ⟨#[]⟩,.int .i64 0,.string ⟨#[]⟩]/\Blk w4 g 35 #[.int .i64 0,.slice none 0 0,.int .i64 0,.slice none 0 0,.int .i64 0,.int .i64 0,.string ⟨#[]⟩,.int .i64 0,.string ⟨#[]⟩]/\Ext w w4:=
     ⟨_,rfl,K0.out.put 0 [.int .i64 0,.slice none 0 0,.int .i64 0,.slice none 0 0,.int .i64 0,.int .i64 0,.string ⟨#[]⟩,.int .i64 0,.string ⟨#[]⟩] #[.int .i64 0,.slice none 0 0,.int .i64 0,.slice none 0 0,.int .i64 0,.int .i64 0,.string ⟨#[]⟩,.int .i64 0,.string ⟨#[]⟩] (by simp) rfl,Qaa (W:=w) (g:=g) (by have:=Hg.out;omega) [.int .i64 0,.slice none 0 0,.int .i64 0,.slice none 0 0,.int .i64 0,.int .i64 0,.string ⟨#[]⟩,.int .i64 0,.string ⟨#[]⟩] 0 _ HE.out⟩
    have HW:=hU hw4;have KZ:=hU kz;have HX:=hU hx
    clear hw4 kz hx
    go_wp2_with (first|(refine Qac rfl 35 _ _ rfl rfl g 0 [.int .i64 0,.slice none 0 0,.int .i64 0,.slice none 0 0,.int .i64 0,.int .i64 0,.string ⟨#[]⟩,.int .i64 0,.string ⟨#[]⟩] rfl rfl TZ.out (by kernel_rfl) (by rfl) ?_;rw[<-HW.out]))
    exact Qat rfl rfl KZ.out Tryz.underlying35 rfl (by kernel_rfl) rfl ⟨HX.out,Or.inl ⟨E.out,rfl⟩⟩
  · have SP:=hU (show NS=Qa5 wd L T hs (k+1) by rw[Hj.out];exact SR.out.2 q5)
    have NX:=hU (show Qed (Qc0 wd L T hs) (k+1)=true from Qe9 Hi.out (by rw[Hj.out,<-SR.out.1];exact q5))
    have HF:=hU (show Blk w5 s 35 (Qb1 (Qa5 wd L T hs (k+1)).leaves.size u1 (Qa5 wd L T hs (k+1)).taken.size u2 (Qa5 wd L T hs (k+1)).head).toArray by rw[<-SP.out];have:=HB5.out;rw[NSF.out] at this ⊢;exact this)
    have HR1:=hU (show RowT w.heap.size w5 u1 (Qa5 wd L T hs (k+1)).leaves.peaks by rw[<-SP.out,NSF.out];exact Ru1.out)
    have HR2:=hU (show RowT w.heap.size w5 u2 (Qa5 wd L T hs (k+1)).taken.peaks by rw[<-SP.out,NSF.out];exact Ru2.out)
    have H00:=hU (H0.out hk0)
    go_wp2_with fail
    go_roundw
    case rel=>exact⟨k+1,u1,u2,by omega,by go_num,NX.out,fun _=>H00.out,HF.out,HR1.out,HR2.out,HN5.out,K0.out,HE.out⟩
    case measure=>simp[intOf];omega
end Go.Proofs.YtbnkjgcpjeedfaaGreat
