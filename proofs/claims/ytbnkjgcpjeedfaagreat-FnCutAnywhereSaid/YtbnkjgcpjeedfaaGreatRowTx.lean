/-
  InfoInt; Types; Name; Gapless; Own; Nest; GivenTo; AppSrc; AppNew; Frm; NString; RowTx: No condition.
-/
import Derived.Test.YtbnkjgcpjeedfaaGreatMem
import Derived.Test.YtbnkjgcpjeedfaaGreatProg
import Derived.Laws.OwnMore
import Derived.OwnWalk
import Derived.Laws.AppendOwnNone
import Derived.Tactics
import Derived.StillTailTactics
namespace Go.Proofs.YtbnkjgcpjeedfaaGreat
set_option linter.unusedSimpArgs false
open Go.RowKit
theorem info_int:(Tryz.prog.info? 3).map (fun i=>(i.zero,i.size,i.bytes))=some (some (.int .i64 0),1,8):=by kernel_rfl
theorem Qd8:(Tryz.prog.info? 9).map (fun i=>(i.zero,i.size,i.bytes))=some (some (.string ⟨#[]⟩),1,16):=by kernel_rfl
set_option linter.unusedVariables false
structure Qaf where
 topic:ByteArray
 index:Int
 time:Int
 key:ByteArray
 body:ByteArray
def Qaf.cells (d:Qaf):List Value:=[.string d.topic,.int .i64 d.index,.int .i64 d.time,.string d.key,.string d.body]
theorem Qaf.cells_length(d:Qaf):d.cells.length=5:=rfl
def Qaf.Ok (d:Qaf):Prop:=d.topic.size<=maxLen/\(Lit.int .i64 d.index).wf=true/\(Lit.int .i64 d.time).wf=true/\d.key.size<=maxLen/\d.body.size<=maxLen
structure Qab where
 reader:ByteArray
 topic:ByteArray
 index:Int
def Qab.cells (d:Qab):List Value:=[.string d.reader,.string d.topic,.int .i64 d.index]
theorem Qab.cells_length(d:Qab):d.cells.length=3:=rfl
def Qab.Ok (d:Qab):Prop:=d.reader.size<=maxLen/\d.topic.size<=maxLen/\(Lit.int .i64 d.index).wf=true
structure Qbs where
 file:Int
 at_:Int
 text:ByteArray
def Qbs.cells (d:Qbs):List Value:=[.int .i64 d.file,.int .i64 d.at_,.string d.text]
structure Qak where
 number:Int
 size:Int
 root:ByteArray
 taken:Int
 takenRoot:ByteArray
def Qak.cells (d:Qak):List Value:=[.int .i64 d.number,.int .i64 d.size,.string d.root,.int .i64 d.taken,.string d.takenRoot]
theorem Qak.cells_length(d:Qak):d.cells.length=5:=rfl
structure GivenD where
 who:Int
 leaf:Int
 entry:Qaf
set_option maxHeartbeats 1000000
def Qcv (c:UInt8):Bool:=decide (97<=(c.toNat:Int)/\(c.toNat:Int)<=122\/48<=(c.toNat:Int)/\(c.toNat:Int)<=57\/(c.toNat:Int)=45)
def Qcn (s:ByteArray):Bool:=inR s.size 1 20&&s.data.toList.all Qcv
def Qgs (p:UInt8->Bool) (s:ByteArray) (fin:Bool) (k:Nat):Prop:=(s.data.toList.drop k).all p=fin
theorem Qgs.done{p:UInt8->Bool}{s:ByteArray}{fin:Bool}{k:Nat}(h:Qgs p s fin k)(hk:s.size<=k):fin=true:=by
 unfold Qgs at h
 rw[List.drop_eq_nil_of_le (by simpa using hk)] at h
 simpa using h.symm
theorem Qgs.step{p:UInt8->Bool}{s:ByteArray}{fin:Bool}{k:Nat}(h:Qgs p s fin k)(hk:k<s.size):(p s[k]=false->fin=false)/\(p s[k]=true->Qgs p s fin (k+1)):=by
 unfold Qgs at h
 rw[List.drop_eq_getElem_cons (by simpa using hk)] at h
 have e:s.data.toList[k]'(by simpa using hk)=s[k]:=rfl
 rw[e] at h
 simp only[List.all_cons] at h
 exact⟨fun e=>by rw[e] at h;simpa using h.symm,fun e=>by rw[e] at h;simpa [Qgs] using h⟩
theorem Qam{a b:Bool}(h:a=b):Ending.returned (.bool a)=.returned (.bool b):=by rw[h]
theorem Ext.drewN{W w:World}(h:Ext W w)(n:Nat):Ext W (w.drewN n):=⟨h.os,h.tape,h.output,h.size,h.block⟩
theorem Qcf(s:ByteArray)(w:World)(hs:s.size<=maxLen) :
 Calls Tryz.prog 150 #[.string s] w fun e w'=>e=.returned (.bool (Qcn s))/\w=w':=by
 unfold maxLen at hs
 cases hin:inR s.size 1 20
 · have Hp:=hU (show Qcn s=false by simp[Qcn,hin])
   go_enter Tryz.func150,Tryz.ntmps150
   go_wp2_with (go_at_call 107;refine(Qcd _ _ _ _).mono ?_;rintro e w' ⟨rfl,rfl⟩)
   go_ret
   exact⟨Qam Hp.out.symm,rfl⟩
 · obtain⟨fin,hfin⟩:∃ fin,fin=Qcn s:=⟨_,rfl⟩
   have Hi:Qgs Qcv s fin 0:=by rw[hfin];simp[Qgs,Qcn,hin]
   rw[<-hfin];clear hfin
   go_enter Tryz.func150,Tryz.ntmps150
   go_wp2_with (go_at_call 107;refine(Qcd _ _ _ _).mono ?_;rintro e w' ⟨rfl,rfl⟩)
   go_loop [3] (fun i=>∃ k:Nat,k<=s.size/\i=.int .i64 k/\Qgs Qcv s fin k) (fun i=>s.size-(intOf i).toNat)
   case atStart=>exact⟨0,Nat.zero_le _,rfl,Hi⟩
   case round=>
    obtain⟨k,hk,rfl,hi⟩:=hrel
    clear Hi
    by_cases hlt:k<s.size
    · obtain⟨s1,s2⟩:=hi.step hlt
      clear hi
      have S1:=hU s1;have S2:=hU s2;clear s1 s2
      have h7:(s[k].toNat:Int)<45\/(45<=(s[k].toNat:Int)/\(s[k].toNat:Int)<=45)\/(46<=(s[k].toNat:Int)/\(s[k].toNat:Int)<=47)\/(48<=(s[k].toNat:Int)/\(s[k].toNat:Int)<=57)\/(58<=(s[k].toNat:Int)/\(s[k].toNat:Int)<=96)\/(97<=(s[k].toNat:Int)/\(s[k].toNat:Int)<=122)\/122<(s[k].toNat:Int):=by omega
      rcases h7 with h|⟨h,h'⟩|⟨h,h'⟩|⟨h,h'⟩|⟨h,h'⟩|⟨h,h'⟩|h
      case inr.inl=>
       have E:=hU (S2.out (by simp only[Qcv,decide_eq_true_eq];omega))
       have hd:((s[k].toNat:Int)==45)=true:=by rw[beq_iff_eq];omega
       go_wp2_with fail
       go_round
       case rel=>exact⟨k+1,by omega,by go_num,E.out⟩
       case measure=>simp[intOf];omega
      case inr.inr.inr.inl|inr.inr.inr.inr.inr.inl=>
       have E:=hU (S2.out (by simp only[Qcv,decide_eq_true_eq];omega))
       go_wp2_with fail
       go_round
       case rel=>exact⟨k+1,by omega,by go_num,E.out⟩
       case measure=>simp[intOf];omega
      case inr.inr.inr.inr.inr.inr=>
       have E:=hU (S1.out (by simp only[Qcv,decide_eq_false_iff_not];omega))
       have hd:((s[k].toNat:Int)==45)=false:=by rw[beq_eq_false_iff_ne];omega
       have d1:decide ((s[k].toNat:Int)<=122)=false:=by rw[decide_eq_false_iff_not];omega
       have d2:decide ((s[k].toNat:Int)<=57)=false:=by rw[decide_eq_false_iff_not];omega
       go_wp2_with fail
       go_ret
       exact⟨Qam E.out.symm,rfl⟩
      case inr.inr.inr.inr.inl=>
       have E:=hU (S1.out (by simp only[Qcv,decide_eq_false_iff_not];omega))
       have hd:((s[k].toNat:Int)==45)=false:=by rw[beq_eq_false_iff_ne];omega
       have d2:decide ((s[k].toNat:Int)<=57)=false:=by rw[decide_eq_false_iff_not];omega
       go_wp2_with fail
       go_ret
       exact⟨Qam E.out.symm,rfl⟩
      all_goals
       have E:=hU (S1.out (by simp only[Qcv,decide_eq_false_iff_not];omega))
       have hd:((s[k].toNat:Int)==45)=false:=by rw[beq_eq_false_iff_ne];omega
       go_wp2_with fail
       go_ret
       exact⟨Qam E.out.symm,rfl⟩
    · have E:=hU (hi.done (by omega))
      clear hi
      go_wp2_with fail
      go_ret
      exact⟨Qam E.out.symm,rfl⟩
theorem Qi7(s:ByteArray)(w:World)(hs:s.size<=maxLen) :
 Calls Tryz.prog 189 #[.string s] w fun e w'=>e=.returned (.bool (Qcn s))/\w=w':=by
 unfold maxLen at hs
 obtain⟨fin,hfin⟩:∃ fin,fin=s.data.toList.all Qcv:=⟨_,rfl⟩
 have Hi:Qgs Qcv s fin 0:=by rw[hfin];simp[Qgs]
 have Hf:Hid (Qcn s=(inR s.size 1 20&&fin)):=by rw[hfin];exact hU rfl
 clear hfin
 go_enter Tryz.func189,Tryz.ntmps189
 go_wp2_with fail
 go_loop [3] (fun i=>∃ k:Nat,k<=s.size/\i=.int .i64 k/\Qgs Qcv s fin k) (fun i=>s.size-(intOf i).toNat)
 case atStart=>exact⟨0,Nat.zero_le _,rfl,Hi⟩
 case round=>
  obtain⟨k,hk,rfl,hi⟩:=hrel
  clear Hi
  by_cases hlt:k<s.size
  · obtain⟨s1,s2⟩:=hi.step hlt
    clear hi
    have S1:=hU s1;have S2:=hU s2;clear s1 s2
    have h7:(s[k].toNat:Int)<45\/(45<=(s[k].toNat:Int)/\(s[k].toNat:Int)<=45)\/(46<=(s[k].toNat:Int)/\(s[k].toNat:Int)<=47)\/(48<=(s[k].toNat:Int)/\(s[k].toNat:Int)<=57)\/(58<=(s[k].toNat:Int)/\(s[k].toNat:Int)<=96)\/(97<=(s[k].toNat:Int)/\(s[k].toNat:Int)<=122)\/122<(s[k].toNat:Int):=by omega
    rcases h7 with h|⟨h,h'⟩|⟨h,h'⟩|⟨h,h'⟩|⟨h,h'⟩|⟨h,h'⟩|h
    case inr.inl=>
     have E:=hU (S2.out (by simp only[Qcv,decide_eq_true_eq];omega))
     have hd:((s[k].toNat:Int)==45)=true:=by rw[beq_iff_eq];omega
     go_wp2_with fail
     go_round
     case rel=>exact⟨k+1,by omega,by go_num,E.out⟩
     case measure=>simp[intOf];omega
    case inr.inr.inr.inl|inr.inr.inr.inr.inr.inl=>
     have E:=hU (S2.out (by simp only[Qcv,decide_eq_true_eq];omega))
     go_wp2_with fail
     go_round
     case rel=>exact⟨k+1,by omega,by go_num,E.out⟩
     case measure=>simp[intOf];omega
    case inr.inr.inr.inr.inr.inr=>
     have E:=hU (S1.out (by simp only[Qcv,decide_eq_false_iff_not];omega))
     have hd:((s[k].toNat:Int)==45)=false:=by rw[beq_eq_false_iff_ne];omega
     have d1:decide ((s[k].toNat:Int)<=122)=false:=by rw[decide_eq_false_iff_not];omega
     have d2:decide ((s[k].toNat:Int)<=57)=false:=by rw[decide_eq_false_iff_not];omega
     go_wp2_with fail
     go_ret
     exact⟨Qam (by rw[Hf.out,E.out,Bool.and_false]),rfl⟩
    case inr.inr.inr.inr.inl=>
     have E:=hU (S1.out (by simp only[Qcv,decide_eq_false_iff_not];omega))
     have hd:((s[k].toNat:Int)==45)=false:=by rw[beq_eq_false_iff_ne];omega
     have d2:decide ((s[k].toNat:Int)<=57)=false:=by rw[decide_eq_false_iff_not];omega
     go_wp2_with fail
     go_ret
     exact⟨Qam (by rw[Hf.out,E.out,Bool.and_false]),rfl⟩
    all_goals
     have E:=hU (S1.out (by simp only[Qcv,decide_eq_false_iff_not];omega))
     have hd:((s[k].toNat:Int)==45)=false:=by rw[beq_eq_false_iff_ne];omega
     go_wp2_with fail
     go_ret
     exact⟨Qam (by rw[Hf.out,E.out,Bool.and_false]),rfl⟩
  · have E:=hU (hi.done (by omega))
    clear hi
    go_wp2_with fail
    refine(Qba _ _ _ _).mono ?_
    rintro e w1 ⟨rfl,rfl⟩
    go_wp2_with fail
    go_ret
    exact⟨Qam (by rw[Hf.out,E.out,Bool.and_true]),rfl⟩
section
variable {l : List GivenD} {who : Int} {topic : ByteArray} {fin : Bool} {k n : Nat} {last : Int}
end
theorem Ext.ownGrown{W w w':World}{B e size n:Nat}{v:Value}{xs:List Value}(he:Ext W w)(hown:w.ownsRow B e size v n xs)(hg:w.grownBy w' v.ownBlock)(hB:W.heap.size<=B):Ext W w':=
 Below.grown he hg he.size (fun k hk=>Nat.le_trans hB (hown.lt k hk).1)
theorem Qag{w w':World}{B e size n:Nat}{v:Value}{xs:List Value}(h:w.ownsRow B e size v n xs)(he:Ext w w'):w'.ownsRow B e size v n xs:=by
 refine⟨h.1,?_⟩
 rcases h.2 with h1|⟨g,cap,cur,hv,hg,hh,hrest⟩
 · exact .inl h1
 · exact .inr ⟨g,cap,cur,hv,hg,(he.block g (Blk.lt (t:=e) (cs:=cur) hh)).trans hh,hrest⟩
theorem Qae{w:World}{B e size n:Nat}{v:Value}{xs:List Value}(h:w.ownsRow B e size v n xs):∃ A c,v=.slice A n c/\n<=c:=by
 rcases h.2 with⟨h1,h2⟩|⟨g,cap,cur,hv,hg,hh,hn,hrest⟩
 · exact⟨none,0,by rw[h1,h2],by omega⟩
 · exact⟨_,cap,hv,hn⟩
theorem Qaj{w:World}{B B' e size n:Nat}{v:Value}{xs:List Value}(h:w.ownsRow B e size v n xs)(hB:B'<=B):w.ownsRow B' e size v n xs:=by
 refine⟨h.1,?_⟩
 rcases h.2 with h1|⟨g,cap,cur,hv,hg,hrest⟩
 · exact .inl h1
 · exact .inr ⟨g,cap,cur,hv,Nat.le_trans hB hg,hrest⟩
theorem Qrm(w:World)(u:Value)(t:TypeId):∀ j v,[u][j]?=some v->(w.alloc (.cells #[u] t)).cell? ((⟨w.heap.size,0,none⟩:Addr).add j)=some v:=by
 intro j v hj
 match j,hj with
 | 0,hj=>
   obtain rfl:u=v:=by simpa using hj
   rw[Qhw,(Blk.new w t #[u]).cell];rfl
theorem Qiy{u:Value}(h:u.oneCell'=true):∀ v∈[u],v.oneCell'=true:=by
 intro v hv
 obtain rfl:v=u:=by simpa using hv
 exact h
theorem Qbd(w:World)(e size:TypeId):(w.alloc (.cells #[] e)).ownsRow w.heap.size e size (.slice (some ⟨w.heap.size,0,none⟩) 0 0) 0 []:=
 ⟨by simp,.inr ⟨w.heap.size,0,#[],rfl,Nat.le_refl _,heap_alloc_new w _,Nat.le_refl _,Nat.zero_le _,by simp,by simp⟩⟩
theorem Qcq(w:World)(x2 x3:Array Value)(t2 t3:TypeId) :
 Blk ((w.alloc (.cells x2 t2)).alloc (.cells x3 t3)) w.heap.size t2 x2/\Blk ((w.alloc (.cells x2 t2)).alloc (.cells x3 t3)) (w.heap.size+1) t3 x3/\Ext w ((w.alloc (.cells x2 t2)).alloc (.cells x3 t3)):=by
 have h3:(w.alloc (.cells x2 t2)).heap.size=w.heap.size+1:=by simp
 refine⟨(Blk.new w t2 x2).alloc _,?_,Ext.new (Ext.new (Below.refl w.heap.size w) _) _⟩
 have:=Blk.new (w.alloc (.cells x2 t2)) t3 x3;rwa [h3] at this
def sone (s:ByteArray):List Value:=[.string s]
theorem Qbw(s:ByteArray):(sone s).length=1:=rfl
def Keep (p:Nat->Prop) (w w':World):Prop:=w.heap.size<=w'.heap.size/\∀ b,p b->b<w.heap.size->w'.heap[b]?=w.heap[b]?
theorem Ext.keep{w w':World}(he:Ext w w')(p:Nat->Prop):Keep p w w':=⟨he.size,fun b _ h=>he.block b h⟩
theorem Qj8(g:Nat):∀(vs:List Value) (o:Nat) (w:World),(w.setCells g o vs).heap.size=w.heap.size
 | [],_,_=>rfl
 | v :: vs,o,w=>by rw[World.setCells,Qj8 g vs];simp[World.setCell]
theorem Qkr{g b:Nat}(hb:b≠g):∀(vs:List Value) (o:Nat) (w:World),(w.setCells g o vs).heap[b]?=w.heap[b]?
 | [],_,_=>rfl
 | v :: vs,o,w=>by rw[World.setCells,Qkr hb vs];exact Below.heap_setCell _ ⟨g,o,none⟩ _ _ hb
def AnyB:Nat->Prop:=fun _=>True
def FromB (B:Nat):Nat->Prop:=fun b=>B<=b
structure SlF {α:Type} (p:Nat->Prop) (f:α->List Value) (size:Nat) (w:World) (A:Option Addr) (l:List α) (c:Nat):Prop where
 le:l.length<=c
 cap:c<=maxLen
 reads:Qav w w.heap.size f size A l
 low:0<l.length->∀ a,A=some a->p a.block
section
variable {α : Type} {p q : Nat → Prop} {f : α → List Value} {size : Nat} {w w' : World} {A : Option Addr} {l : List α} {c : Nat}
theorem SlF.keep(h:SlF p f size w A l c)(he:Keep p w w'):SlF p f size w' A l c:=by
 obtain⟨h1,h2,h3,h4⟩:=h
 refine⟨h1,h2,⟨h3.1,fun hn=>?_⟩,h4⟩
 obtain⟨b,off,e,hb,hc⟩:=h3.2 hn
 exact⟨b,off,e,Nat.lt_of_lt_of_le hb he.1,fun j u hu=>(World.cell?_of_block (w:=w) (he.2 b (h4 hn _ e) hb)).trans (hc j u hu)⟩
theorem SlF.ext(h:SlF p f size w A l c)(he:Ext w w'):SlF p f size w' A l c:=h.keep (he.keep p)
theorem SlF.drew(h:SlF p f size w A l c):SlF p f size w.drew A l c:=⟨h.le,h.cap,h.reads,h.low⟩
theorem SlF.len(h:SlF p f size w A l c):l.length<=maxLen:=Nat.le_trans h.le h.cap
theorem SlF.mono(h:SlF p f size w A l c)(hp:∀ b,p b->q b):SlF q f size w A l c:=⟨h.le,h.cap,h.reads,fun h0 a e=>hp _ (h.low h0 a e)⟩
theorem SlF.any(h:SlF p f size w A l c):SlF AnyB f size w A l c:=h.mono fun _ _=>trivial
theorem SlF.nil(p:Nat->Prop)(f:α->List Value)(size:Nat)(w:World):SlF p f size w none [] 0:=⟨Nat.le_refl _,Nat.zero_le _,Qbb.nil_,fun h=>absurd h (Nat.lt_irrefl 0)⟩
end
abbrev Rep (α:Type):=(Nat->Prop)->World->List Value->α->Prop
section
variable {α : Type} {p q : Nat → Prop} {R : Rep α} {size : Nat} {w w' : World} {A : Option Addr} {l : List α} {c : Nat}
end
section
variable {α : Type} {R : Rep α} {size : Nat} {t : TypeId} {l : List α} {g : Nat} {Z : Array Value} {k : Nat} {wr w1 : World}
end
theorem Blk.range{w:World}{g t:Nat}{cs:List Value}(h:Blk w g t cs.toArray):w.rangeAt g 0 cs:=fun j v hv=>by rw[Nat.zero_add,h.cell];simpa using hv
def OwnF {α:Type} (f:α->List Value) (size:Nat) (t:TypeId) (W w:World) (v:Value) (l:List α):Prop:=w.ownsRow W.heap.size t size v l.length (l.flatMap f)
theorem Qlq:(Tryz.prog.info? 40).map (fun i=>(i.zero,i.size,i.bytes))=some (some (.agg #[.string ⟨#[]⟩,.int .i64 0,.int .i64 0,.string ⟨#[]⟩,.string ⟨#[]⟩]),5,64):=by kernel_rfl
def SrcL (w:World) (x:Value) (m size:Nat) (news:List Value):Prop:=
 ((∃ c,x=.slice none 0 c)/\m=0/\news=[])\/∃ ad c,x=.slice (some ad) m c/\news.length=m*size/\∀ j u,news[j]?=some u->w.cell? (ad.add j)=some u
theorem srcL_own{w:World}{B e size n:Nat}{v:Value}{xs:List Value}(h:w.ownsRow B e size v n xs):SrcL w v n size xs:=by
 have h0:=h
 rcases h.2 with⟨h1,h2⟩|⟨g,cap,cur,hv,hg,hh,hnc,hm,hs,ht⟩
 · refine .inl ⟨⟨0,h1⟩,h2,?_⟩
   have:=h.1
   rw[h2,Nat.zero_mul] at this
   exact List.eq_nil_of_length_eq_zero this
 · have hr:Qbb w w.heap.size size (some ⟨g,0,none⟩) n xs:=Qbb.of_own (c:=cap) (by rw[<-hv];exact h0)
   refine .inr ⟨_,_,hv,h.1,fun j u hu=>?_⟩
   rw[Qhw]
   have hn:0<n:=by
    rcases Nat.eq_zero_or_pos n with h2|h2
    · have h3:=h.1
      rw[h2,Nat.zero_mul] at h3
      rw[List.eq_nil_of_length_eq_zero h3] at hu;simp at hu
    · exact h2
   obtain⟨b,off,e,_,hc⟩:=hr.2 hn
   cases e
   exact hc j u hu
theorem Qwn{w w':World}{x:Value}{m size:Nat}{news:List Value}(h:SrcL w x m size news)(hk:∀ p:Addr,∀ u,w.cell? p=some u->w'.cell? p=some u):SrcL w' x m size news:=by
 rcases h with h|⟨ad,c,h1,h2,h3⟩
 · exact .inl h
 · exact .inr ⟨ad,c,h1,h2,fun j u hu=>hk _ _ (h3 j u hu)⟩
theorem Qh3{P:Program}{w:World}(base:Nat)(t ty e:TypeId)(i:TypeInfo)(size c:Nat)(ht:P.underlying t=some (.slice e))(hi:P.info? e=some i)
 (v:Value) (n:Nat) (xs:List Value) (hown:w.ownsRow base e size v n xs) :
 (Builtin.append_ #[t,t] ty #[v,.slice none 0 c]).run P w=.ok v w:=by
 rcases hown.2 with⟨rfl,rfl⟩|⟨g,cap,cur,rfl,_,_,hnc,_⟩
 · simp[Builtin.append_,run_underlying ht,sizeOf,typeInfo,hi,Builtin.lenOf,Builtin.firstCells]
 · simp[Builtin.append_,run_underlying ht,sizeOf,typeInfo,hi,Builtin.lenOf,Builtin.firstCells,hnc,storeCells]
theorem Qme{P:Program}(w:World)(B K:Nat)(t ty e:TypeId)(i:TypeInfo)(z:Value)(size bytes:Nat)(ht:P.underlying t=some (.slice e))(hi:P.info? e=some i)(hz:i.zero=some z)
 (hsize:i.size=size) (hby:i.bytes=bytes) (hzs:z.cells.size=size) (hsz:0<size)
 (hK:Blk w K e #[]) (hB:B<=K) (xv:Value) (m:Nat) (news:List Value) (hsrc:SrcL w xv m size news) (h1:∀ u∈news,u.oneCell'=true)
 (h63:m<=maxLen) (hbytes:m*bytes<=140737488355328) :
 ∃ v' w',(Builtin.append_ #[t,t] ty #[.slice (some ⟨K,0,none⟩) 0 0,xv]).run P w=.ok v' w'/\w'.ownsRow B e size v' m news/\Ext w w':=by
 subst hsize
 subst hby
 have hsmall:m<=9223372036854775807:=by simp only[maxLen] at h63;omega
 have hown:∀ w2:World,Blk w2 K e #[]->w2.ownsRow B e i.size (.slice (some ⟨K,0,none⟩) 0 0) 0 []:=fun w2 h2=>⟨by simp,.inr ⟨K,0,#[],rfl,hB,h2,Nat.le_refl _,Nat.zero_le _,by simp,by simp⟩⟩
 rcases hsrc with⟨⟨c,rfl⟩,rfl,rfl⟩|⟨ad,c,rfl,hl,hn⟩
 · exact⟨_,_,Qh3 B t ty e i i.size c ht hi _ 0 [] (hown w hK),hown w hK,Below.refl _ _⟩
 · rcases Nat.eq_zero_or_pos m with h0|h0
   · subst h0
     have hnl:news=[]:=List.eq_nil_of_length_eq_zero (by simpa using hl)
     subst hnl
     have hr:=run_append_room (P:=P) w t ty e i ht hi K 0 0 #[] hK ad 0 c [] hl hn h1 (Nat.le_refl _) (by simp)
     have hb:Blk (w.setRow K #[]) K e #[]:=setRow_heap w K #[] #[] e (0,0) hK
     refine⟨_,_,hr,by simpa using hown _ hb,⟨rfl,rfl,rfl,by simp[World.setRow],fun k hk=>?_⟩⟩
     by_cases hkK:k=K
     · subst hkK
       have h5:(w.setRow k #[]).heap[k]?=w.heap[k]?:=Eq.trans hb (Eq.symm hK)
       simpa using h5
     · exact setRow_other w K k _ hkK
   · have hr:=run_append_grow (P:=P) w t ty e i z ht hi hz ⟨K,0,none⟩ 0 0 [] (by simp) (by simp) ad m c news hl hn (by omega) (by omega) (growslice_fits (by omega) (by simpa using hbytes))
     have hge:=grownCap_ge w (0+m) 0 e
     have hcm:grownCap w (0+m) 0 e<=maxLen:=grownCap_le_maxLen w (0+m) 0 e (by omega)
     refine⟨_,_,hr,⟨hl,.inr ⟨w.heap.size,_,_,by rw[Nat.zero_add],Nat.le_trans hB (Nat.le_of_lt hK.lt),heap_alloc_new w.drew _,by omega,hcm,?_,?_⟩⟩,Ext.new (W:=w) (w1:=w.drew) ⟨rfl,rfl,rfl,Nat.le_refl _,fun _ _=>rfl⟩ _⟩
     · simp only[Array.size_append,List.size_toArray,size_zeroCells,hzs,hl,List.length_nil,Nat.zero_add,<-Nat.add_mul]
       rw[Nat.zero_add] at hge
       congr 1
       exact Nat.add_sub_cancel' hge
     · simp only[Array.toList_append,List.append_assoc,List.nil_append]
       rw[<-hl]
       exact List.take_left
theorem Qdh{P:Program}{w:World}{o:Oper}{a:Act}{K':Act->World->Prop}{Q:Exit->Act->World->Prop}(d:Option Tmp)(s x:Operand)(t:TypeId)
 (hd:o.dst=d) (ho:o.op=.call { callee:=.builtin .append,args:=#[s,x],argTypes:=#[t,t] })
 (B K:Nat) (e:TypeId) (i:TypeInfo) (z:Value) (size bytes:Nat) (ht:P.underlying t=some (.slice e)) (hi:P.info? e=some i) (hz:i.zero=some z)
 (hsize:i.size=size) (hby:i.bytes=bytes) (hzs:z.cells.size=size) (hsz:0<size)
 (hs:a.eval s=.slice (some ⟨K,0,none⟩) 0 0) (hK:Blk w K e #[]) (hB:B<=K)
 (xv:Value) (m:Nat) (news:List Value) (hx:a.eval x=xv) (hsrc:SrcL w xv m size news) (h1:∀ u∈news,u.oneCell'=true)
 (h63:m<=maxLen) (hbytes:m*bytes<=140737488355328)
 (h:∀ v' w',w'.ownsRow B e size v' m news->Ext w w'->K' (a.put d v') w'):o.wp P a w K' Q:=by
 subst hd
 obtain⟨v',w',hr,h2,h3⟩:=Qme (P:=P) w B K t o.type e i z size bytes ht hi hz hsize hby hzs hsz hK hB xv m news hsrc h1 h63 hbytes
 unfold Oper.wp execOp
 simp only[ho,resolve,invoke,builtin,Sem.run_bind,Sem.run_pure,Result.andThen_ok,List.map_toArray,List.map_cons,List.map_nil,hs,hx,hr]
 exact h v' w' h2 h3
theorem Qbv{P:Program}{w:World}{ops:Array Oper}{rest:List Oper}{o:Oper}{a:Act}{Q:Exit->Act->World->Prop}(hgd:o.guard=none)(s x:Operand)(t:TypeId)
 (ho:o.op=.call { callee:=.builtin .append,args:=#[s,x],argTypes:=#[t,t] })
 (B K:Nat) (e:TypeId) (i:TypeInfo) (z:Value) (size bytes:Nat) (ht:P.underlying t=some (.slice e)) (hi:P.info? e=some i) (hz:i.zero=some z)
 (hsize:i.size=size) (hby:i.bytes=bytes) (hzs:z.cells.size=size) (hsz:0<size)
 (hs:a.eval s=.slice (some ⟨K,0,none⟩) 0 0) (hK:Blk w K e #[]) (hB:B<=K)
 (xv:Value) (m:Nat) (news:List Value) (hx:a.eval x=xv) (hsrc:SrcL w xv m size news) (h1:∀ u∈news,u.oneCell'=true)
 (h63:m<=maxLen) (hbytes:m*bytes<=140737488355328)
 (h:∀ v' w',w'.ownsRow B e size v' m news->Ext w w'->wpList P ops Q rest (a.put o.dst v') w'):wpList P ops Q (o :: rest) a w:=
 wpList_plain hgd fun _ hK'=>Qdh _ s x t rfl ho B K e i z size bytes ht hi hz hsize hby hzs hsz hs hK hB xv m news hx hsrc h1 h63 hbytes fun v' w' h2 h3=>hK' _ _ (h v' w' h2 h3)
theorem Qpx{P:Program}{w:World}{o:Oper}{a:Act}{K':Act->World->Prop}{Q:Exit->Act->World->Prop}(d:Option Tmp)(s x:Operand)(t:TypeId)
 (hd:o.dst=d) (ho:o.op=.call { callee:=.builtin .append,args:=#[s,x],argTypes:=#[t,t] })
 (base:Nat) (e:TypeId) (i:TypeInfo) (z:Value) (size bytes:Nat) (ht:P.underlying t=some (.slice e)) (hi:P.info? e=some i) (hz:i.zero=some z)
 (hsize:i.size=size) (hby:i.bytes=bytes) (hzs:z.cells.size=size) (hsz:0<size)
 (v:Value) (n:Nat) (xs:List Value) (hs:a.eval s=v) (hown:w.ownsRow base e size v n xs)
 (xv:Value) (m:Nat) (news:List Value) (hx:a.eval x=xv) (hsrc:SrcL w xv m size news) (h1:∀ u∈news,u.oneCell'=true)
 (h63:n+m<=maxLen) (hbytes:(n+m)*bytes<=140737488355328) (hbase:base<=w.heap.size)
 (h:∀ v' w',w'.ownsRow base e size v' (n+m) (xs++news)->w.grownBy w' v.ownBlock->K' (a.put d v') w'):o.wp P a w K' Q:=by
 subst hd
 rcases hsrc with⟨⟨c,rfl⟩,rfl,rfl⟩|⟨ad,c,rfl,hl,hn⟩
 · have hr:=Qh3 (P:=P) (w:=w) base t o.type e i size c ht hi v n xs hown
   unfold Oper.wp execOp
   simp only[ho,resolve,invoke,builtin,Sem.run_bind,Sem.run_pure,Result.andThen_ok,List.map_toArray,List.map_cons,List.map_nil,hs,hx,hr]
   refine h v w ?_ (World.grownBy.refl _ _)
   rw[List.append_nil];exact hown
 · exact wp_append_own w s x t ho base e i z size bytes ht hi hz hsize hby hzs hsz v n xs hs hown ad m c news hx hl hn h1 h63 hbytes hbase (fun v' w' a b _=>h v' w' a b)
theorem Qaz.lower{g B:Nat}{w w':World}(h:World.grownBy w w' (some g))(hB:B<=g)(hw:B<=w.heap.size):Below B w w':=⟨h.os,h.tape,h.output,h.size,fun b hb=>h.block b (by omega) (by simp;omega)⟩
def Qft (t:TypeId) (n g:Nat) (w w':World):Prop:=World.grownBy w w' (some g)/\∃ cs:Array Value,cs.size=n/\Blk w' g t cs
section
variable {t n g : Nat} {w w1 w2 : World}
theorem Qft.start{cs:Array Value}(h:Blk w g t cs)(hn:cs.size=n):Qft t n g w w.drew:=⟨⟨rfl,rfl,rfl,Nat.le_refl _,fun _ _ _=>rfl⟩,cs,hn,h⟩
theorem Qft.ext(h:Qft t n g w w1)(he:Ext w1 w2):Qft t n g w w2:=by
 obtain⟨h1,cs,h2,h3⟩:=h
 exact⟨⟨he.os.trans h1.os,he.tape.trans h1.tape,he.output.trans h1.output,Nat.le_trans h1.size he.size,fun k hk hne=>(he.block k (Nat.lt_of_lt_of_le hk h1.size)).trans (h1.block k hk hne)⟩,cs,h2,h3.ext he⟩
theorem Qft.grown{B e size m:Nat}{v:Value}{xs:List Value}(h:Qft t n g w w1)(hg:g<B)(hB:w.heap.size<=B)(hown:w1.ownsRow B e size v m xs)(hgr:w1.grownBy w2 v.ownBlock):Qft t n g w w2:=by
 obtain⟨h1,cs,h2,h3⟩:=h
 exact⟨⟨hgr.os.trans h1.os,hgr.tape.trans h1.tape,hgr.output.trans h1.output,Nat.le_trans h1.size hgr.size,fun k hk hne=>(hgr.block k (Nat.lt_of_lt_of_le hk h1.size) (fun x=>by have:=(hown.lt k x.symm).1;omega)).trans (h1.block k hk hne)⟩,cs,h2,(hgr.block g h3.lt (fun x=>by have:=(hown.lt g x.symm).1;omega)).trans h3⟩
theorem Qft.put(h:Qft t n g w w1)(vs:List Value)(hv:vs.length=n):Qft t n g w (w1.setCells g 0 vs)/\Blk (w1.setCells g 0 vs) g t vs.toArray:=by
 obtain⟨h1,cs,h2,h3⟩:=h
 have k:=h3.put 0 vs vs.toArray (by omega) (by rw[hv,List.take_zero,List.nil_append,List.drop_eq_nil_of_le (by rw[Array.length_toList];omega),List.append_nil])
 have hk:∀(vs:List Value) (o:Nat) (w1:World),World.grownBy w w1 (some g)->World.grownBy w (w1.setCells g o vs) (some g):=by
  intro vs
  induction vs with
  | nil=>intro o w1 h;exact h
  | cons v vs ih=>intro o w1 h;exact ih (o+1) _ ⟨h.os,h.tape,h.output,by simpa [World.setCell] using h.size,fun k hk hne=>(Below.heap_setCell w1 ⟨g,o,none⟩ v k (fun e=>hne (by rw[e]))).trans (h.block k hk hne)⟩
 exact⟨⟨hk vs 0 w1 h1,vs.toArray,by simp[hv],k⟩,k⟩
theorem Qft.there(h:Qft t n g w w1):w1.there g 0 n:=by
 obtain⟨h1,cs,h2,h3⟩:=h
 exact h3.there 0 n (by omega)
end
theorem Qc4(g:Nat):∀(vs:List Value) (o:Nat) (w w1:World),World.grownBy w w1 (some g)->World.grownBy w (w1.setCells g o vs) (some g)
 | [],_,_,_,h=>h
 | v :: vs,o,w,w1,h=>Qc4 g vs (o+1) w _ ⟨h.os,h.tape,h.output,by simpa [World.setCell] using h.size,fun k hk hne=>(Below.heap_setCell w1 ⟨g,o,none⟩ v k (fun e=>hne (by rw[e]))).trans (h.block k hk hne)⟩
theorem Qjs{w w':World}{K g e size n:Nat}{v:Value}{xs:List Value}(h:w.ownsRow K e size v n xs)(k:World.grownBy w w' (some g))(hg:g<K):w'.ownsRow K e size v n xs:=by
 refine⟨h.1,?_⟩
 rcases h.2 with h1|⟨b,cap,cur,hv,hb,hh,hrest⟩
 · exact .inl h1
 · exact .inr ⟨b,cap,cur,hv,hb,(k.block b (Blk.lt (t:=e) (cs:=cur) hh) (by simp;omega)).trans hh,hrest⟩
theorem Qlj{α:Type}{f:α->List Value}{size B:Nat}{t:TypeId}{w:World}{v:Value}{l:List α}(h:w.ownsRow B t size v l.length (l.flatMap f)):∃ A c,v=.slice A l.length c/\SlF (FromB B) f size w A l c:=by
 have hr:=h
 rcases hr.2 with⟨h1,h2⟩|⟨g,cap,cur,hv,hg,hh,hnc,hm,hs,ht⟩
 · refine⟨none,0,by rw[h1,h2],?_⟩
   obtain rfl:l=[]:=List.eq_nil_of_length_eq_zero h2
   exact SlF.nil _ _ _ _
 · refine⟨_,_,hv,⟨hnc,hm,Qbb.of_own (c:=cap) (by rw[<-hv];exact h),fun _ a e=>by cases e;exact hg⟩⟩
theorem Qn0(l:List Qaf):∀ u∈l.flatMap Qaf.cells,u.oneCell'=true:=by
 intro u hu
 obtain⟨d,_,h⟩:=List.mem_flatMap.1 hu
 simp[Qaf.cells] at h
 rcases h with rfl|rfl|rfl|rfl|rfl <;> rfl
theorem Blk.src{w:World}{g:Nat}{t:TypeId}{xs:List Value}(h:Blk w g t xs.toArray)(n size c:Nat)(hl:xs.length=n*size):SrcL w (.slice (some ⟨g,0,none⟩) n c) n size xs:=
 .inr ⟨_,c,rfl,hl,fun j u hu=>by rw[Qhw,h.cell];simpa using hu⟩
theorem Qbb.src{w:World}{B size n c:Nat}{A:Option Addr}{xs:List Value}(h:Qbb w B size A n xs):SrcL w (.slice A n c) n size xs:=by
 rcases Nat.eq_zero_or_pos n with h0|h0
 · subst h0
   have hx:xs=[]:=List.eq_nil_of_length_eq_zero (by simpa using h.1)
   subst hx
   cases A with
   | none=>exact .inl ⟨⟨c,rfl⟩,rfl,rfl⟩
   | some ad=>exact .inr ⟨ad,c,rfl,by simp,by simp⟩
 · obtain⟨b,off,rfl,hb,hc⟩:=h.2 h0
   exact .inr ⟨_,c,rfl,h.1,fun j u hu=>by rw[Qhw];exact hc j u hu⟩
structure Frm (X:Nat->Prop) (w w':World):Prop where
 os:w'.os=w.os
 tape:w'.tape=w.tape
 output:w'.output=w.output
 size:w.heap.size<=w'.heap.size
 block:∀ k,k<w.heap.size->¬ X k->w'.heap[k]?=w.heap[k]?
section
variable {X Y : Nat → Prop} {w w1 w2 w' W : World}
theorem Frm.refl(X:Nat->Prop)(w:World):Frm X w w:=⟨rfl,rfl,rfl,Nat.le_refl _,fun _ _ _=>rfl⟩
theorem Frm.of_ext(h:Ext w w'):Frm X w w':=⟨h.os,h.tape,h.output,h.size,fun k hk _=>h.block k hk⟩
theorem Frm.of_grown{row:Option Nat}(h:World.grownBy w w' row)(hX:∀ b,row=some b->X b):Frm X w w':=⟨h.os,h.tape,h.output,h.size,fun k hk hn=>h.block k hk (fun e=>hn (hX k e.symm))⟩
theorem Frm.next(h:Frm X w w1)(k:Frm Y w1 w2)(hY:∀ b,b<w.heap.size->Y b->X b):Frm X w w2:=
 ⟨k.os.trans h.os,k.tape.trans h.tape,k.output.trans h.output,Nat.le_trans h.size k.size,fun b hb hn=>(k.block b (Nat.lt_of_lt_of_le hb h.size) (fun hy=>hn (hY b hb hy))).trans (h.block b hb hn)⟩
theorem Frm.ext(h:Frm X w w1)(k:Ext w1 w2):Frm X w w2:=h.next (Frm.of_ext (X:=fun _=>False) k) (fun _ _ h=>h.elim)
theorem Frm.mono(h:Frm X w w')(hX:∀ b,b<w.heap.size->X b->Y b):Frm Y w w':=⟨h.os,h.tape,h.output,h.size,fun k hk hn=>h.block k hk (fun hx=>hn (hX k hk hx))⟩
theorem Frm.blk{g:Nat}{t:TypeId}{cs:Array Value}(h:Frm X w w')(hb:Blk w g t cs)(hg:¬ X g):Blk w' g t cs:=(h.block g hb.lt hg).trans hb
theorem Frm.own{B e size n:Nat}{v:Value}{xs:List Value}(h:Frm X w w')(ho:w.ownsRow B e size v n xs)(hv:∀ b,v.ownBlock=some b->¬ X b):w'.ownsRow B e size v n xs:=by
 refine⟨ho.1,?_⟩
 rcases ho.2 with h1|⟨g,cap,cur,hv2,hg,hh,hrest⟩
 · exact .inl h1
 · exact .inr ⟨g,cap,cur,hv2,hg,(h.block g (Blk.lt (t:=e) (cs:=cur) hh) (hv g (by rw[hv2];rfl))).trans hh,hrest⟩
theorem Frm.keep{p:Nat->Prop}(h:Frm X w w')(hp:∀ b,b<w.heap.size->p b->¬ X b):Keep p w w':=⟨h.size,fun b hb hl=>h.block b hl (hp b hl hb)⟩
theorem Frm.toExt(he:Ext W w)(h:Frm X w w')(hX:∀ b,b<W.heap.size->¬ X b):Ext W w':=
 ⟨h.os.trans he.os,h.tape.trans he.tape,h.output.trans he.output,Nat.le_trans he.size h.size,fun b hb=>(h.block b (Nat.lt_of_lt_of_le hb he.size) (hX b hb)).trans (he.block b hb)⟩
theorem Frm.drew(h:Frm X w w'):Frm X w w'.drew:=⟨h.os,h.tape,h.output,h.size,h.block⟩
theorem Frm.setCells(h:Frm X w w1){g:Nat}(hg:g<w.heap.size->X g):∀(vs:List Value) (o:Nat),Frm X w (w1.setCells g o vs):=by
 intro vs o
 refine⟨?_,?_,?_,?_,?_⟩
 · rw[<-h.os];exact(Qc4 g vs o w1 w1 ⟨rfl,rfl,rfl,Nat.le_refl _,fun _ _ _=>rfl⟩).os
 · rw[<-h.tape];exact(Qc4 g vs o w1 w1 ⟨rfl,rfl,rfl,Nat.le_refl _,fun _ _ _=>rfl⟩).tape
 · rw[<-h.output];exact(Qc4 g vs o w1 w1 ⟨rfl,rfl,rfl,Nat.le_refl _,fun _ _ _=>rfl⟩).output
 · rw[Qj8];exact h.size
 · intro k hk hn
   have hne:k≠g:=fun e=>hn (by subst e;exact hg hk)
   rw[Qkr hne]
   exact h.block k hk hn
end
def Qhs (v v':Value) (N:Nat):Prop:=∀ b,v'.ownBlock=some b->v.ownBlock=some b\/N<=b
theorem Qhs.refl(v:Value)(N:Nat):Qhs v v N:=fun _ h=>.inl h
theorem Qhs.trans{a b c:Value}{N M:Nat}(h:Qhs a b N)(k:Qhs b c M)(hNM:N<=M):Qhs a c N:=fun x hx=>by
 rcases k x hx with h1|h1
 · exact h x h1
 · exact .inr (Nat.le_trans hNM h1)
theorem Ql1{w:World}{B e size n c m:Nat}{A:Option Addr}{xs:List Value}(h:w.ownsRow B e size (.slice A n c) n xs)(hm:m<=n):w.ownsRow B e size (.slice A m c) m (xs.take (m*size)):=by
 have h1:m*size<=n*size:=Nat.mul_le_mul_right _ hm
 refine⟨by rw[List.length_take,h.1,Nat.min_eq_left h1],?_⟩
 rcases h.2 with⟨h2,h3⟩|⟨g,cap,cur,hv,hg,hh,hnc,hcm,hs,ht⟩
 · subst h3
   obtain rfl:m=0:=by omega
   exact .inl ⟨h2,rfl⟩
 · obtain⟨rfl,rfl⟩:A=some ⟨g,0,none⟩/\c=cap:=by simpa using hv
   refine .inr ⟨g,c,cur,rfl,hg,hh,by omega,hcm,hs,?_⟩
   rw[<-ht,List.take_take,Nat.min_eq_left h1]
section
variable {P : Program} (w : World)
theorem Qmd(base:Nat)(t ty e:TypeId)(i:TypeInfo)(z:Value)(size bytes:Nat)(ht:P.underlying t=some (.slice e))(hi:P.info? e=some i)(hz:i.zero=some z)
 (hsize:i.size=size) (hby:i.bytes=bytes) (hzs:z.cells.size=size) (hsz:0<size)
 (v:Value) (n:Nat) (xs:List Value) (hown:w.ownsRow base e size v n xs)
 (a:Addr) (m c:Nat) (news:List Value) (hl:news.length=m*size) (hnews:∀ j u,news[j]?=some u->w.cell? (a.add j)=some u) (h1:∀ u∈news,u.oneCell'=true)
 (h63:n+m<=maxLen) (hbytes:(n+m)*bytes<=140737488355328) (hbase:base<=w.heap.size) :
 ∃ v' w',(Builtin.append_ #[t,t] ty #[v,.slice (some a) m c]).run P w=.ok v' w'/\w'.ownsRow base e size v' (n+m) (xs++news)/\w.grownBy w' v.ownBlock/\Qhs v v' w.heap.size:=by
 obtain⟨v',w',hr,h2,h3,_⟩:=run_append_own (P:=P) w base t ty e i z size bytes ht hi hz hsize hby hzs hsz v n xs hown a m c news hl hnews h1 h63 hbytes hbase
 refine⟨v',w',hr,h2,h3,?_⟩
 have hsmall:n+m<=9223372036854775807:=by simp only[maxLen] at h63;omega
 rcases hown.2 with⟨rfl,rfl⟩|⟨g,cap,cur,rfl,hbg,hg,hnc,hcm,hcs,htake⟩
 · have hx:xs=[]:=List.eq_nil_of_length_eq_zero (by simpa using hown.1)
   subst hx
   obtain⟨v2,w2,hr2,k2,_⟩:=run_append_own (P:=P) w w.heap.size t ty e i z size bytes ht hi hz hsize hby hzs hsz _ 0 [] (World.ownsRow_nil w _ e size) a m c news hl hnews h1 h63 hbytes (Nat.le_refl _)
   rw[hr2] at hr
   cases hr
   intro b hb
   exact .inr (k2.lt b hb).1
 · subst hsize
   subst hby
   by_cases hroom:n+m<=cap
   · have hfit:n*i.size+news.length<=cur.size:=by rw[hl,hcs,<-Nat.add_mul];exact Nat.mul_le_mul_right _ hroom
     have hr2:=run_append_room (P:=P) w t ty e i ht hi g n cap cur hg a m c news hl hnews h1 hroom hfit
     rw[hr2] at hr
     cases hr
     intro b hb
     exact .inl hb
   · have holds:∀ j u,xs[j]?=some u->w.cell? ((⟨g,0,none⟩:Addr).add j)=some u:=hown.cells (g:=g) rfl
     have hr2:=run_append_grow (P:=P) w t ty e i z ht hi hz ⟨g,0,none⟩ n cap xs hown.1 holds a m c news hl hnews (by omega) (by omega) (growslice_fits (by omega) hbytes)
     rw[hr2] at hr
     cases hr
     intro b hb
     simp[Value.ownBlock] at hb
     exact .inr (by omega)
theorem Qem{o:Oper}{a:Act}{K:Act->World->Prop}{Q:Exit->Act->World->Prop}(s x:Operand)(t:TypeId)
 (ho:o.op=.call { callee:=.builtin .append,args:=#[s,x],argTypes:=#[t,t] })
 (base:Nat) (e:TypeId) (i:TypeInfo) (z:Value) (size bytes:Nat) (ht:P.underlying t=some (.slice e)) (hi:P.info? e=some i) (hz:i.zero=some z)
 (hsize:i.size=size) (hby:i.bytes=bytes) (hzs:z.cells.size=size) (hsz:0<size)
 (v:Value) (n:Nat) (xs:List Value) (hs:a.eval s=v) (hown:w.ownsRow base e size v n xs)
 (ad:Addr) (m c:Nat) (news:List Value) (hx:a.eval x=.slice (some ad) m c) (hl:news.length=m*size) (hnews:∀ j u,news[j]?=some u->w.cell? (ad.add j)=some u) (h1:∀ u∈news,u.oneCell'=true)
 (h63:n+m<=maxLen) (hbytes:(n+m)*bytes<=140737488355328) (hbase:base<=w.heap.size)
 (h:∀ v' w',w'.ownsRow base e size v' (n+m) (xs++news)->Frm (fun b=>v.ownBlock=some b) w w'->Qhs v v' w.heap.size->K (a.put o.dst v') w'):o.wp P a w K Q:=by
 obtain⟨v',w',hr,h2,h3,h4⟩:=Qmd (P:=P) w base t o.type e i z size bytes ht hi hz hsize hby hzs hsz v n xs hown ad m c news hl hnews h1 h63 hbytes hbase
 unfold Oper.wp execOp
 simp only[ho,resolve,invoke,builtin,Sem.run_bind,Sem.run_pure,Result.andThen_ok,List.map_toArray,List.map_cons,List.map_nil,hs,hx,hr]
 exact h v' w' h2 (Frm.of_grown h3 (fun b hb=>hb)) h4
theorem Qap{ops:Array Oper}{rest:List Oper}{o:Oper}{a:Act}{Q:Exit->Act->World->Prop}(hgd:o.guard=none)(s x:Operand)(t:TypeId)
 (ho:o.op=.call { callee:=.builtin .append,args:=#[s,x],argTypes:=#[t,t] })
 (base:Nat) (e:TypeId) (i:TypeInfo) (z:Value) (size bytes:Nat) (ht:P.underlying t=some (.slice e)) (hi:P.info? e=some i) (hz:i.zero=some z)
 (hsize:i.size=size) (hby:i.bytes=bytes) (hzs:z.cells.size=size) (hsz:0<size)
 (v:Value) (n:Nat) (xs:List Value) (hs:a.eval s=v) (hown:w.ownsRow base e size v n xs)
 (ad:Addr) (m c:Nat) (news:List Value) (hx:a.eval x=.slice (some ad) m c) (hl:news.length=m*size) (hnews:∀ j u,news[j]?=some u->w.cell? (ad.add j)=some u) (h1:∀ u∈news,u.oneCell'=true)
 (h63:n+m<=maxLen) (hbytes:(n+m)*bytes<=140737488355328) (hbase:base<=w.heap.size)
 (h:∀ v' w',w'.ownsRow base e size v' (n+m) (xs++news)->Frm (fun b=>v.ownBlock=some b) w w'->Qhs v v' w.heap.size->wpList P ops Q rest (a.put o.dst v') w'):wpList P ops Q (o :: rest) a w:=
 wpList_plain hgd fun _ hK=>Qem w s x t ho base e i z size bytes ht hi hz hsize hby hzs hsz v n xs hs hown ad m c news hx hl hnews h1 h63 hbytes hbase fun v' w' h2 h3 h4=>hK _ _ (h v' w' h2 h3 h4)
end
theorem Blk.adds{w:World}{g t:Nat}{cs:List Value}(h:Blk w g t cs.toArray):∀ j u,cs[j]?=some u->w.cell? ((⟨g,0,none⟩:Addr).add j)=some u:=by
 intro j u hj
 rw[Qhw,h.cell];simpa using hj

def RowT (B:Nat) (w:World) (v:Value) (ts:List ByteArray):Prop:=w.ownsRow B 9 1 v ts.length (ts.flatMap sone)
theorem RowT.ext{B:Nat}{w w':World}{v:Value}{ts:List ByteArray}(h:RowT B w v ts)(he:Ext w w'):RowT B w' v ts:=Qag h he
theorem RowT.of{B:Nat}{w:World}{v:Value}{n:Nat}{xs:List Value}{ts:List ByteArray}(h:w.ownsRow B 9 1 v n xs)(hn:n=ts.length)(hx:xs=ts.flatMap sone):RowT B w v ts:=by
 subst hn;subst hx;exact h
theorem RowT.nil(B:Nat)(w:World):RowT B w (.slice none 0 0) []:=World.ownsRow_nil w B 9 1
theorem RowT.apart{B g T:Nat}{w:World}{v:Value}{ts:List ByteArray}{cs:Array Value}(h:RowT B w v ts)(hB:Blk w g T cs)(hT:T≠9):∀ b,v.ownBlock=some b->b≠g:=by
 intro b hb e
 subst e
 rcases h.2 with⟨h1,_⟩|⟨g2,cap,cur,hv,hg,hh,_⟩
 · rw[h1] at hb;cases hb
 · rw[hv] at hb
   obtain rfl:g2=b:=by simpa [Value.ownBlock] using hb
   have:=hB.symm.trans hh
   simp at this
   exact hT this.2
theorem RowT.lt{B:Nat}{w:World}{v:Value}{ts:List ByteArray}(h:RowT B w v ts):∀ b,v.ownBlock=some b->B<=b/\b<w.heap.size:=fun b hb=>World.ownsRow.lt h b hb
theorem RowT.setCell{B g T:Nat}{w:World}{v:Value}{ts:List ByteArray}{cs:Array Value}(h:RowT B w v ts)(hB:Blk w g T cs)(hT:T≠9)(o:Nat)(u:Value):RowT B (w.setCell ⟨g,o,none⟩ u) v ts:=by
 have hk:Frm (fun b=>b=g) w (w.setCell ⟨g,o,none⟩ u):=Frm.setCells (X:=fun b=>b=g) (Frm.refl _ w) (g:=g) (fun _=>rfl) [u] o
 exact hk.own h (fun b hb=>h.apart hB hT b hb)
theorem Frm.setCell1{X:Nat->Prop}{w w1:World}(h:Frm X w w1){g:Nat}(hg:g<w.heap.size->X g)(o:Nat)(u:Value):Frm X w (w1.setCell ⟨g,o,none⟩ u):=h.setCells hg [u] o
theorem RowT.cells{B:Nat}{w:World}{v:Value}{ts:List ByteArray}(h:RowT B w v ts):∃ A c,v=.slice A ts.length c/\ts.length<=c/\c<=maxLen/\(0<ts.length->∃ b off,A=some ⟨b,off,none⟩/\b<w.heap.size/\∀(k:Nat) (t:ByteArray),ts[k]?=some t->w.cell? ⟨b,off+k,none⟩=some (.string t)):=by
 have h0:=h
 rcases h0.2 with⟨h1,h2⟩|⟨g,cap,cur,hv,hg,hh,hn,hm,hrest⟩
 · exact⟨none,0,by rw[h1,h2],by omega,Nat.zero_le _,fun h=>absurd h (by omega)⟩
 · refine⟨_,cap,hv,hn,hm,fun hpos=>?_⟩
   have hr:=Qbb.of_own (A:=some ⟨g,0,none⟩) (c:=cap) (by rw[<-hv];exact h)
   obtain⟨b,off,e,hb,hc⟩:=hr.2 hpos
   refine⟨b,off,e,hb,fun k t hk=>?_⟩
   have:=hc (k*1+0) (.string t) (by rw[Qa9 sone 1 Qbw ts k 0 t hk (by omega)];rfl)
   rwa [Nat.mul_one,Nat.add_zero] at this
theorem Qb6{α:Type}{f:α->List Value}{size B:Nat}{t:TypeId}{w:World}{A:Option Addr}{c:Nat}{l:List α}(h:w.ownsRow B t size (.slice A l.length c) l.length (l.flatMap f)):SlF AnyB f size w A l c:=by
 obtain⟨A',c',e,s⟩:=Qlj h
 cases e
 exact s.any
theorem Qas{w:World}{g:Nat}{t:TypeId}{cs:Array Value}(h:Blk w g t cs)(vs:List Value)(hv:cs.size=vs.length):Blk (w.setCells g 0 vs) g t vs.toArray:=
 h.put 0 vs vs.toArray (by omega) (by rw[List.take_zero,List.nil_append,List.drop_eq_nil_of_le (by rw[Array.length_toList];omega),List.append_nil])
end Go.Proofs.YtbnkjgcpjeedfaaGreat
