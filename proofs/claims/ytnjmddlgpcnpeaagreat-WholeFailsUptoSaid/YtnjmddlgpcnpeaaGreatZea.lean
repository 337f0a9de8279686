/- Steps of the proof, joined: V1, V2, V3, V4, V5, V6, VEq. -/
import Derived.WalkKit
import Derived.Lib.Hide
import Derived.IntWalk
import Derived.Laws.Cells
import Derived.Laws.Small
import Derived.Laws.AppendOwn
import Derived.Laws.BytesString
import Derived.Laws.MakeOwn
import Derived.Lib.ConvBytes
import Derived.ChangeKeysEq
namespace Go.Proofs.YtnjmddlgpcnpeaaGreat
open Go
section
open Go Go.RowKit
inductive Tk where
  | no | nil | own (g k:Nat) | nn | full
  deriving DecidableEq
inductive Lf where
  | int (k:IntKind)
  | bool
  | str
inductive V where
  | any
  | und
  | sc (v:Value)
  | agg (cs:List V)
  | tup (cs:List V)
  | sl (own:Tk) (l:List V)
  | ep (cs:List V) (off:Nat)
  | mp (ag:Bool) (lf:List Lf) (es:List (V × V × Nat)) (clock:Nat)
  | it (m:Option Nat) (since:Nat) (seen:List Nat) (last:Nat)
  | si (s:ByteArray) (pos:Nat)
instance:Inhabited V:=⟨.any⟩
def V.cells:V→List V
  | .agg cs=>cs
  | .any | .und | .tup _ | .mp _ _ _ _ | .it _ _ _ _ | .si _ _=>[]
  | v=>[v]
def V.ob:V→Bool
  | .mp _ _ _ _ | .it _ _ _ _ | .si _ _=>true
  | _=>false
def mono (cs:List V):Prop:=match cs with
  | [c]=>c.ob=false
  | _=>True
def fitsV:List Lf→List V→Prop
  | [],[]=>True
  | .int k :: l,.sc (.int k' _) :: m=>k=k'∧fitsV l m
  | .bool :: l,.sc (.bool _) :: m=>fitsV l m
  | .str :: l,.sc (.string _) :: m=>fitsV l m
  | _,_=>False
def kOk (ag:Bool) (lf:List Lf):V→Prop
  | .sc v=>ag=false∧fitsV lf [.sc v]
  | .agg cs=>ag=true∧fitsV lf cs
  | _=>False
structure Gh where
  F:Nat→Nat→Option Value
  O:Nat→Option (TypeId × Nat × Nat)
structure Gh.le (G H:Gh):Prop where
  F:∀ b o v,G.F b o=some v→H.F b o=some v
  O:∀ g x,G.O g=some x→H.O g=some x
theorem Gh.le.refl (G:Gh):G.le G:=⟨fun _ _ _ h=>h,fun _ _ h=>h⟩
theorem Gh.le.trans {A B C:Gh} (h:A.le B) (k:B.le C):A.le C:=⟨fun b o v x=>k.F b o v (h.F b o v x),fun g x y=>k.O g x (h.O g x y)⟩
inductive Rep1 (G:Gh):V→Value→Prop where
  | any (v:Value):Rep1 G .any v
  | und:Rep1 G .und undef
  | sc (v:Value) (h1:v.oneCell'=true):Rep1 G (.sc v) v
  | agg (cs:List V) (vs:Array Value) (hl:vs.size=cs.length) (h1:∀ (i:Nat) (v:Value),vs[i]?=some v→v.oneCell'=true) (h:∀ (i:Nat) (c:V) (v:Value),cs[i]?=some c→vs[i]?=some v→Rep1 G c v):Rep1 G (.agg cs) (.agg vs)
  | tup (cs:List V) (vs:Array Value) (hl:vs.size=cs.length) (h:∀ (i:Nat) (c:V) (v:Value),cs[i]?=some c→vs[i]?=some v→Rep1 G c v):Rep1 G (.tup cs) (.tuple vs)
  | nil (own:Tk) (ho:∀ g k,own ≠ .own g k) (hn:own ≠ .nn:=by simp):Rep1 G (.sl own []) (.slice none 0 0)
  | emp (a:Addr) (cap:Nat) (hm:cap≤maxLen) (own:Tk:=.no) (he:own=.no ∨ own=.nn ∨ own=.full∧cap=0:=by simp):Rep1 G (.sl own []) (.slice (some a) 0 cap)
  | sl (own:Tk) (l:List V) (b o k cap:Nat) (u:Nat→Nat→Value) (hk:∀ (i:Nat) (d:V),l[i]?=some d→d.cells.length=k)
      (hF:∀ i j,i < l.length→j < k→G.F b (o + i * k + j)=some (u i j)) (h1:∀ i j,i < l.length→j < k→(u i j).oneCell'=true)
      (h:∀ (i:Nat) (d:V) (j:Nat) (c:V),l[i]?=some d→d.cells[j]?=some c→Rep1 G c (u i j)) (hcap:l.length≤cap) (hm:cap≤maxLen)
      (ho:own ≠ .nil) (hown:∀ g k',own=.own g k'→b=g∧o=0∧k'=k∧∃ e,G.O g=some (e,k,cap)) (hfull:own=.full→cap=l.length:=by simp):Rep1 G (.sl own l) (.slice (some ⟨b,o,none⟩) l.length cap)
  | ep (cs:List V) (off b o:Nat) (u:Nat→Value) (hF:∀ j,j < cs.length→G.F b (o + j)=some (u j)) (h1:∀ j,j < cs.length→(u j).oneCell'=true)
      (h:∀ (j:Nat) (c:V),cs[j]?=some c→Rep1 G c (u j)):Rep1 G (.ep cs off) (.pointer (some ⟨b,o + off,none⟩))
theorem Rep1.mono {G H:Gh} (hle:G.le H) {d:V} {v:Value} (h:Rep1 G d v):Rep1 H d v:=by
  induction h with
  | any v=>exact .any v
  | und=>exact .und
  | sc v h1=>exact .sc v h1
  | agg cs vs hl h1 _ ih=>exact .agg cs vs hl h1 ih
  | tup cs vs hl _ ih=>exact .tup cs vs hl ih
  | nil own ho hn=>exact .nil own ho hn
  | emp a cap hm own he=>exact .emp a cap hm own he
  | sl own l b o k cap u hk hF h1 _ hcap hm ho hown hfull ih=>exact .sl own l b o k cap u hk (fun i j hi hj=>hle.F _ _ _ (hF i j hi hj)) h1 ih hcap hm ho (fun g k' hg=>let ⟨h1,h2,h3,e,h4⟩:=hown g k' hg; ⟨h1,h2,h3,e,hle.O _ _ h4⟩) hfull
  | ep cs off b o u hF h1 _ ih=>exact .ep cs off b o u (fun j hj=>hle.F _ _ _ (hF j hj)) h1 ih
structure RepM (G:Gh) (ag:Bool) (lf:List Lf) (es:List (V × V × Nat)) (ms:Array MapEntry):Prop where
  len:ms.size=es.length
  rep:∀ (i:Nat) (e:V × V × Nat) (m:MapEntry),es[i]?=some e→ms[i]?=some m→kOk ag lf e.1∧Rep1 G e.1 m.key∧Rep1 G e.2.1 m.val∧m.born=e.2.2
theorem RepM.mono {G H:Gh} (hle:G.le H) {ag:Bool} {lf:List Lf} {es:List (V × V × Nat)} {ms:Array MapEntry} (h:RepM G ag lf es ms):RepM H ag lf es ms :=
  ⟨h.len,fun i e m he hm=>let ⟨h1,h2,h3,h4⟩:=h.rep i e m he hm; ⟨h1,h2.mono hle,h3.mono hle,h4⟩⟩
inductive RepB (G:Gh):Option Obj→List V→Prop where
  | cells (vs:Array Value) (e:TypeId) (cs:List V) (hl:vs.size=cs.length) (h1:∀ (i:Nat) (v:Value),vs[i]?=some v→v.oneCell'=true) (hr:∀ (i:Nat) (c:V) (v:Value),cs[i]?=some c→vs[i]?=some v→Rep1 G c v):RepB G (some (.cells vs e (0,0))) cs
  | map (ag:Bool) (lf:List Lf) (es:List (V × V × Nat)) (clock:Nat) (ms:Array MapEntry) (h:RepM G ag lf es ms):RepB G (some (.map ms clock)) [.mp ag lf es clock]
  | iter (m:Option Nat) (since:Nat) (seen:List Nat) (last:Nat):RepB G (some (.mapIter m since seen.toArray last)) [.it m since seen last]
  | siter (s:ByteArray) (pos:Nat):RepB G (some (.stringIter s pos)) [.si s pos]
theorem RepB.mono {G H:Gh} (hle:G.le H) {o:Option Obj} {cs:List V} (h:RepB G o cs):RepB H o cs:=by
  cases h with
  | cells vs e cs hl h1 hr=>exact .cells vs e cs hl h1 fun i c v hc hv=>(hr i c v hc hv).mono hle
  | map ag lf es clock ms h=>exact .map ag lf es clock ms (h.mono hle)
  | iter m since seen last=>exact .iter m since seen last
  | siter s pos=>exact .siter s pos
theorem RepB.row {G:Gh} {o:Option Obj} {cs:List V} (h:RepB G o cs) (hm:_root_.Go.Proofs.YtnjmddlgpcnpeaaGreat.mono cs) :
    ∃ vs e,o=some (.cells vs e (0,0))∧vs.size=cs.length∧(∀ (i:Nat) (v:Value),vs[i]?=some v→v.oneCell'=true)∧∀ (i:Nat) (c:V) (v:Value),cs[i]?=some c→vs[i]?=some v→Rep1 G c v:=by
  cases h with
  | cells vs e cs hl h1 hr=>exact ⟨vs,e,rfl,hl,h1,hr⟩
  | map ag lf es clock ms h=>cases hm
  | iter m since seen last=>cases hm
  | siter s pos=>cases hm
inductive V.Ok:V→Prop where
  | any:V.Ok .any
  | und:V.Ok .und
  | sc (v:Value):V.Ok (.sc v)
  | agg (cs:List V) (h:∀ (i:Nat) (c:V),cs[i]?=some c→V.Ok c):V.Ok (.agg cs)
  | tup (cs:List V) (h:∀ (i:Nat) (c:V),cs[i]?=some c→V.Ok c):V.Ok (.tup cs)
  | sl (own:Tk) (l:List V) (hm:l.length≤maxLen) (h:∀ (i:Nat) (d:V),l[i]?=some d→∀ (j:Nat) (c:V),d.cells[j]?=some c→V.Ok c):V.Ok (.sl own l)
  | ep (cs:List V) (off:Nat) (h:∀ (i:Nat) (c:V),cs[i]?=some c→V.Ok c):V.Ok (.ep cs off)
  | mp (ag:Bool) (lf:List Lf) (es:List (V × V × Nat)) (clock:Nat) (h1:∀ e ∈ es,V.Ok e.1) (h2:∀ e ∈ es,V.Ok e.2.1):V.Ok (.mp ag lf es clock)
  | it (m:Option Nat) (since:Nat) (seen:List Nat) (last:Nat):V.Ok (.it m since seen last)
  | si (s:ByteArray) (pos:Nat):V.Ok (.si s pos)
theorem Rep1.ok {G:Gh} {d:V} {v:Value} (h:Rep1 G d v):d.Ok:=by
  induction h with
  | any v=>exact .any
  | und=>exact .und
  | sc v _=>exact .sc v
  | agg cs vs hl _ _ ih=>exact .agg cs fun i c hc=>ih i c _ hc (Array.getElem?_eq_getElem (by rw [hl]; exact (List.getElem?_eq_some_iff.1 hc).1))
  | tup cs vs hl _ ih=>exact .tup cs fun i c hc=>ih i c _ hc (Array.getElem?_eq_getElem (by rw [hl]; exact (List.getElem?_eq_some_iff.1 hc).1))
  | nil own _ _=>exact .sl own [] (by simp) (fun i d hd=>by simp at hd)
  | emp a cap hm own he=>exact .sl own [] (by simp) (fun i d hd=>by simp at hd)
  | sl own l b o k cap u hk hF h1 _ hcap hm ho hown hfull ih=>exact .sl own l (Nat.le_trans hcap hm) fun i d hd j c hc=>ih i d j c hd hc
  | ep cs off b o u hF h1 _ ih=>exact .ep cs off fun j c hc=>ih j c hc
theorem RepB.ok {G:Gh} {o:Option Obj} {cs:List V} (h:RepB G o cs):∀ c ∈ cs,c.Ok:=by
  intro c hc
  cases h with
  | cells vs e cs hl h1 hr =>
    obtain ⟨i,hi,rfl⟩:=List.mem_iff_getElem.1 hc
    exact (hr i _ _ (List.getElem?_eq_getElem hi) (Array.getElem?_eq_getElem (by omega))).ok
  | map ag lf es clock ms h =>
    simp only [List.mem_singleton] at hc
    subst hc
    have hall:∀ e ∈ es,e.1.Ok∧e.2.1.Ok:=fun e he=>by
      obtain ⟨i,hi,rfl⟩:=List.mem_iff_getElem.1 he
      have:=h.rep i _ _ (List.getElem?_eq_getElem hi) (Array.getElem?_eq_getElem (by rw [h.len]; exact hi))
      exact ⟨this.2.1.ok,this.2.2.1.ok⟩
    exact .mp ag lf es clock (fun e he=>(hall e he).1) (fun e he=>(hall e he).2)
  | iter m since seen last =>
    simp only [List.mem_singleton] at hc
    subst hc
    exact .it m since seen last
  | siter s pos =>
    simp only [List.mem_singleton] at hc
    subst hc
    exact .si s pos
theorem V.Ok.len {own:Tk} {l:List V} (h:V.Ok (.sl own l)):l.length≤maxLen:=by cases h; assumption
theorem V.Ok.part {cs:List V} (h:V.Ok (.agg cs)) {i:Nat} {c:V} (hc:cs[i]?=some c):c.Ok:=by cases h with | agg _ h=>exact h i c hc
theorem V.Ok.elem {own:Tk} {l:List V} (h:V.Ok (.sl own l)) {i:Nat} {d:V} (hd:l[i]?=some d) (ht:∀ cs,d ≠ .tup cs) (ho:d.ob=true→False:=by simp [V.ob]):d.Ok:=by
  cases h with
  | sl _ _ _ h =>
    have:=h i d hd
    cases d with
    | agg cs=>exact .agg cs fun j c hc=>this j c hc
    | any=>exact .any
    | und=>exact .und
    | sc v=>exact .sc v
    | tup cs=>exact absurd rfl (ht cs)
    | sl o l=>exact this 0 _ rfl
    | ep cs o=>exact this 0 _ rfl
    | mp ag lf es clock=>exact (ho rfl).elim
    | it m since seen last=>exact .it m since seen last
    | si s pos=>exact .si s pos
structure St where
  box:Nat→Option (List V)
  own:Nat→Option Nat
  sz:Nat
def St.put (s:St) (b:Nat) (cs:List V):St:={ s with box:=fun x=>if x=b then some cs else s.box x,sz:=max s.sz (b + 1) }
def St.use (s:St) (g m:Nat):St:={ s with own:=fun x=>if x=g then some m else s.own x,sz:=max s.sz (g + 1) }
def ktab:Nat→Nat→Option Value:=fun _ _=>none
structure Fr where
  w:World
  x:Nat→Option Obj
  t:∀ b j v,ktab b j=some v→w.cell? ⟨b,j,none⟩=some v
def Tabs (w:World):Prop:=∀ b j v,ktab b j=some v→w.cell? ⟨b,j,none⟩=some v
def Fr.of (w:World) (h:Tabs w):Fr:=⟨w,fun _=>none,h⟩
def Fr.free (F:Fr) (b:Nat):Prop:=F.w.heap.size≤b∧F.x b=none
structure RepW (w0:Fr) (G:Gh) (s:St) (w:World):Prop where
  F:∀ b o v,G.F b o=some v→w.cell? ⟨b,o,none⟩=some v
  O:∀ g x,G.O g=some x→g < w.heap.size
  box:∀ b cs,s.box b=some cs→b < s.sz∧w0.free b∧(∀ o,G.F b o=none)∧G.O b=none∧RepB G w.heap[b]? cs
  own:∀ g m,s.own g=some m→g < s.sz∧w0.free g∧∃ e size cap cur,G.O g=some (e,size,cap)∧w.heap[g]?=some (.cells cur e (0,0))∧cur.size=cap * size∧m≤cap∧cap≤maxLen∧∀ o,m * size≤o→G.F g o=none
  sz:s.sz≤w.heap.size
  bel:Below w0.w.heap.size w0.w w
  fr:∀ b o,w0.x b=some o→w.heap[b]?=some o∧(∀ i,G.F b i=none)∧G.O b=none
theorem RepW.tabs {w0:Fr} {G:Gh} {s:St} {w:World} (h:RepW w0 G s w):Tabs w:=fun b j v e=>by
  have:=w0.t b j v e
  rw [h.bel.cell (World.block_lt_of_cell? _ _ this)]
  exact this
theorem RepW.frLt {w0:Fr} {G:Gh} {s:St} {w:World} (h:RepW w0 G s w) {b:Nat} {o:Obj} (hx:w0.x b=some o):b < w.heap.size:=(Array.getElem?_eq_some_iff.1 (h.fr b o hx).1).1
theorem RepW.newFree {w0:Fr} {G:Gh} {s:St} {w:World} (h:RepW w0 G s w):w0.free w.heap.size :=
  ⟨h.bel.size,by
    cases hx:w0.x w.heap.size with
    | none=>rfl
    | some o=>exact absurd (h.frLt hx) (by omega)⟩
theorem RepW.newF {w0:Fr} {G:Gh} {s:St} {w:World} (h:RepW w0 G s w) {b:Nat} (hb:w.heap.size≤b) (o:Nat):G.F b o=none:=by
  cases hf:G.F b o with
  | none=>rfl
  | some v=>exact absurd (World.block_lt_of_cell? _ _ (h.F b o v hf)) (by simpa using hb)
theorem RepW.newO {w0:Fr} {G:Gh} {s:St} {w:World} (h:RepW w0 G s w) {b:Nat} (hb:w.heap.size≤b):G.O b=none:=by
  cases ho:G.O b with
  | none=>rfl
  | some x=>exact absurd (h.O b x ho) (by omega)
structure St.weak (s t:St):Prop where
  box:∀ b cs,s.box b=some cs→t.box b=some cs∧b < s.sz
  own:∀ g m,s.own g=some m→t.own g=some m∧g < s.sz
  sz:s.sz≤t.sz
theorem RepW.weak {w0:Fr} {G:Gh} {s t:St} {w:World} (h:RepW w0 G t w) (hw:s.weak t):RepW w0 G s w :=
  ⟨h.F,h.O,fun b cs hb=>⟨(hw.box b cs hb).2,(h.box b cs (hw.box b cs hb).1).2⟩,fun g m hg=>⟨(hw.own g m hg).2,(h.own g m (hw.own g m hg).1).2⟩,Nat.le_trans hw.sz h.sz,h.bel,h.fr⟩
theorem RepW.alloc {w0:Fr} {G:Gh} {s:St} {w:World} (h:RepW w0 G s w) (o:Obj):RepW w0 G s (w.alloc o) where
  F b off v hf:=by
    have:=h.F b off v hf
    rw [World.cell?_alloc_lt _ _ _ (World.block_lt_of_cell? _ _ this)]; exact this
  O g x hx:=by have:=h.O g x hx; simp; omega
  box b cs hb:=by
    obtain ⟨h1,h2,h3,h4,h5⟩:=h.box b cs hb
    exact ⟨h1,h2,h3,h4,by rw [Go.heap_alloc_old _ _ (by have:=h.sz; omega)]; exact h5⟩
  own g m hg:=by
    obtain ⟨h1,h2,e,size,cap,cur,h3,h4,h5⟩:=h.own g m hg
    exact ⟨h1,h2,e,size,cap,cur,h3,by rw [Go.heap_alloc_old _ _ (by have:=h.sz; omega)]; exact h4,h5⟩
  sz:=by have:=h.sz; simp; omega
  bel:=h.bel.alloc h.bel.size o
  fr b x hx:=⟨by rw [Go.heap_alloc_old _ _ (h.frLt hx)]; exact (h.fr b x hx).1,(h.fr b x hx).2⟩
theorem RepW.drew {w0:Fr} {G:Gh} {s:St} {w:World} (h:RepW w0 G s w):RepW w0 G s w.drew where
  F b off v hf:=by simpa using h.F b off v hf
  O g x hx:=by simpa using h.O g x hx
  box b cs hb:=by simpa [heap_drew] using h.box b cs hb
  own g m hg:=by simpa [heap_drew] using h.own g m hg
  sz:=by simpa using h.sz
  bel:=⟨h.bel.os,h.bel.tape,h.bel.output,h.bel.size,h.bel.block⟩
  fr b x hx:=by simpa [heap_drew] using h.fr b x hx
def Gh.addF (G:Gh) (b:Nat) (cs:Array Value):Gh:={ G with F:=fun b' o=>if b'=b then cs[o]? else G.F b' o }
theorem RepW.le_addF {w0:Fr} {G:Gh} {s:St} {w:World} (h:RepW w0 G s w) (cs:Array Value):G.le (G.addF w.heap.size cs) where
  F b o v hf:=by
    have:=h.newF (Nat.le_refl _) o
    simp only [Gh.addF]
    split
    · rename_i e; subst e; rw [this] at hf; cases hf
    · exact hf
  O g x hx:=hx
theorem RepW.addF {w0:Fr} {G:Gh} {s:St} {w:World} (h:RepW w0 G s w) (cs:Array Value) (t:TypeId):RepW w0 (G.addF w.heap.size cs) s (w.alloc (.cells cs t)):=by
  have ha:=h.alloc (.cells cs t)
  have hle:=h.le_addF cs
  refine ⟨fun b o v hf=>?_,ha.O,fun b cs' hb=>?_,fun g m hg=>?_,ha.sz,ha.bel,fun b x hx=>⟨(ha.fr b x hx).1,fun o=>?_,(h.fr b x hx).2.2⟩⟩
  · simp only [Gh.addF] at hf
    split at hf
    · rename_i e; subst e; rw [World.cell?_alloc_new]; exact hf
    · exact ha.F b o v hf
  · obtain ⟨h1,h2,h3,h4,h5⟩:=ha.box b cs' hb
    refine ⟨h1,h2,fun o=>?_,h4,h5.mono hle⟩
    simp only [Gh.addF]
    rw [if_neg (by have:=h.sz; omega)]
    exact h3 o
  · obtain ⟨h1,h2,e,size,cap,cur,h3,h4,h5,h6,h7,h8⟩:=ha.own g m hg
    refine ⟨h1,h2,e,size,cap,cur,h3,h4,h5,h6,h7,fun o ho=>?_⟩
    simp only [Gh.addF]
    rw [if_neg (by have:=h.sz; omega)]
    exact h8 o ho
  · simp only [Gh.addF]
    rw [if_neg (by have:=h.frLt hx; omega)]
    exact (h.fr b x hx).2.1 o
theorem RepW.newObj {w0:Fr} {G:Gh} {s:St} {w:World} (h:RepW w0 G s w) (o:Obj) (cs:List V) (hr:RepB G (some o) cs):RepW w0 G (s.put w.heap.size cs) (w.alloc o):=by
  have ha:=h.alloc o
  have hs:=h.sz
  refine ⟨ha.F,ha.O,fun b cs' hb=>?_,fun g m hg=>?_,?_,ha.bel,ha.fr⟩
  · simp only [St.put] at hb ⊢
    split at hb
    · rename_i e
      subst e
      injection hb with hb; subst hb
      exact ⟨by omega,h.newFree,fun o=>h.newF (Nat.le_refl _) o,h.newO (Nat.le_refl _),by rw [heap_alloc_new]; exact hr⟩
    · obtain ⟨k1,k2⟩:=ha.box b cs' hb
      exact ⟨by omega,k2⟩
  · obtain ⟨k1,k2⟩:=ha.own g m hg
    exact ⟨by simp only [St.put]; omega,k2⟩
  · simp only [St.put,World.size_alloc]; omega
theorem RepW.newBox {w0:Fr} {G:Gh} {s:St} {w:World} (h:RepW w0 G s w) (vs:Array Value) (t:TypeId) (cs:List V) (hl:vs.size=cs.length) (h1:∀ (i:Nat) (v:Value),vs[i]?=some v→v.oneCell'=true)
    (hr:∀ (i:Nat) (c:V) (v:Value),cs[i]?=some c→vs[i]?=some v→Rep1 G c v):RepW w0 G (s.put w.heap.size cs) (w.alloc (.cells vs t)):=h.newObj _ _ (.cells vs t cs hl h1 hr)
theorem RepW.setObj {w0:Fr} {G:Gh} {s:St} {w:World} (h:RepW w0 G s w) {b:Nat} {cs:List V} (hb:s.box b=some cs) (w':World) (cs':List V)
    (hrest:∀ k,k ≠ b→w'.heap[k]?=w.heap[k]?) (hsz:w'.heap.size=w.heap.size) (hos:w'.os=w.os) (htape:w'.tape=w.tape) (hout:w'.output=w.output) (hr:RepB G w'.heap[b]? cs'):RepW w0 G (s.put b cs') w':=by
  obtain ⟨hlt,hge,hF,hO,_⟩:=h.box b cs hb
  have hs:=h.sz
  refine ⟨fun b' o v hf=>?_,fun g x hx=>by rw [hsz]; exact h.O g x hx,fun b' cs2 hb'=>?_,fun g m hg=>?_,?_,?_,fun c x hx=>⟨by rw [hrest c (fun e=>by subst e; rw [hge.2] at hx; cases hx)]; exact (h.fr c x hx).1,(h.fr c x hx).2⟩⟩
  · have hne:b' ≠ b:=fun e=>by subst e; rw [hF o] at hf; cases hf
    have:=h.F b' o v hf
    rwa [World.cell?_of_block (w:=w) (w':=w') (a:=⟨b',o,none⟩) (hrest b' hne)]
  · simp only [St.put] at hb' ⊢
    split at hb'
    · rename_i e
      subst e
      injection hb' with hb'; subst hb'
      exact ⟨by omega,hge,hF,hO,hr⟩
    · rename_i e
      obtain ⟨k1,k2,k3,k4,k5⟩:=h.box b' cs2 hb'
      exact ⟨by omega,k2,k3,k4,by rw [hrest b' e]; exact k5⟩
  · obtain ⟨k1,k2,e,size,cap,cur,k3,k4,k5⟩:=h.own g m hg
    have hne:g ≠ b:=fun e=>by subst e; rw [hO] at k3; cases k3
    exact ⟨by simp only [St.put]; omega,k2,e,size,cap,cur,k3,by rw [hrest g hne]; exact k4,k5⟩
  · simp only [St.put]; omega
  · refine ⟨hos.trans h.bel.os,htape.trans h.bel.tape,hout.trans h.bel.output,by rw [hsz]; exact h.bel.size,fun i hi=>?_⟩
    rw [hrest i (by have:=hge.1; omega)]
    exact h.bel.block i hi
theorem RepW.setBox {w0:Fr} {G:Gh} {s:St} {w:World} (h:RepW w0 G s w) {b:Nat} {cs:List V} (hb:s.box b=some cs) (w':World) (vs:Array Value) (t:TypeId) (cs':List V) (hw:w'.heap[b]?=some (.cells vs t (0,0)))
    (hrest:∀ k,k ≠ b→w'.heap[k]?=w.heap[k]?) (hsz:w'.heap.size=w.heap.size) (hos:w'.os=w.os) (htape:w'.tape=w.tape) (hout:w'.output=w.output) (hl:vs.size=cs'.length) (h1:∀ (i:Nat) (v:Value),vs[i]?=some v→v.oneCell'=true)
    (hr:∀ (i:Nat) (c:V) (v:Value),cs'[i]?=some c→vs[i]?=some v→Rep1 G c v):RepW w0 G (s.put b cs') w' :=
  h.setObj hb w' cs' hrest hsz hos htape hout (by rw [hw]; exact .cells vs t cs' hl h1 hr)
end
section
open Go Go.RowKit
inductive X where
  | t (n:Nat)
  | c (v:V)
inductive VOp where
  | mv (x:X)
  | pick (c a b:X)
  | bin (op:BinOp) (x y:X)
  | un (op:UnOp) (x:X)
  | binb (neg:Bool) (x y:X)
  | eqs (neg:Bool) (l:List Lf) (x y:X)
  | isnil (neg:Bool) (x:X)
  | pnil (neg:Bool) (x:X)
  | b2s (x:X)
  | s2b (x:X)
  | b2sB (x:X)
  | s2a (n size:Nat) (x:X)
  | slcA (n size:Nat) (x:X) (lo hi:Option X)
  | sidx (x i:X)
  | aidx (len:Nat) (x i:X)
  | conv (k:IntKind) (x:X)
  | fld (off:Nat) (x:X)
  | ix (size:Nat) (x i:X)
  | ixa (n size:Nat) (x i:X)
  | load (n:Option Nat) (x:X)
  | nilck (x:X)
  | ext (x:X) (i:Nat)
  | len (x:X)
  | slen (x:X)
  | mn (x y:X)
  | mx (x y:X)
  | bld (zero:List V) (parts:List (Nat × Nat × X))
  | bsl (size:Nat) (xs:List X)
  | slc (size:Nat) (x:X) (lo hi:Option X)
  | sslc (x:X) (lo hi:Option X)
  | bslo (size:Nat) (xs:List X)
  | box (x:X)
  | alc (zero:List V)
  | alcX (zero:List V)
  | boxX (x:X)
  | mks (size bytes:Nat) (z:List V) (x:X)
  | mko (size bytes:Nat) (z:List V) (x:X)
  | store (n:Nat) (x y:X)
  | app (size bytes:Nat) (x y:X)
  | appx (size bytes:Nat) (z:Option V) (x y:X)
  | call (f:FuncId) (args:List X)
  | mlk (ag:Bool) (lf:List Lf) (z:V) (ok:Bool) (x k:X)
  | mlen (x:X)
  | mnil (neg:Bool) (x:X)
  | inil (neg:Bool) (x:X)
  | binZ (op:BinOp) (x y:X)
  | mkm (ag:Bool) (lf:List Lf)
  | mup (ag:Bool) (lf:List Lf) (x k v:X)
  | mdel (ag:Bool) (lf:List Lf) (x k:X)
  | rng (x:X)
  | nxt (x:X)
  | rngS (x:X)
  | nxtS (x:X)
  | clrm (x:X)
  | ent (x:X)
  | mfn (f:Fn) (first cap:List X)
  | slc3 (size:Nat) (x:X) (lo:Option X) (hi mx:X)
  | ment (ag:Bool) (lf:List Lf) (z:V) (x k:X)
  | est (x s v:X)
  | clr (size:Nat) (z:List V) (x:X)
  | calv (x:X) (args:List X)
  | aidxn (len size:Nat) (x i:X)
  | fv (off:Nat) (size:Option Nat) (x:X)
  | mki (t:TypeId) (x:X)
  | inv (name:String) (x:X) (args:List X)
  | cpy (size:Nat) (x y:X)
def cellV:Value→V
  | .slice none 0 0=>.sl .nil []
  | v=>.sc v
def ofVal:Value→V
  | .agg cs=>.agg (cs.toList.map cellV)
  | .tuple _=>.any
  | v=>cellV v
def constOk:Value→Bool
  | .agg cs=>cs.toList.all Value.oneCell'
  | _=>true
theorem cellV_rep (G:Gh) {v:Value} (h:v.oneCell'=true):Rep1 G (cellV v) v:=by
  unfold cellV
  split
  · exact .nil _ (fun g k e=>by cases e)
  · exact .sc _ h
theorem ofVal_rep (G:Gh) {v:Value} (h:constOk v=true):Rep1 G (ofVal v) v:=by
  cases v with
  | agg cs =>
    refine .agg _ _ (by simp) (fun i v hv=>?_) (fun i c v hc hv=>?_)
    · simp only [constOk,List.all_eq_true,Array.mem_toList_iff] at h
      exact h v (Array.mem_of_getElem? hv)
    · simp only [List.getElem?_map,Array.getElem?_toList] at hc
      rw [hv] at hc
      simp at hc
      subst hc
      simp only [constOk,List.all_eq_true,Array.mem_toList_iff] at h
      exact cellV_rep G (h v (Array.mem_of_getElem? hv))
  | tuple cs=>exact .any _
  | _=>simp only [ofVal]; exact cellV_rep G rfl
def cx:Operand→Option X
  | .tmp t=>some (.t t)
  | .const v=>if constOk v then some (.c (ofVal v)) else none
  | .func f=>some (.c (.sc (.func (.func f) #[] #[])))
  | .global g=>some (.c (.sc (.pointer (some ⟨g,0,none⟩))))
def X.ev (A:Nat→V):X→V
  | .t n=>A n
  | .c v=>v
def X.reads:X→List Nat
  | .t n=>[n]
  | .c _=>[]
def RelOn (l:List Nat) (G:Gh) (A:Nat→V) (a:Act):Prop:=∀ t ∈ l,Rep1 G (A t) (a.tmps.getD t undef)
theorem RelOn.mono {l l':List Nat} {G:Gh} {A:Nat→V} {a:Act} (h:RelOn l G A a) (hl:∀ t ∈ l',t ∈ l):RelOn l' G A a:=fun t ht=>h t (hl t ht)
theorem RelOn.le {l:List Nat} {G H:Gh} {A:Nat→V} {a:Act} (h:RelOn l G A a) (hle:G.le H):RelOn l H A a:=fun t ht=>(h t ht).mono hle
theorem cx_rep {o:Operand} {x:X} (hx:cx o=some x) {l:List Nat} {G:Gh} {A:Nat→V} {a:Act} (h:RelOn l G A a) (hl:∀ t ∈ x.reads,t ∈ l):Rep1 G (x.ev A) (a.eval o):=by
  cases o with
  | tmp t=>simp only [cx,Option.some.injEq] at hx; subst hx; exact h t (hl t (by simp [X.reads]))
  | const v =>
    simp only [cx] at hx
    split at hx
    · rename_i hc; simp only [Option.some.injEq] at hx; subst hx; exact ofVal_rep G hc
    · cases hx
  | func f=>simp only [cx,Option.some.injEq] at hx; subst hx; exact .sc _ rfl
  | global g=>simp only [cx,Option.some.injEq] at hx; subst hx; exact .sc _ rfl
def norm (k:IntKind) (n:Int):Prop × V :=
  match k with
  | .i64=>(-9223372036854775808≤n∧n≤9223372036854775807,.sc (.int .i64 n))
  | .i32=>(-2147483648≤n∧n≤2147483647,.sc (.int .i32 n))
  | .i16=>(-32768≤n∧n≤32767,.sc (.int .i16 n))
  | .i8=>(-128≤n∧n≤127,.sc (.int .i8 n))
  | .u64=>(True,.sc (.int .u64 (n % 18446744073709551616)))
  | .u32=>(True,.sc (.int .u32 (n % 4294967296)))
  | .u16=>(True,.sc (.int .u16 (n % 65536)))
  | .u8=>(True,.sc (.int .u8 (n % 256)))
theorem norm_wrap {k:IntKind} {n:Int} (h:(norm k n).1):(norm k n).2=.sc (.int k (k.wrap n)):=by
  cases k <;> simp only [norm] at h ⊢
  · rw [IntWalk.i8_in n h]
  · rw [IntWalk.i16_in n h]
  · rw [IntWalk.i32_in n h]
  · rw [IntWalk.i64_in n h]
  all_goals simp [IntKind.wrap,IntKind.signed,IntKind.bits]
def ibit (op:BinOp) (k:IntKind) (x y:Int):Int :=
  let a:=BitVec.ofInt k.bits x
  let b:=BitVec.ofInt k.bits y
  match op with
  | .and=>k.wrap (a &&& b).toNat
  | .or=>k.wrap (a ||| b).toNat
  | .xor=>k.wrap (a ^^^ b).toNat
  | _=>k.wrap (a &&& ~~~b).toNat
def shAmt (k:IntKind) (y:Int):Nat:=min y.toNat k.bits
def vbinI (op:BinOp) (k:IntKind) (a:Int) (k':IntKind) (b:Int):Prop × V :=
  match op with
  | .add=>(k=k'∧(norm k (a + b)).1,(norm k (a + b)).2)
  | .sub=>(k=k'∧(norm k (a - b)).1,(norm k (a - b)).2)
  | .mul=>(k=k'∧(norm k (a * b)).1,(norm k (a * b)).2)
  | .quo=>(k=k'∧0≤a∧0 < b∧(norm k (a / b)).1,(norm k (a / b)).2)
  | .rem=>(k=k'∧0≤a∧0 < b,.sc (.int k (a % b)))
  | .and=>(k=k',.sc (.int k (ibit .and k a b)))
  | .or=>(k=k',.sc (.int k (ibit .or k a b)))
  | .xor=>(k=k',.sc (.int k (ibit .xor k a b)))
  | .andNot=>(k=k',.sc (.int k (ibit .andNot k a b)))
  | .shl=>(0≤b∧(norm k (a * 2 ^ shAmt k b)).1,(norm k (a * 2 ^ shAmt k b)).2)
  | .shr=>(0≤b,.sc (.int k (a / 2 ^ shAmt k b)))
  | .eql=>(k=k',.sc (.bool (decide (a=b))))
  | .neq=>(k=k',.sc (.bool (decide (a ≠ b))))
  | .lss=>(k=k',.sc (.bool (decide (a < b))))
  | .leq=>(k=k',.sc (.bool (decide (a≤b))))
  | .gtr=>(k=k',.sc (.bool (decide (b < a))))
  | .geq=>(k=k',.sc (.bool (decide (b≤a))))
def vbinS (op:BinOp) (a b:ByteArray):Prop × V :=
  match op with
  | .add=>(a.size + b.size≤9223372036854775807,.sc (.string (a ++ b)))
  | .eql=>(True,.sc (.bool (decide (a=b))))
  | .neq=>(True,.sc (.bool (decide (a ≠ b))))
  | .lss=>(True,.sc (.bool (Op.bytesLess a.toList b.toList)))
  | .gtr=>(True,.sc (.bool (!(Op.bytesLess a.toList b.toList || decide (a=b)))))
  | .leq=>(True,.sc (.bool (Op.bytesLess a.toList b.toList || decide (a=b))))
  | .geq=>(True,.sc (.bool (!Op.bytesLess a.toList b.toList)))
  | _=>(False,.any)
def vbin (op:BinOp):V→V→Prop × V
  | .sc (.int k a),.sc (.int k' b)=>vbinI op k a k' b
  | .sc (.string a),.sc (.string b)=>vbinS op a b
  | _,_=>(False,.any)
def vbinZ (op:BinOp):V→V→Prop × V
  | .sc (.int k a),.sc (.int k' b)=>match op with
    | .quo=>(k=k'∧0 < b∧(norm k (a.tdiv b)).1,(norm k (a.tdiv b)).2)
    | .rem=>(k=k'∧0 < b,.sc (.int k (a.tmod b)))
    | _=>(False,.any)
  | _,_=>(False,.any)
def vun (op:UnOp):V→Prop × V
  | .sc (.int k a)=>match op with
    | .neg=>norm k (0 - a)
    | .xor=>(True,.sc (.int k (ibit .xor k (if k.signed then -1 else k.max) a)))
    | _=>(False,.any)
  | .sc (.bool b)=>match op with
    | .not=>(True,.sc (.bool (!b)))
    | _=>(False,.any)
  | _=>(False,.any)
theorem string_beq (a b:ByteArray):(a.toList == b.toList)=decide (a=b):=by
  rw [Bool.eq_iff_iff]
  simp only [beq_iff_eq,decide_eq_true_eq]
  rw [Go.ByteArray.toList_eq,Go.ByteArray.toList_eq]
  refine ⟨fun h=>?_,fun h=>by rw [h]⟩
  cases a; cases b
  simp only [ByteArray.mk.injEq]
  exact Array.toList_inj.1 h
def vbinb (neg:Bool):V→V→Prop × V
  | .sc (.bool a),.sc (.bool b)=>(True,.sc (.bool (if neg then !(a == b) else a == b)))
  | _,_=>(False,.any)
def eqV:List V→List V→Bool
  | .sc (.int _ a) :: l,.sc (.int _ b) :: m=>decide (a=b) && eqV l m
  | .sc (.bool a) :: l,.sc (.bool b) :: m=>(a == b) && eqV l m
  | .sc (.string a) :: l,.sc (.string b) :: m=>decide (a=b) && eqV l m
  | [],[]=>true
  | _,_=>false
def veqs (neg:Bool) (l:List Lf):V→V→Prop × V
  | .agg cs,.agg ds=>(fitsV l cs∧fitsV l ds,.sc (.bool (if neg then !(eqV cs ds) else eqV cs ds)))
  | _,_=>(False,.any)
def visnil (neg:Bool):V→Prop × V
  | .sl .nil []=>(True,.sc (.bool (!neg)))
  | .sl (.own _ _) _=>(True,.sc (.bool neg))
  | .sl .no (_ :: _)=>(True,.sc (.bool neg))
  | .sl .nn _=>(True,.sc (.bool neg))
  | .sc (.slice (some _) _ _)=>(True,.sc (.bool neg))
  | _=>(False,.any)
def vpnil (neg:Bool):V→Prop × V
  | .sc (.pointer none)=>(True,.sc (.bool (!neg)))
  | .sc (.pointer (some _))=>(True,.sc (.bool neg))
  | .ep _ _=>(True,.sc (.bool neg))
  | _=>(False,.any)
def u8sOf:List V→Option (List Int)
  | []=>some []
  | .sc (.int .u8 n) :: l=>(u8sOf l).map (n :: ·)
  | _=>none
def strOf (ns:List Int):ByteArray:=ns.foldl (fun r n=>r.push (UInt8.ofNat n.toNat)) ByteArray.empty
def vb2s:V→Prop × V
  | .sl _ l=>match u8sOf l with
    | some ns=>(True,.sc (.string (strOf ns)))
    | none=>(False,.any)
  | _=>(False,.any)
def bytesOf (s:ByteArray):List Int:=s.data.toList.map fun b=>(b.toNat:Int)
def byL (s:ByteArray):List V:=(bytesOf s).map fun n=>.sc (.int .u8 n)
def vs2b:V→Prop × V
  | .sc (.string s)=>(s.size≤maxLen,.sl .no (byL s))
  | _=>(False,.any)
def vsidx:V→V→Prop × V
  | .sc (.string s),.sc (.int _ n)=>match (bytesOf s)[n.toNat]? with
    | some b=>(0≤n,.sc (.int .u8 b))
    | none=>(False,.any)
  | _,_=>(False,.any)
def vaidx (len:Nat):V→V→Prop × V
  | .agg cs,.sc (.int _ n)=>match cs[n.toNat]? with
    | some c=>(0≤n∧n < len,c)
    | none=>(False,.any)
  | _,_=>(False,.any)
def vaidxn (len size:Nat):V→V→Prop × V
  | .agg cs,.sc (.int _ n)=>(0≤n∧n < len∧n.toNat * size + size≤cs.length,.agg ((cs.drop (n.toNat * size)).take size))
  | _,_=>(False,.any)
def vfv (off:Nat):Option Nat→V→Prop × V
  | some size,.agg cs=>(off + size≤cs.length,.agg ((cs.drop off).take size))
  | none,.agg cs=>match cs[off]? with
    | some c=>(True,c)
    | none=>(False,.any)
  | _,_=>(False,.any)
def vmki (t:TypeId):V→Prop × V
  | .sc v=>(True,.sc (.iface t v))
  | _=>(False,.any)
def srcX:Option V→V→Prop × V
  | none,.sc (.string s)=>(True,.sl .no (byL s))
  | some d,.sc (.int _ n)=>(0≤n,.sl .no (List.replicate n.toNat d))
  | _,_=>(False,.any)
def splice (cs:List V) (off:Nat) (ds:List V):List V:=cs.take off ++ ds ++ cs.drop (off + ds.length)
def fillV:List V→List (Nat × Nat × V)→Prop × List V
  | cs,[]=>(True,cs)
  | cs,(off,size,d) :: rest=>((d.cells.length=size∧0 < size∧off + size≤cs.length∧(fillV (splice cs off d.cells) rest).1),(fillV (splice cs off d.cells) rest).2)
def strip1:V→V
  | .sl _ l=>.sl .no l
  | v=>v
def strip:V→V
  | .agg cs=>.agg (cs.map strip1)
  | v=>strip1 v
def takeV (cs:List V) (off:Nat):Option Nat→Prop × V
  | none=>match cs[off]? with
    | some c=>(c.cells.length=1,c)
    | none=>(False,.any)
  | some n=>(off + n≤cs.length,.agg ((cs.drop off).take n))
def takeB (cs:List V) (off:Nat):Option Nat→Prop × V
  | none=>takeV cs off none
  | some n=>((takeV cs off (some n)).1∧mono cs,(takeV cs off (some n)).2)
def vload (st:St) (n:Option Nat):V→Prop × V
  | .ep cs off=>takeV cs off n
  | .sc (.pointer (some ⟨b,o,none⟩))=>match st.box b with
    | some cs=>takeB cs o n
    | none=>(False,.any)
  | _=>(False,.any)
def vix (size:Nat) (x i:V):Prop × V :=
  match x,i with
  | .sl _ l,.sc (.int _ n)=>match l[n.toNat]? with
    | some d=>(0≤n∧d.cells.length=size,.ep d.cells 0)
    | none=>(False,.any)
  | .sc (.slice (some ⟨b,o,none⟩) m _),.sc (.int _ n)=>(0≤n∧n < m,.sc (.pointer (some ⟨b,o + n.toNat * size,none⟩)))
  | _,_=>(False,.any)
def vixa (len size:Nat) (x i:V):Prop × V :=
  match x,i with
  | .sc (.pointer (some ⟨b,o,none⟩)),.sc (.int _ n)=>(0≤n∧n < len,.sc (.pointer (some ⟨b,o + n.toNat * size,none⟩)))
  | .ep cs off,.sc (.int _ n)=>(0≤n∧n < len,.ep cs (off + n.toNat * size))
  | _,_=>(False,.any)
def vfld (off:Nat):V→Prop × V
  | .sc (.pointer (some ⟨b,o,none⟩))=>(True,.sc (.pointer (some ⟨b,o + off,none⟩)))
  | .ep cs o=>(True,.ep cs (o + off))
  | _=>(False,.any)
def vnil:V→Prop × V
  | .sc (.pointer (some a))=>(True,.sc (.pointer (some a)))
  | .ep cs o=>(True,.ep cs o)
  | _=>(False,.any)
def vlen:V→Prop × V
  | .sl _ l=>(True,.sc (.int .i64 l.length))
  | .sc (.slice _ n _)=>(True,.sc (.int .i64 n))
  | _=>(False,.any)
def vslen:V→Prop × V
  | .sc (.string s)=>(True,.sc (.int .i64 s.size))
  | _=>(False,.any)
def vext (i:Nat):V→Prop × V
  | .tup cs=>match cs[i]? with
    | some c=>(True,c)
    | none=>(False,.any)
  | _=>(False,.any)
def vmm (mx:Bool):V→V→Prop × V
  | .sc (.int k a),.sc (.int _ b)=>(True,.sc (.int k (if mx then max a b else min a b)))
  | _,_=>(False,.any)
def vpick (a b:V):V→Prop × V
  | .sc (.bool c)=>(True,if c then a else b)
  | _=>(False,.any)
def vconv (k:IntKind):V→Prop × V
  | .sc (.int _ n)=>norm k n
  | _=>(False,.any)
def allSz (size:Nat) (l:List V):Prop:=∀ d ∈ l,d.cells.length=size
def vslc (size:Nat) (x:V) (lo hi:Option V):Prop × V :=
  match x with
  | .sl _ l=>match lo,hi with
    | none,none=>(allSz size l,.sl .no l)
    | some (.sc (.int _ a)),none=>(allSz size l∧0≤a∧a.toNat≤l.length,.sl .no (l.drop a.toNat))
    | none,some (.sc (.int _ b))=>(allSz size l∧0≤b∧b.toNat≤l.length,.sl .no (l.take b.toNat))
    | some (.sc (.int _ a)),some (.sc (.int _ b))=>(allSz size l∧0≤a∧a≤b∧b.toNat≤l.length,.sl .no ((l.take b.toNat).drop a.toNat))
    | _,_=>(False,.any)
  | .sc (.slice (some ⟨b',o,none⟩) n c)=>match lo,hi with
    | none,none=>(n≤c,.sc (.slice (some ⟨b',o,none⟩) n c))
    | some (.sc (.int _ a)),none=>if a=0 ∨ a < c then (0≤a∧a.toNat≤n∧n≤c,.sc (.slice (some ⟨b',o + a.toNat * size,none⟩) (n - a.toNat) (c - a.toNat))) else (0≤a∧a.toNat≤n∧n≤c,.sl .no [])
    | none,some (.sc (.int _ b))=>(0≤b∧b.toNat≤c,.sc (.slice (some ⟨b',o,none⟩) b.toNat c))
    | some (.sc (.int _ a)),some (.sc (.int _ b))=>(0≤a∧a≤b∧b.toNat≤c∧(a=0 ∨ a < c),.sc (.slice (some ⟨b',o + a.toNat * size,none⟩) (b.toNat - a.toNat) (c - a.toNat)))
    | _,_=>(False,.any)
  | _=>(False,.any)
def vslcA (n size:Nat) (x:V) (lo hi:Option V):Prop × V :=
  match x with
  | .sc (.pointer (some ⟨b,o,none⟩))=>vslc size (.sc (.slice (some ⟨b,o,none⟩) n n)) lo hi
  | _=>(False,.any)
def vs2a (n size:Nat):V→Prop × V
  | .sl _ l=>(allSz size l∧n≤l.length∧0 < l.length,.ep (l.flatMap V.cells) 0)
  | .sc (.slice (some ⟨b,o,none⟩) m _)=>(n≤m,.sc (.pointer (some ⟨b,o,none⟩)))
  | _=>(False,.any)
def vb2sB (st:St):V→Prop × V
  | .sc (.slice (some ⟨b,o,none⟩) n _)=>match st.box b with
    | some cs=>match u8sOf ((cs.drop o).take n) with
      | some ns=>(o + n≤cs.length∧mono cs,.sc (.string (strOf ns)))
      | none=>(False,.any)
    | none=>(False,.any)
  | _=>(False,.any)
def vsslc (x:V) (lo hi:Option V):Prop × V :=
  match x with
  | .sc (.string s)=>match lo,hi with
    | none,none=>(True,.sc (.string (s.extract 0 s.size)))
    | some (.sc (.int _ a)),none=>(0≤a∧a.toNat≤s.size,.sc (.string (s.extract a.toNat s.size)))
    | none,some (.sc (.int _ b))=>(0≤b∧b.toNat≤s.size,.sc (.string (s.extract 0 b.toNat)))
    | some (.sc (.int _ a)),some (.sc (.int _ b))=>(0≤a∧a≤b∧b.toNat≤s.size,.sc (.string (s.extract a.toNat b.toNat)))
    | _,_=>(False,.any)
  | _=>(False,.any)
def allLen (size:Nat):List V→Prop
  | []=>True
  | d :: ds=>d.cells.length=size∧allLen size ds
def mfind (k:V):List (V × V × Nat)→Option V
  | []=>none
  | e :: es=>if eqV k.cells e.1.cells=true then some e.2.1 else mfind k es
def mset (k v:V) (c:Nat):List (V × V × Nat)→List (V × V × Nat)
  | []=>[(k,v,c)]
  | e :: es=>if eqV k.cells e.1.cells=true then (k,v,e.2.2) :: es else e :: mset k v c es
def mclk (es:List (V × V × Nat)) (k:V) (c:Nat):Nat:=if (mfind k es).isSome=true then c else c + 1
def mdel (k:V):List (V × V × Nat)→List (V × V × Nat)
  | []=>[]
  | e :: es=>if eqV k.cells e.1.cells=true then es else e :: mdel k es
def vmlk (bx:Nat→Option (List V)) (ag:Bool) (lf:List Lf) (z:V) (ok:Bool) (x k:V):Prop × V :=
  match x with
  | .sc (.map none)=>(kOk ag lf k,if ok=true then .tup [z,.sc (.bool false)] else z)
  | .sc (.map (some b))=>match bx b with
    | some [.mp ag' lf' es _]=>(ag'=ag∧lf'=lf∧kOk ag lf k,if ok=true then .tup [(mfind k es).getD z,.sc (.bool (mfind k es).isSome)] else (mfind k es).getD z)
    | _=>(False,.any)
  | _=>(False,.any)
def vmlen (bx:Nat→Option (List V)):V→Prop × V
  | .sc (.map none)=>(True,.sc (.int .i64 0))
  | .sc (.map (some b))=>match bx b with
    | some [.mp _ _ es _]=>(True,.sc (.int .i64 es.length))
    | _=>(False,.any)
  | _=>(False,.any)
def vent (bx:Nat→Option (List V)):V→Prop × V
  | .sc (.pointer (some ⟨r,0,none⟩))=>match bx r with
    | some [.it (some m) _ seen last]=>match bx m with
      | some [.mp _ _ es c]=>match es.find? fun e=>some e.2.2 == seen.getLast? with
        | some e=>(c=last,.tup [e.1,e.2.1])
        | none=>(False,.any)
      | _=>(False,.any)
    | _=>(False,.any)
  | _=>(False,.any)
def allSc:List V→Option (List Value)
  | []=>some []
  | .sc v :: l=>(allSc l).map (v :: ·)
  | _=>none
def vmfn (f:Fn) (first cap:List V):Prop × V :=
  match allSc first,allSc cap with
  | some a,some b=>(True,.sc (.func f a.toArray b.toArray))
  | _,_=>(False,.any)
def vslc3 (size:Nat) (x:V) (lo:Option V) (hi mx:V):Prop × V :=
  match x,hi,mx with
  | .sl _ l,.sc (.int _ b),.sc (.int _ m)=>match lo with
    | none=>(allSz size l∧0≤b∧b≤m∧m.toNat≤l.length,.sl (if b=m then .full else .no) (l.take b.toNat))
    | some (.sc (.int _ a))=>(allSz size l∧0≤a∧a≤b∧b≤m∧m.toNat≤l.length,.sl (if b=m then .full else .no) ((l.take b.toNat).drop a.toNat))
    | _=>(False,.any)
  | .sc (.slice (some ⟨b',o,none⟩) _ c),.sc (.int _ b),.sc (.int _ m)=>match lo with
    | none=>(0≤b∧b≤m∧m.toNat≤c,.sc (.slice (some ⟨b',o,none⟩) b.toNat m.toNat))
    | some (.sc (.int _ a))=>(0≤a∧a≤b∧b≤m∧m.toNat≤c∧(a=0 ∨ a < m),.sc (.slice (some ⟨b',o + a.toNat * size,none⟩) (b.toNat - a.toNat) (m.toNat - a.toNat)))
    | _=>(False,.any)
  | _,_,_=>(False,.any)
def vmnil (neg:Bool):V→Prop × V
  | .sc (.map none)=>(True,.sc (.bool (!neg)))
  | .sc (.map (some _))=>(True,.sc (.bool neg))
  | _=>(False,.any)
def vinil (neg:Bool):V→Prop × V
  | .sc .nilIface=>(True,.sc (.bool (!neg)))
  | .sc (.iface _ _)=>(True,.sc (.bool neg))
  | _=>(False,.any)
def pop (st:St) (A:Nat→V):VOp→Prop × V
  | .mv x=>(True,x.ev A)
  | .pick c a b=>vpick (a.ev A) (b.ev A) (c.ev A)
  | .bin op x y=>vbin op (x.ev A) (y.ev A)
  | .un op x=>vun op (x.ev A)
  | .binb neg x y=>vbinb neg (x.ev A) (y.ev A)
  | .eqs neg l x y=>veqs neg l (x.ev A) (y.ev A)
  | .isnil neg x=>visnil neg (x.ev A)
  | .pnil neg x=>vpnil neg (x.ev A)
  | .b2s x=>vb2s (x.ev A)
  | .s2b x=>vs2b (x.ev A)
  | .b2sB x=>vb2sB st (x.ev A)
  | .s2a n size x=>vs2a n size (x.ev A)
  | .slcA n size x lo hi=>vslcA n size (x.ev A) (lo.map fun x=>x.ev A) (hi.map fun x=>x.ev A)
  | .sidx x i=>vsidx (x.ev A) (i.ev A)
  | .aidx len x i=>vaidx len (x.ev A) (i.ev A)
  | .aidxn len size x i=>vaidxn len size (x.ev A) (i.ev A)
  | .mki t x=>vmki t (x.ev A)
  | .fv off size x=>vfv off size (x.ev A)
  | .conv k x=>vconv k (x.ev A)
  | .fld off x=>vfld off (x.ev A)
  | .ix size x i=>vix size (x.ev A) (i.ev A)
  | .ixa n size x i=>vixa n size (x.ev A) (i.ev A)
  | .load n x=>vload st n (x.ev A)
  | .nilck x=>vnil (x.ev A)
  | .ext x i=>vext i (x.ev A)
  | .len x=>vlen (x.ev A)
  | .slen x=>vslen (x.ev A)
  | .mn x y=>vmm false (x.ev A) (y.ev A)
  | .mx x y=>vmm true (x.ev A) (y.ev A)
  | .bld zero parts=>((fillV zero (parts.map fun p=>(p.1,p.2.1,p.2.2.ev A))).1,.agg (fillV zero (parts.map fun p=>(p.1,p.2.1,p.2.2.ev A))).2)
  | .bsl size xs=>(allLen size (xs.map fun x=>strip (x.ev A)),.sl .no (xs.map fun x=>strip (x.ev A)))
  | .slc size x lo hi=>vslc size (x.ev A) (lo.map fun x=>x.ev A) (hi.map fun x=>x.ev A)
  | .sslc x lo hi=>vsslc (x.ev A) (lo.map fun x=>x.ev A) (hi.map fun x=>x.ev A)
  | .mlk ag lf z ok x k=>vmlk st.box ag lf z ok (x.ev A) (k.ev A)
  | .mlen x=>vmlen st.box (x.ev A)
  | .mnil neg x=>vmnil neg (x.ev A)
  | .inil neg x=>vinil neg (x.ev A)
  | .binZ op x y=>vbinZ op (x.ev A) (y.ev A)
  | .ent x=>vent st.box (x.ev A)
  | .mfn f first cap=>vmfn f (first.map fun x=>x.ev A) (cap.map fun x=>x.ev A)
  | .slc3 size x lo hi mx=>vslc3 size (x.ev A) (lo.map fun x=>x.ev A) (hi.ev A) (mx.ev A)
  | _=>(False,.any)
def oreads (x:Option X):List Nat:=match x with | some x=>x.reads | none=>[]
def VOp.reads:VOp→List Nat
  | .mv x | .un _ x | .isnil _ x | .pnil _ x | .b2s x | .s2b x | .b2sB x | .s2a _ _ x | .mks _ _ _ x | .mko _ _ _ x | .conv _ x | .fld _ x | .load _ x | .nilck x | .ext x _ | .len x | .slen x | .box x | .boxX x | .mlen x | .mnil _ x | .inil _ x | .rng x | .nxt x | .rngS x | .nxtS x | .clrm x | .ent x | .clr _ _ x | .mki _ x | .fv _ _ x=>x.reads
  | .mfn _ a b=>a.flatMap X.reads ++ b.flatMap X.reads
  | .slc3 _ x lo y q=>x.reads ++ oreads lo ++ y.reads ++ q.reads
  | .est x s v=>x.reads ++ s.reads ++ v.reads
  | .calv x xs=>x.reads ++ xs.flatMap X.reads
  | .inv _ x xs=>x.reads ++ xs.flatMap X.reads
  | .pick c a b=>c.reads ++ a.reads ++ b.reads
  | .bin _ x y | .binZ _ x y | .binb _ x y | .eqs _ _ x y | .ix _ x y | .ixa _ _ x y | .mn x y | .mx x y | .store _ x y | .sidx x y | .aidx _ x y | .aidxn _ _ x y | .cpy _ x y | .app _ _ x y | .appx _ _ _ x y | .mlk _ _ _ _ x y | .mdel _ _ x y | .ment _ _ _ x y=>x.reads ++ y.reads
  | .mup _ _ x k v=>x.reads ++ k.reads ++ v.reads
  | .bld _ parts=>parts.flatMap fun p=>p.2.2.reads
  | .bsl _ xs | .bslo _ xs | .call _ xs=>xs.flatMap X.reads
  | .slc _ x lo hi | .slcA _ _ x lo hi | .sslc x lo hi=>x.reads ++ oreads lo ++ oreads hi
  | .alc _ | .alcX _ | .mkm _ _=>[]
def layout (P:Program) (t:TypeId):Option (Option Nat × Nat) :=
  match P.underlying t,P.info? t with
  | some (.struct _),some i=>some (some i.size,i.size)
  | some (.array _ _),some i=>some (some i.size,i.size)
  | some _,some i=>if i.size=1 then some (none,1) else none
  | _,_=>none
def zeroCells' (P:Program) (t:TypeId):Option (List V) :=
  match P.info? t with
  | some i=>match i.zero with
    | some v=>if constOk v && v.cells.toList.all Value.oneCell' then some (v.cells.toList.map cellV) else none
    | none=>none
  | none=>none
def places (P:Program) (t:TypeId):Option (Array (Nat × Nat)) :=
  match P.underlying t with
  | some (.struct fields)=>fields.mapM fun f=>(P.info? f.type).map fun i=>(f.offset,i.size)
  | some (.array n elem)=>(P.info? elem).map fun i=>(Array.range n).map fun j=>(j * i.size,i.size)
  | _=>none
def intOf2? (P:Program) (s t:TypeId):Option IntKind :=
  match P.underlying s,P.underlying t with
  | some _,some (.int k)=>some k
  | _,_=>none
def callable (P:Program) (f:FuncId):Bool :=
  match P.funcs[f]? with
  | some fn=>fn.name != "runtime.NumGoroutine" && fn.body.isSome
  | none=>false
def cxo:Option Operand→Option (Option X)
  | none=>some none
  | some o=>(cx o).map some
def b2s? (P:Program) (s d:TypeId):Bool :=
  match P.underlying s,P.underlying d with
  | some (.slice e),some .string=>(match P.underlying e with | some (.int .u8)=>true | _=>false)
  | _,_=>false
def s2b? (P:Program) (s d:TypeId):Bool :=
  match P.underlying s,P.underlying d with
  | some .string,some (.slice e)=>(match P.underlying e with | some (.int .u8)=>true | _=>false)
  | _,_=>false
def appSrc (P:Program) (t t' elem:TypeId) (e:TypeInfo):Option (Option (Option V)) :=
  if t=t' then some none else
    match P.underlying t' with
    | some .string=>if e.size=1 then some (some none) else none
    | some (.int _)=>match zeroCells' P elem with
      | some [.sc v]=>some (some (some (.sc v)))
      | _=>none
    | _=>none
def zeroV (P:Program) (t:TypeId):Option V :=
  match P.info? t with
  | some i=>match i.zero with
    | some v=>if constOk v=true then some (ofVal v) else none
    | none=>none
  | none=>none
def mnilOf (P:Program) (op:BinOp) (t:TypeId) (y:Operand):Option Bool :=
  match op,P.underlying t,y with
  | .eql,some (.map _ _),.const (.map none)=>some false
  | .neq,some (.map _ _),.const (.map none)=>some true
  | _,_,_=>none
def inilOf (P:Program) (op:BinOp) (t:TypeId) (y:Operand):Option Bool :=
  match op,P.underlying t,y with
  | .eql,some (.interface _),.const .nilIface=>some false
  | .neq,some (.interface _),.const .nilIface=>some true
  | _,_,_=>none
def eqKind (P:Program) (op:BinOp) (t:TypeId) (y:Operand):Option (Bool ⊕ (Bool × Bool)) :=
  match op,P.underlying t,y with
  | .eql,some .bool,_=>some (.inl false)
  | .neq,some .bool,_=>some (.inl true)
  | .eql,some (.slice _),.const (.slice none 0 0)=>some (.inr (false,false))
  | .neq,some (.slice _),.const (.slice none 0 0)=>some (.inr (false,true))
  | .eql,some (.pointer _),.const (.pointer none)=>some (.inr (true,false))
  | .neq,some (.pointer _),.const (.pointer none)=>some (.inr (true,true))
  | _,_,_=>none
def isA (P:Program) (t:TypeId):Bool :=
  match P.underlying t with
  | some (.struct _)=>true
  | some (.array _ _)=>true
  | _=>false
def leafsF (P:Program) (g:TypeId→Option (List Lf)):Nat→List Field→Option (List Lf)
  | _,[]=>some []
  | o,f :: fs=>if f.offset=o∧f.name ≠ "_" then (g f.type).bind fun a=>(leafsF P g (o + P.cellsOf f.type) fs).map fun b=>a ++ b else none
def leafsU (P:Program) (g:TypeId→Option (List Lf)) (t:TypeId):Option (List Lf) :=
  match P.underlying t with
  | some (.int k)=>some [.int k]
  | some .bool=>some [.bool]
  | some .string=>some [.str]
  | some (.struct fs)=>if P.stoodInHeld t=false then leafsF P g 0 fs.toList else none
  | some (.array n e)=>(g e).map fun l=>(List.replicate n l).flatten
  | _=>none
def leafs (P:Program):Nat→TypeId→Option (List Lf)
  | 0,_=>none
  | n + 1,t=>(leafsU P (leafs P n) t).bind fun l=>if l.length=P.cellsOf t∧0 < l.length then some l else none
def eqNeg:BinOp→Option Bool
  | .eql=>some false
  | .neq=>some true
  | _=>none
def eqSpec (P:Program) (op:BinOp) (t:TypeId):Option (Bool × List Lf) :=
  if isA P t=true∧P.eqGuardType P.depth t=false then (eqNeg op).bind fun neg=>(leafs P 8 t).map fun l=>(neg,l) else none
def mapK (P:Program) (t:TypeId):Option (Bool × List Lf) :=
  match P.underlying t with
  | some (.map k _)=>(leafs P 8 k).map fun l=>(isA P k,l)
  | _=>none
def mapZ (P:Program) (t:TypeId):Option V :=
  match P.underlying t with
  | some (.map _ e)=>zeroV P e
  | _=>none
def cOp (P:Program) (own:Bool) (o:Op):Option VOp :=
  match o with
  | .move x | .assign x=>(cx x).map .mv
  | .pick c a b=>do pure (.pick (← cx c) (← cx a) (← cx b))
  | .binOp op t x y _=>match eqKind P op t y with
    | some (.inl neg)=>do pure (.binb neg (← cx x) (← cx y))
    | some (.inr (false,neg))=>do pure (.isnil neg (← cx x))
    | some (.inr (true,neg))=>do pure (.pnil neg (← cx x))
    | none=>match eqSpec P op t with
      | some (neg,l)=>do pure (.eqs neg l (← cx x) (← cx y))
      | none=>match mnilOf P op t y with
        | some neg=>do pure (.mnil neg (← cx x))
        | none=>match inilOf P op t y with
          | some neg=>do pure (.inil neg (← cx x))
          | none=>if own then do pure (.bin op (← cx x) (← cx y)) else do pure (.binZ op (← cx x) (← cx y))
  | .unOp op _ x=>do pure (.un op (← cx x))
  | .convert s d x=>if b2s? P s d then (cx x).map (if own then .b2s else .b2sB) else if s2b? P s d then (cx x).map .s2b else do pure (.conv (← intOf2? P s d) (← cx x))
  | .makeSlice t l c=>match P.underlying t with
    | some (.slice elem)=>match P.info? elem with
      | some e=>match zeroCells' P elem with
        | some z=>if z.length=e.size∧0 < e.size then
            match l,c with
            | .const (.int .i64 0),c=>do pure (.mko e.size e.bytes z (← cx c))
            | .tmp a,.tmp b=>if a=b then some (.mks e.size e.bytes z (.t a)) else none
            | .const (.int .i64 a),.const (.int .i64 b)=>if a=b then some (.mks e.size e.bytes z (.c (.sc (.int .i64 a)))) else none
            | _,_=>none
          else none
        | none=>none
      | none=>none
    | _=>none
  | .fieldAddr s x f=>match P.underlying s with
    | some (.struct fields)=>match fields[f]? with
      | some fd=>match P.info? fd.type with
        | some i=>if i.size=0 then none else (cx x).map (.fld fd.offset)
        | none=>none
      | none=>none
    | _=>none
  | .indexAddr t x i=>match P.underlying t with
    | some (.slice elem)=>match P.info? elem with
      | some e=>do pure (.ix e.size (← cx x) (← cx i))
      | none=>none
    | some (.array n elem)=>match P.info? elem with
      | some e=>do pure (.ixa n e.size (← cx x) (← cx i))
      | none=>none
    | _=>none
  | .index t x i=>match P.underlying t with
    | some .string=>do pure (.sidx (← cx x) (← cx i))
    | some (.array n elem)=>match P.info? elem with
      | some e=>if e.size=1∧isA P elem=false∧(P.underlying elem).isSome=true then do pure (.aidx n (← cx x) (← cx i)) else if isA P elem=true then do pure (.aidxn n e.size (← cx x) (← cx i)) else none
      | none=>none
    | _=>none
  | .load t x=>do pure (.load (← layout P t).1 (← cx x))
  | .nilCheck x=>(cx x).map .nilck
  | .extract x i=>(cx x).map fun x=>.ext x i
  | .build t parts=>do
    let z ← zeroCells' P t
    let pl ← places P t
    let ps ← parts.toList.mapM fun p=>do pure ((← pl[p.1]?).1,(← pl[p.1]?).2,← cx p.2)
    pure (.bld z ps)
  | .buildSlice t len parts=>match P.underlying t with
    | some (.slice elem)=>match P.info? elem with
      | some e=>if parts.toList.map (·.1)=List.range len∧len * e.size≤16777216∧0 < e.size then do
          let xs ← parts.toList.mapM fun p=>cx p.2
          let z ← zeroCells' P elem
          if z.length=e.size then pure (if own then .bslo e.size xs else .bsl e.size xs) else none
        else none
      | none=>none
    | _=>none
  | .slice t x lo hi mx=>match mx,P.underlying t with
    | none,some (.slice elem)=>match P.info? elem with
      | some e=>do pure (.slc e.size (← cx x) (← cxo lo) (← cxo hi))
      | none=>none
    | none,some .string=>do pure (.sslc (← cx x) (← cxo lo) (← cxo hi))
    | none,some (.array n elem)=>match P.info? elem with
      | some e=>do pure (.slcA n e.size (← cx x) (← cxo lo) (← cxo hi))
      | none=>none
    | some m,some (.slice elem)=>match P.info? elem,hi with
      | some e,some h=>do pure (.slc3 e.size (← cx x) (← cxo lo) (← cx h) (← cx m))
      | _,_=>none
    | _,_=>none
  | .sliceToArrayPointer arr x=>match P.underlying arr with
    | some (.array n elem)=>match P.info? elem with
      | some e=>if 0 < e.size then (cx x).map (.s2a n e.size) else none
      | none=>none
    | _=>none
  | .alloc t=>(zeroCells' P t).map .alc
  | .box _ x=>(cx x).map .box
  | .store t x y=>do pure (.store (← layout P t).2 (← cx x) (← cx y))
  | .call c=>match c.callee with
    | .value (.func f)=>if callable P f then do pure (.call f (← c.args.toList.mapM cx)) else none
    | .value (.tmp t)=>do pure (.calv (.t t) (← c.args.toList.mapM cx))
    | .invoke (.tmp t) name=>do pure (.inv name (.t t) (← c.args.toList.mapM cx))
    | .builtin .len=>match c.args.toList,c.argTypes.toList with
      | [x],[t]=>match P.underlying t with
        | some (.slice _)=>(cx x).map .len
        | some .string=>(cx x).map .slen
        | some (.map _ _)=>(cx x).map .mlen
        | _=>none
      | _,_=>none
    | .builtin .min=>match c.args.toList with
      | [x,y]=>do pure (.mn (← cx x) (← cx y))
      | _=>none
    | .builtin .max=>match c.args.toList with
      | [x,y]=>do pure (.mx (← cx x) (← cx y))
      | _=>none
    | .builtin .append=>match c.args.toList,c.argTypes.toList with
      | [x,y],[t,t']=>match P.underlying t with
        | some (.slice elem)=>match P.info? elem with
          | some e=>match e.zero with
            | some z=>if z.cells.size=e.size∧0 < e.size∧z.cells.all Value.oneCell'=true then
                match appSrc P t t' elem e with
                | some none=>do pure (.app e.size e.bytes (← cx x) (← cx y))
                | some (some k)=>do pure (.appx e.size e.bytes k (← cx x) (← cx y))
                | none=>none
              else none
            | none=>none
          | none=>none
        | _=>none
      | _,_=>none
    | .builtin .copy=>match c.args.toList,c.argTypes.toList with
      | [x,y],[t,t']=>if t=t' then match P.underlying t with
        | some (.slice elem)=>match P.info? elem with
          | some e=>if 0 < e.size then do pure (.cpy e.size (← cx x) (← cx y)) else none
          | none=>none
        | _=>none
        else none
      | _,_=>none
    | .builtin .delete=>match c.args.toList,c.argTypes.toList with
      | [x,y],t :: _=>do let m ← mapK P t; pure (.mdel m.1 m.2 (← cx x) (← cx y))
      | _,_=>none
    | .builtin .clear=>match c.args.toList,c.argTypes.toList with
      | [x],[t]=>match P.underlying t with
        | some (.slice elem)=>match P.info? elem,zeroCells' P elem with
          | some e,some z=>if z.length=e.size∧0 < e.size then (cx x).map (.clr e.size z) else none
          | _,_=>none
        | some (.map _ _)=>(cx x).map .clrm
        | _=>none
      | _,_=>none
    | _=>none
  | .lookup t x k ok=>do let m ← mapK P t; pure (.mlk m.1 m.2 (← mapZ P t) ok (← cx x) (← cx k))
  | .makeMap t none=>do let m ← mapK P t; pure (.mkm m.1 m.2)
  | .mapUpdate t x k v | .insert t x k v=>do let m ← mapK P t; pure (.mup m.1 m.2 (← cx x) (← cx k) (← cx v))
  | .mapEntry t x k=>do let m ← mapK P t; pure (.ment m.1 m.2 (← mapZ P t) (← cx x) (← cx k))
  | .entryStore _ x s v=>do pure (.est (← cx x) (← cx s) (← cx v))
  | .entry x=>(cx x).map .ent
  | .makeInterface t x=>match P.underlying t with
    | some (.interface _)=>none
    | some _=>do pure (.mki t (← cx x))
    | none=>none
  | .field t x f=>match P.underlying t with
    | some (.struct fields)=>match fields[f]? with
      | some fd=>match P.info? fd.type with
        | some i=>if isA P fd.type=true then (cx x).map (.fv fd.offset (some i.size)) else if (P.underlying fd.type).isSome=true then (cx x).map (.fv fd.offset none) else none
        | none=>none
      | none=>none
    | _=>none
  | .makeFunc f a b=>do pure (.mfn f (← a.toList.mapM cx) (← b.toList.mapM cx))
  | .range t x=>match P.underlying t with
    | some (.map _ _)=>(cx x).map .rng
    | some .string=>(cx x).map .rngS
    | _=>none
  | .next x str=>if str then (cx x).map .nxtS else (cx x).map .nxt
  | _=>none
end
section
open Go Go.RowKit
section
variable {P:Program} {w0:Fr} {G:Gh} {st:St} {w:World} {A:Nat→V} {a:Act}
theorem Rep1.int_inv {k:IntKind} {n:Int} {v:Value} (h:Rep1 G (.sc (.int k n)) v):v=.int k n:=by cases h; rfl
theorem Rep1.sc_inv {u v:Value} (h:Rep1 G (.sc u) v):v=u:=by cases h; rfl
theorem bits_ok (op:BinOp) (k:IntKind) (x y:Int) (h:op=.and ∨ op=.or ∨ op=.xor ∨ op=.andNot) (w:World):(Op.intBits op k x y).run P w=.ok (.int k (ibit op k x y)) w:=by
  rcases h with rfl | rfl | rfl | rfl <;> rfl
theorem tdiv_pos {x y:Int} (hx:0≤x):x.tdiv y=x / y:=Int.tdiv_eq_ediv_of_nonneg hx
theorem vbinI_sound {op:BinOp} {k k':IntKind} {x y:Int} (t:TypeId) (h:(vbinI op k x k' y).1) (w:World) :
    ∃ u,(binOp op t (.int k x) (.int k' y)).run P w=.ok u w∧(vbinI op k x k' y).2=.sc u∧u.oneCell'=true:=by
  cases op <;> simp only [vbinI] at h ⊢
  case add=>obtain ⟨rfl,h⟩:=h; exact ⟨.int k (k.wrap (x + y)),by simp [binOp,Op.intArith],norm_wrap h,rfl⟩
  case sub=>obtain ⟨rfl,h⟩:=h; exact ⟨.int k (k.wrap (x - y)),by simp [binOp,Op.intArith],norm_wrap h,rfl⟩
  case mul=>obtain ⟨rfl,h⟩:=h; exact ⟨.int k (k.wrap (x * y)),by simp [binOp,Op.intArith],norm_wrap h,rfl⟩
  case quo =>
    obtain ⟨rfl,h0,h1,h⟩:=h
    refine ⟨.int k (k.wrap (x / y)),?_,norm_wrap h,rfl⟩
    simp [binOp,Op.intDiv,show y ≠ 0 by omega,tdiv_pos h0]
  case rem =>
    obtain ⟨rfl,h0,h1⟩:=h
    refine ⟨.int k (x % y),?_,rfl,rfl⟩
    simp [binOp,Op.intDiv,show y ≠ 0 by omega,Int.tmod_eq_emod_of_nonneg h0]
  case and=>subst h; exact ⟨_,by simp only [binOp,ne_eq,not_true,if_false]; exact bits_ok .and k x y (by simp) w,rfl,rfl⟩
  case or=>subst h; exact ⟨_,by simp only [binOp,ne_eq,not_true,if_false]; exact bits_ok .or k x y (by simp) w,rfl,rfl⟩
  case xor=>subst h; exact ⟨_,by simp only [binOp,ne_eq,not_true,if_false]; exact bits_ok .xor k x y (by simp) w,rfl,rfl⟩
  case andNot=>subst h; exact ⟨_,by simp only [binOp,ne_eq,not_true,if_false]; exact bits_ok .andNot k x y (by simp) w,rfl,rfl⟩
  case shl =>
    obtain ⟨h0,h⟩:=h
    refine ⟨.int k (k.wrap (x * 2 ^ shAmt k y)),?_,norm_wrap h,rfl⟩
    simp [binOp,Op.shift,show ¬ y < 0 by omega,shAmt]
  case shr =>
    refine ⟨.int k (x / 2 ^ shAmt k y),?_,rfl,rfl⟩
    have:(0:Int)≤2 ^ shAmt k y:=Int.pow_nonneg (by omega)
    have e:x.fdiv (2 ^ shAmt k y)=x / 2 ^ shAmt k y:=Int.fdiv_eq_ediv_of_nonneg _ this
    unfold shAmt at e ⊢
    simp only [binOp,Op.shift,show ¬ y < 0 by omega,if_false,Sem.run_pure,e]
  case eql=>subst h; exact ⟨_,by simp only [binOp,ne_eq,not_true,if_false,Op.intCmp,Sem.run_pure]; rfl,rfl,rfl⟩
  case neq=>subst h; exact ⟨.bool (decide (x ≠ y)),by simp only [binOp,ne_eq,not_true,if_false,Op.intCmp,Sem.run_pure,bne]; rw [show (x == y)=decide (x=y) from rfl]; simp,rfl,rfl⟩
  case lss=>subst h; exact ⟨_,by simp only [binOp,ne_eq,not_true,if_false,Op.intCmp,Sem.run_pure],rfl,rfl⟩
  case leq=>subst h; exact ⟨_,by simp only [binOp,ne_eq,not_true,if_false,Op.intCmp,Sem.run_pure],rfl,rfl⟩
  case gtr=>subst h; exact ⟨_,by simp only [binOp,ne_eq,not_true,if_false,Op.intCmp,Sem.run_pure],rfl,rfl⟩
  case geq=>subst h; exact ⟨_,by simp only [binOp,ne_eq,not_true,if_false,Op.intCmp,Sem.run_pure],rfl,rfl⟩
theorem vbinS_sound {op:BinOp} {x y:ByteArray} (t:TypeId) (h:(vbinS op x y).1) (w:World) :
    ∃ u,(binOp op t (.string x) (.string y)).run P w=.ok u w∧(vbinS op x y).2=.sc u∧u.oneCell'=true:=by
  cases op <;> simp only [vbinS] at h ⊢
  case add=>exact ⟨.string (x ++ y),by simp [binOp,Op.stringOp,IntKind.max,IntKind.signed,IntKind.bits]; omega,rfl,rfl⟩
  case eql=>exact ⟨_,by simp only [binOp,Op.stringOp,string_beq]; rfl,rfl,rfl⟩
  case neq=>exact ⟨.bool (decide (x ≠ y)),by simp [binOp,Op.stringOp,string_beq],rfl,rfl⟩
  case lss=>exact ⟨_,by simp only [binOp,Op.stringOp]; rfl,rfl,rfl⟩
  case leq=>exact ⟨_,by simp only [binOp,Op.stringOp,string_beq]; rfl,rfl,rfl⟩
  case gtr=>exact ⟨_,by simp only [binOp,Op.stringOp,string_beq]; rfl,rfl,rfl⟩
  case geq=>exact ⟨_,by simp only [binOp,Op.stringOp]; rfl,rfl,rfl⟩
theorem eqGuard_plain (op:BinOp) (t:TypeId) (x y:Operand) (u v:Value) (h:(∃ k n,u=.int k n) ∨ ∃ s,u=.string s) (w:World):(eqGuard op t x y u v).run P w=.ok () w:=by
  unfold eqGuard
  rcases h with ⟨k,n,rfl⟩ | ⟨s,rfl⟩ <;> (split <;> simp)
theorem vbin_sound {op:BinOp} {x y:V} {u v:Value} (t:TypeId) (ox oy:Operand) (hx:Rep1 G x u) (hy:Rep1 G y v) (h:(vbin op x y).1) (w:World) :
    ∃ r,(do eqGuard op t ox oy u v; binOp op t u v:Sem Value).run P w=.ok r w∧Rep1 G (vbin op x y).2 r:=by
  unfold vbin at h ⊢
  split at h
  · rename_i k a k' b
    cases hx; cases hy
    obtain ⟨r,h1,h2,h3⟩:=vbinI_sound (P:=P) t h w
    exact ⟨r,by simp [eqGuard_plain op t ox oy _ _ (.inl ⟨_,_,rfl⟩),h1],by rw [h2]; exact .sc r h3⟩
  · rename_i a b
    cases hx; cases hy
    obtain ⟨r,h1,h2,h3⟩:=vbinS_sound (P:=P) t h w
    exact ⟨r,by simp [eqGuard_plain op t ox oy _ _ (.inr ⟨_,rfl⟩),h1],by rw [h2]; exact .sc r h3⟩
  · exact h.elim
theorem vbinZ_sound {op:BinOp} {x y:V} {u v:Value} (t:TypeId) (ox oy:Operand) (hx:Rep1 G x u) (hy:Rep1 G y v) (h:(vbinZ op x y).1) (w:World) :
    ∃ r,(do eqGuard op t ox oy u v; binOp op t u v:Sem Value).run P w=.ok r w∧Rep1 G (vbinZ op x y).2 r:=by
  unfold vbinZ at h ⊢
  split at h
  · rename_i k a k' b
    cases hx; cases hy
    cases op <;> simp only at h ⊢
    case quo =>
      obtain ⟨rfl,h1,h⟩:=h
      have e:(binOp .quo t (.int k a) (.int k b)).run P w=.ok (.int k (k.wrap (a.tdiv b))) w:=by simp [binOp,Op.intDiv,show b ≠ 0 by omega]
      exact ⟨.int k (k.wrap (a.tdiv b)),by simp [eqGuard_plain .quo t ox oy _ _ (.inl ⟨_,_,rfl⟩),e],by rw [norm_wrap h]; exact .sc _ rfl⟩
    case rem =>
      obtain ⟨rfl,h1⟩:=h
      have e:(binOp .rem t (.int k a) (.int k b)).run P w=.ok (.int k (a.tmod b)) w:=by simp [binOp,Op.intDiv,show b ≠ 0 by omega]
      exact ⟨.int k (a.tmod b),by simp [eqGuard_plain .rem t ox oy _ _ (.inl ⟨_,_,rfl⟩),e],.sc _ rfl⟩
    all_goals exact absurd h (by simp)
  · exact h.elim
theorem vun_sound {op:UnOp} {x:V} {u:Value} (hx:Rep1 G x u) (h:(vun op x).1) (w:World):∃ r,(Op.unary op u).run P w=.ok r w∧Rep1 G (vun op x).2 r:=by
  unfold vun at h ⊢
  split at h
  · rename_i k n
    cases hx
    cases op <;> simp only at h ⊢
    case neg=>exact ⟨.int k (k.wrap (0 - n)),by simp [Op.unary,Op.intArith],by rw [norm_wrap h]; exact .sc _ rfl⟩
    case xor=>exact ⟨_,by simp only [Op.unary]; exact bits_ok .xor k _ n (by simp) w,.sc _ rfl⟩
  · rename_i b
    cases hx
    cases op <;> simp only at h ⊢
    case not=>exact ⟨.bool (!b),by simp [Op.unary],.sc _ rfl⟩
  · exact h.elim
def aggB:TypeDesc→Bool
  | .struct _ | .array _ _=>true
  | _=>false
theorem layout_inv {t:TypeId} {n:Option Nat} {size:Nat} (h:layout P t=some (n,size)):∃ d i,P.underlying t=some d∧P.info? t=some i∧i.size=size ∧
    ((n=some size∧aggB d=true) ∨ (n=none∧size=1∧aggB d=false)):=by
  unfold layout at h
  split at h
  · rename_i fs i hu hi
    simp only [Option.some.injEq,Prod.mk.injEq] at h
    exact ⟨_,i,hu,hi,h.2,.inl ⟨by rw [← h.1,h.2],rfl⟩⟩
  · rename_i m e i hu hi
    simp only [Option.some.injEq,Prod.mk.injEq] at h
    exact ⟨_,i,hu,hi,h.2,.inl ⟨by rw [← h.1,h.2],rfl⟩⟩
  · rename_i d i h1 h2 hu hi
    split at h
    · rename_i hs
      simp only [Option.some.injEq,Prod.mk.injEq] at h
      refine ⟨_,i,hu,hi,by omega,.inr ⟨h.1.symm,h.2.symm,?_⟩⟩
      cases d <;> first | rfl | exact absurd rfl (h1 _) | exact absurd rfl (h2 _ _)
    · cases h
  · cases h
theorem run_isAgg {t:TypeId} {d:TypeDesc} (h:P.underlying t=some d) (w:World):(isAgg t).run P w=.ok (aggB d) w:=by
  simp only [isAgg,Sem.run_bind,run_underlying h,Result.andThen_ok]
  cases d <;> simp [aggB]
theorem run_sizeOf' {t:TypeId} {i:TypeInfo} (h:P.info? t=some i) (w:World):(sizeOf t).run P w=.ok i.size w:=by
  simp [sizeOf,typeInfo,h]
theorem addr_add (b o n:Nat):(⟨b,o,none⟩:Addr).add n=⟨b,o + n,none⟩:=by
  unfold Addr.add; split
  · rename_i h; subst h; rfl
  · rfl
theorem takeV_sound {t:TypeId} {n:Option Nat} {size:Nat} (hl:layout P t=some (n,size)) {cs:List V} {b o off:Nat} {u:Nat→Value} (hc:∀ j,j < cs.length→w.cell? ⟨b,o + j,none⟩=some (u j))
    (h1:∀ j,j < cs.length→(u j).oneCell'=true) (hr:∀ (j:Nat) (c:V),cs[j]?=some c→Rep1 G c (u j)) (h:(takeV cs off n).1) :
    ∃ r,(loadVar t ⟨b,o + off,none⟩).run P w=.ok r w∧Rep1 G (takeV cs off n).2 r:=by
  obtain ⟨d,i,hu,hi,hs,hk⟩:=layout_inv hl
  rcases hk with ⟨rfl,hd⟩ | ⟨rfl,rfl,hd⟩
  · simp only [takeV] at h ⊢
    have hcells:=run_loadCells (P:=P) w ⟨b,o + off,none⟩ size (fun j=>u (off + j)) (fun j hj=>by rw [addr_add,Nat.add_assoc]; exact hc _ (by omega))
    refine ⟨.agg ((List.range size).map fun j=>u (off + j)).toArray,?_,?_⟩
    · simp only [loadVar,Sem.run_bind,run_isAgg hu,hd,Result.andThen_ok,if_true,run_sizeOf' hi,hs,hcells,Sem.run_pure]
    · refine .agg _ _ (by simp; omega) (fun i v hv=>?_) (fun i c v hcc hv=>?_)
      · simp [] at hv
        obtain ⟨j,hj,rfl⟩:=hv
        have:=(List.getElem?_eq_some_iff.1 hj).1
        simp at this
        rw [List.getElem?_range this] at hj
        cases hj
        exact h1 _ (by omega)
      · rw [List.getElem?_take] at hcc
        split at hcc
        · rename_i hlt
          rw [List.getElem?_drop] at hcc
          simp [List.getElem?_range hlt] at hv
          subst hv
          exact hr _ _ hcc
        · cases hcc
  · simp only [takeV] at h ⊢
    split at h
    · rename_i c hcc
      have hlt:=(List.getElem?_eq_some_iff.1 hcc).1
      refine ⟨u off,?_,hr _ _ hcc⟩
      simp only [loadVar,Sem.run_bind,run_isAgg hu,hd,Result.andThen_ok,Bool.false_eq_true,if_false,run_load,hc _ hlt]
    · exact h.elim
theorem RepW.boxCells (hw:RepW w0 G st w) {b:Nat} {cs:List V} (hb:st.box b=some cs) (hm:mono cs):∃ (u:Nat→Value),(∀ j,j < cs.length→w.cell? ⟨b,0 + j,none⟩=some (u j))∧(∀ j,j < cs.length→(u j).oneCell'=true)∧∀ (j:Nat) (c:V),cs[j]?=some c→Rep1 G c (u j):=by
  obtain ⟨vs,e,hh,hl,h1,hr⟩:=(hw.box b cs hb).2.2.2.2.row hm
  refine ⟨fun j=>vs.getD j undef,fun j hj=>?_,fun j hj=>?_,fun j c hc=>?_⟩
  · rw [Nat.zero_add,cell_of_row w b j vs e _ hh]
    simp [Array.getElem?_eq_getElem (show j < vs.size by omega)]
  · exact h1 j _ (by simp [Array.getElem?_eq_getElem (show j < vs.size by omega)])
  · have hlt:=(List.getElem?_eq_some_iff.1 hc).1
    exact hr j c _ hc (by simp [Array.getElem?_eq_getElem (show j < vs.size by omega)])
theorem takeB_spec {cs:List V} {off:Nat} {n:Option Nat} (h:(takeB cs off n).1):mono cs∧(takeV cs off n).1∧(takeB cs off n).2=(takeV cs off n).2:=by
  cases n with
  | some n=>exact ⟨h.2,h.1,rfl⟩
  | none =>
    refine ⟨?_,h,rfl⟩
    simp only [takeB,takeV] at h
    split at h
    · rename_i c hc
      unfold mono
      split
      · rename_i d
        have:c=d:=by
          cases off with
          | zero=>simpa using hc.symm
          | succ o=>simp at hc
        subst this
        cases c <;> first | rfl | (simp [V.cells] at h; done)
      · trivial
    · exact h.elim
theorem vload_sound {t:TypeId} {n:Option Nat} {size:Nat} (hl:layout P t=some (n,size)) (hw:RepW w0 G st w) {x:V} {v:Value} (hx:Rep1 G x v) (h:(vload st n x).1) :
    ∃ r,(Instr.loadAt t v).run P w=.ok r w∧Rep1 G (vload st n x).2 r:=by
  unfold vload at h ⊢
  split at h
  · rename_i cs off
    cases hx with
    | ep _ _ b o u hF h1 hr =>
      obtain ⟨r,hr1,hr2⟩:=takeV_sound hl (w:=w) (b:=b) (o:=o) (u:=u) (fun j hj=>hw.F _ _ _ (hF j hj)) h1 hr h
      exact ⟨r,by simpa [Instr.loadAt,Instr.sureAddr] using hr1,hr2⟩
  · rename_i b o
    cases hx
    split at h
    · rename_i cs hb
      obtain ⟨hm,h,e2⟩:=takeB_spec h
      rw [e2]
      obtain ⟨u,hc,h1,hr⟩:=hw.boxCells hb hm
      obtain ⟨r,hr1,hr2⟩:=takeV_sound hl (w:=w) (b:=b) (o:=0) (off:=o) hc h1 hr h
      rw [Nat.zero_add] at hr1
      exact ⟨r,by simpa [Instr.loadAt,Instr.sureAddr] using hr1,hr2⟩
    · exact h.elim
  · exact h.elim
theorem vix_sound {t:TypeId} {e:TypeId} {i:TypeInfo} (hu:P.underlying t=some (.slice e)) (hi:P.info? e=some i) {x y:V} {u v:Value} (hx:Rep1 G x u) (hy:Rep1 G y v) (h:(vix i.size x y).1) :
    ∃ r,(Instr.indexAt t u v).run P w=.ok r w∧Rep1 G (vix i.size x y).2 r:=by
  unfold vix at h ⊢
  split at h
  · rename_i own l k n
    cases hy
    split at h
    · rename_i d hd
      have hlt:=(List.getElem?_eq_some_iff.1 hd).1
      simp only at h
      cases hx with
      | nil=>simp at hd
      | emp=>simp at hd
      | sl _ _ b o kk cap uu hk hF h1 hr =>
        have e1:=hk _ _ hd
        have e2:kk=i.size:=by omega
        subst e2
        refine ⟨.pointer (some ⟨b,(o + n.toNat * i.size) + 0,none⟩),?_,.ep d.cells 0 b (o + n.toNat * i.size) (uu n.toNat) (fun j hj=>hF _ _ hlt (by omega)) (fun j hj=>h1 _ _ hlt (by omega)) (fun j c hc=>hr _ _ _ _ hd hc)⟩
        have hin:0≤n∧n < (l.length:Int):=⟨h.1,by omega⟩
        simp [Instr.indexAt,asIntOf,run_underlying hu,hin,run_sizeOf' hi,addr_add]
    · exact h.elim
  · rename_i b o m c k n
    cases hy; cases hx
    simp only at h
    exact ⟨_,by simp [Instr.indexAt,asIntOf,run_underlying hu,h,run_sizeOf' hi,addr_add],.sc _ rfl⟩
  · exact h.elim
theorem vixa_sound {t e len:Nat} {i:TypeInfo} (hu:P.underlying t=some (.array len e)) (hi:P.info? e=some i) {x y:V} {u v:Value} (hx:Rep1 G x u) (hy:Rep1 G y v) (h:(vixa len i.size x y).1) :
    ∃ r,(Instr.indexAt t u v).run P w=.ok r w∧Rep1 G (vixa len i.size x y).2 r:=by
  unfold vixa at h ⊢
  split at h
  · rename_i b o k n
    cases hy; cases hx
    simp only at h
    exact ⟨_,by simp [Instr.indexAt,asIntOf,run_underlying hu,h,run_sizeOf' hi,addr_add,Instr.sureAddr],.sc _ rfl⟩
  · rename_i cs off k n
    cases hy
    simp only at h
    cases hx with
    | ep _ _ b o uu hF h1 hr =>
      refine ⟨.pointer (some ⟨b,o + (off + n.toNat * i.size),none⟩),?_,.ep cs _ b o uu hF h1 hr⟩
      simp [Instr.indexAt,asIntOf,run_underlying hu,h,run_sizeOf' hi,addr_add,Instr.sureAddr,Nat.add_assoc]
  · exact h.elim
theorem vfld_sound {s f:Nat} {fields:Array Field} {fd:Field} {i:TypeInfo} (hu:P.underlying s=some (.struct fields)) (hf:fields[f]?=some fd) (hi:P.info? fd.type=some i) (h0:i.size ≠ 0) {x:V} {u:Value} (hx:Rep1 G x u) (h:(vfld fd.offset x).1) :
    ∃ r,(Instr.fieldAt s u f).run P w=.ok r w∧Rep1 G (vfld fd.offset x).2 r:=by
  unfold vfld at h ⊢
  split at h
  · rename_i b o
    cases hx
    exact ⟨_,by simp [Instr.fieldAt,run_underlying hu,hf,Instr.sureAddr,fieldPlace,run_sizeOf' hi,h0,addr_add],.sc _ rfl⟩
  · rename_i cs off
    cases hx with
    | ep _ _ b o uu hF h1 hr =>
      refine ⟨.pointer (some ⟨b,o + (off + fd.offset),none⟩),?_,.ep cs _ b o uu hF h1 hr⟩
      simp [Instr.fieldAt,run_underlying hu,hf,Instr.sureAddr,fieldPlace,run_sizeOf' hi,h0,addr_add,Nat.add_assoc]
  · exact h.elim
theorem vlen_sound {t ty e:TypeId} {ts:Array TypeId} (ht:ts[0]?=some t) (hu:P.underlying t=some (.slice e)) {x:V} {u:Value} {us:Array Value} (hus:us[0]?=some u) (hx:Rep1 G x u) (h:(vlen x).1) :
    ∃ r,(Builtin.len_ ts ty us).run P w=.ok r w∧Rep1 G (vlen x).2 r:=by
  unfold vlen at h ⊢
  split at h
  · rename_i o l
    cases hx with
    | nil=>exact ⟨.int .i64 0,by simp [Builtin.len_,ht,hus,run_underlying hu,goInt],.sc _ rfl⟩
    | emp=>exact ⟨.int .i64 0,by simp [Builtin.len_,ht,hus,run_underlying hu,goInt],.sc _ rfl⟩
    | sl _ _ b oo kk cap uu=>exact ⟨.int .i64 l.length,by simp [Builtin.len_,ht,hus,run_underlying hu,goInt],.sc _ rfl⟩
  · rename_i A0 n c
    cases hx
    exact ⟨.int .i64 n,by simp [Builtin.len_,ht,hus,run_underlying hu,goInt],.sc _ rfl⟩
  · exact h.elim
theorem vslen_sound {t ty:TypeId} {ts:Array TypeId} (ht:ts[0]?=some t) (hu:P.underlying t=some .string) {x:V} {u:Value} {us:Array Value} (hus:us[0]?=some u) (hx:Rep1 G x u) (h:(vslen x).1) :
    ∃ r,(Builtin.len_ ts ty us).run P w=.ok r w∧Rep1 G (vslen x).2 r:=by
  unfold vslen at h ⊢
  split at h
  · rename_i s
    cases hx
    exact ⟨.int .i64 s.size,by simp [Builtin.len_,ht,hus,run_underlying hu,goInt],.sc _ rfl⟩
  · exact h.elim
theorem vext_sound {x:V} {u:Value} {i:Nat} (hx:Rep1 G x u) (h:(vext i x).1):∃ r,(Instr.extract u i).run P w=.ok r w∧Rep1 G (vext i x).2 r:=by
  unfold vext at h ⊢
  split at h
  · rename_i cs
    split at h
    · rename_i c hc
      have hlt:=(List.getElem?_eq_some_iff.1 hc).1
      cases hx with
      | tup _ vs hl hr =>
        have hv:vs[i]?=some (vs[i]'(by omega)):=Array.getElem?_eq_getElem _
        exact ⟨_,by simp only [Instr.extract,hv]; rfl,hr _ _ _ hc hv⟩
    · exact h.elim
  · exact h.elim
theorem vmm_sound {mx:Bool} {x y:V} {u v:Value} (hx:Rep1 G x u) (hy:Rep1 G y v) (h:(vmm mx x y).1) (ts:Array TypeId) (t:TypeId) :
    ∃ r,(if mx then Builtin.max_ ts t #[u,v] else Builtin.min_ ts t #[u,v]).run P w=.ok r w∧Rep1 G (vmm mx x y).2 r:=by
  unfold vmm at h ⊢
  split at h
  · rename_i k a k' b
    cases hx; cases hy
    cases mx
    · refine ⟨.int k (min a b),?_,.sc _ rfl⟩
      simp only [Bool.false_eq_true,if_false,run_min_int2]
      congr 2
      split <;> omega
    · refine ⟨.int k (max a b),?_,.sc _ rfl⟩
      simp only [if_true,run_max_int2]
      congr 2
      split <;> omega
  · exact h.elim
theorem vconv_sound {s t:TypeId} {k:IntKind} {sd:TypeDesc} (hs:P.underlying s=some sd) (hu:P.underlying t=some (.int k)) {x:V} {u:Value} (hx:Rep1 G x u) (h:(vconv k x).1):∃ r,(convert s t u).run P w=.ok r w∧Rep1 G (vconv k x).2 r:=by
  unfold vconv at h ⊢
  split at h
  · rename_i k' n
    cases hx
    refine ⟨.int k (k.wrap n),?_,by rw [norm_wrap h]; exact .sc _ rfl⟩
    simp only [convert,Sem.run_bind,run_underlying hs,run_underlying hu,Result.andThen_ok]
    rfl
  · exact h.elim
theorem Rep1.cut {own:Tk} {l:List V} {A0:Option Addr} {n c:Nat} (h:Rep1 G (.sl own l) (.slice A0 n c)) (x y size:Nat) (hxy:x≤y) (hy:y≤l.length) (hs:∀ (i:Nat) (d:V),l[i]?=some d→d.cells.length=size) :
    Rep1 G (.sl .no ((l.take y).drop x)) (.slice (if c=x then A0 else A0.map (·.add (x * size))) (y - x) (c - x)):=by
  cases h with
  | nil =>
    simp at hy; subst hy
    simp at hxy; subst hxy
    simpa using Rep1.nil .no (fun g k e=>by cases e)
  | emp a cap hm own he =>
    simp at hy; subst hy
    simp at hxy; subst hxy
    simp only [List.take_zero,List.drop_zero,Nat.sub_zero,Option.map_some]
    split <;> exact .emp _ _ hm
  | sl _ _ b o k cap u hk hF h1 hr hcap hm ho hown =>
    by_cases hc:c=x
    · have:y=x:=by omega
      subst this
      rw [if_pos hc]
      have e:((l.take y).drop y)=[]:=by simp
      rw [e,show y - y=([]:List V).length by simp]
      exact .sl .no [] b o k _ u (fun i d hd=>by simp at hd) (fun i j hi=>by simp at hi) (fun i j hi=>by simp at hi) (fun i d j c hd=>by simp at hd) (by simp) (by omega) (by simp) (fun g k e=>by cases e)
    · rw [if_neg hc]
      have hlen:((l.take y).drop x).length=y - x:=by simp; omega
      rw [← hlen]
      have hget:∀ i d,((l.take y).drop x)[i]?=some d→l[x + i]?=some d∧x + i < y:=fun i d hd=>by
        rw [List.getElem?_drop,List.getElem?_take] at hd
        split at hd
        · rename_i hlt; exact ⟨hd,hlt⟩
        · cases hd
      have hsz:∀ i,i < y - x→k=size:=fun i hi=>by
        have:=List.getElem?_eq_getElem (show x + i < l.length by omega)
        rw [← hk _ _ this,hs _ _ this]
      have e:(Option.map (fun a=>a.add (x * size)) (some (⟨b,o,none⟩:Addr)))=some ⟨b,o + x * size,none⟩:=by simp [addr_add]
      rw [e]
      refine .sl .no _ b (o + x * size) k (c - x) (fun i j=>u (x + i) j) (fun i d hd=>hk _ _ (hget i d hd).1) (fun i j hi hj=>?_) (fun i j hi hj=>h1 _ _ (by omega) hj) (fun i d j c hd hc=>hr _ _ _ _ (hget i d hd).1 hc) (by omega) (by omega) (by simp) (fun g k e=>by cases e)
      have:=hsz i (by omega)
      subst this
      rw [show o + x * k + i * k + j=o + (x + i) * k + j by rw [Nat.add_mul]; omega]
      exact hF _ _ (by omega) hj
def oRep (G:Gh):Option V→Option Value→Prop
  | none,none=>True
  | some x,some v=>Rep1 G x v
  | _,_=>False
theorem run_bound {k:IntKind} {n:Int} {y:Nat} (h0:0≤n) (h1:n≤y) (c:BoundsCode) (w:World):(Instr.sliceBound (.int k n) y c).run P w=.ok n.toNat w:=by
  simp [Instr.sliceBound,asIntOf,h0,h1]
theorem vslc_sound {t e:TypeId} {i:TypeInfo} (hu:P.underlying t=some (.slice e)) (hi:P.info? e=some i) {x:V} {u:Value} {lo hi':Option V} {ulo uhi:Option Value} (hx:Rep1 G x u) (hlo:oRep G lo ulo) (hhi:oRep G hi' uhi) (h:(vslc i.size x lo hi').1) :
    ∃ r,(Instr.sliceAt t u ulo uhi none).run P w=.ok r w∧Rep1 G (vslc i.size x lo hi').2 r:=by
  unfold vslc at h ⊢
  split at h
  · rename_i own l
    have hsl:∃ A0 c,u=.slice A0 l.length c∧l.length≤c:=by
      cases hx with
      | nil=>exact ⟨none,0,rfl,Nat.le_refl _⟩
      | emp a cap hm=>exact ⟨some a,cap,rfl,Nat.zero_le _⟩
      | sl _ _ b o k cap uu hk hF h1 hr hcap=>exact ⟨some ⟨b,o,none⟩,cap,rfl,hcap⟩
    obtain ⟨A0,c,rfl,hc⟩:=hsl
    have key:∀ x y:Nat,x≤y→y≤l.length→allSz i.size l→Rep1 G (.sl .no ((l.take y).drop x)) (.slice (if c=x then A0 else A0.map (·.add (x * i.size))) (y - x) (c - x)):=fun x y h1 h2 h3=>hx.cut x y i.size h1 h2 (fun j d hd=>h3 d (List.mem_of_getElem? hd))
    split at h
    · cases ulo <;> cases uhi <;> simp only [oRep] at hlo hhi
      refine ⟨_,by simp [Instr.sliceAt,Instr.slice,run_underlying hu,Instr.sliceBounds,run_sizeOf' hi]; rfl,?_⟩
      simpa using key 0 l.length (by omega) (Nat.le_refl _) h
    · cases ulo <;> cases uhi <;> simp only [oRep] at hlo hhi
      rename_i k a v
      cases hlo
      refine ⟨_,by simp [Instr.sliceAt,Instr.slice,run_underlying hu,Instr.sliceBounds,run_sizeOf' hi,run_bound h.2.1 (show a≤(l.length:Nat) by omega)]; rfl,?_⟩
      simpa using key a.toNat l.length h.2.2 (Nat.le_refl _) h.1
    · cases ulo <;> cases uhi <;> simp only [oRep] at hlo hhi
      rename_i k a v
      cases hhi
      refine ⟨_,by simp [Instr.sliceAt,Instr.slice,run_underlying hu,Instr.sliceBounds,run_sizeOf' hi,run_bound h.2.1 (show a≤(c:Nat) by omega)]; rfl,?_⟩
      simpa using key 0 a.toNat (by omega) h.2.2 h.1
    · cases ulo <;> cases uhi <;> simp only [oRep] at hlo hhi
      rename_i k a k' b v v'
      cases hlo; cases hhi
      refine ⟨_,by simp [Instr.sliceAt,Instr.slice,run_underlying hu,Instr.sliceBounds,run_sizeOf' hi,run_bound (show 0≤b by omega) (show b≤(c:Nat) by omega),run_bound h.2.1 (show a≤(b.toNat:Nat) by omega)]; rfl,?_⟩
      simpa using key a.toNat b.toNat (by omega) h.2.2.2 h.1
    · exact h.elim
  · rename_i b0 o n c
    cases hx with
    | sc _ _ =>
    have key:∀ x y:Nat,(x=0 ∨ x < c)→(if c=x then some (⟨b0,o,none⟩:Addr) else (some ⟨b0,o,none⟩:Option Addr).map (·.add (x * i.size)))=some ⟨b0,o + x * i.size,none⟩:=fun x y hx=>by
      split
      · rename_i e
        rcases hx with rfl | hx
        · simp
        · omega
      · simp only [Option.map_some,addr_add]
    split at h
    · cases ulo <;> cases uhi <;> simp only [oRep] at hlo hhi
      refine ⟨_,by simp [Instr.sliceAt,Instr.slice,run_underlying hu,Instr.sliceBounds,run_sizeOf' hi]; rfl,?_⟩
      have:=key 0 0 (.inl rfl)
      simp at this ⊢
      first | exact .sc _ rfl | (rw [this]; exact .sc _ rfl) | (rw [show (⟨b0,o,none⟩:Addr).add 0=⟨b0,o,none⟩ from rfl]; simp only [ite_self]; exact .sc _ rfl)
    · split at h
      · rename_i hac
        rw [if_pos hac]
        cases ulo <;> cases uhi <;> simp only [oRep] at hlo hhi
        rename_i k a v
        cases hlo
        refine ⟨_,by simp [Instr.sliceAt,Instr.slice,run_underlying hu,Instr.sliceBounds,run_sizeOf' hi,run_bound h.1 (show a≤(n:Nat) by omega)]; rfl,?_⟩
        have:=key a.toNat 0 (by omega)
        simp at this ⊢
        first | exact .sc _ rfl | (rw [this]; exact .sc _ rfl) | (rw [show (⟨b0,o,none⟩:Addr).add 0=⟨b0,o,none⟩ from rfl]; simp only [ite_self]; exact .sc _ rfl)
      · rename_i hac
        rw [if_neg hac]
        cases ulo <;> cases uhi <;> simp only [oRep] at hlo hhi
        rename_i k a v
        cases hlo
        have e0:a.toNat=c:=by omega
        have e1:n=c:=by omega
        refine ⟨_,by simp [Instr.sliceAt,Instr.slice,run_underlying hu,Instr.sliceBounds,run_sizeOf' hi,run_bound h.1 (show a≤(n:Nat) by omega)]; rfl,?_⟩
        simp only [e0,e1,Nat.sub_self,if_true]
        exact .emp _ 0 (Nat.zero_le _)
    · cases ulo <;> cases uhi <;> simp only [oRep] at hlo hhi
      rename_i k a v
      cases hhi
      refine ⟨_,by simp [Instr.sliceAt,Instr.slice,run_underlying hu,Instr.sliceBounds,run_sizeOf' hi,run_bound h.1 (show a≤(c:Nat) by omega)]; rfl,?_⟩
      have:=key 0 0 (.inl rfl)
      simp at this ⊢
      first | exact .sc _ rfl | (rw [this]; exact .sc _ rfl) | (rw [show (⟨b0,o,none⟩:Addr).add 0=⟨b0,o,none⟩ from rfl]; simp only [ite_self]; exact .sc _ rfl)
    · cases ulo <;> cases uhi <;> simp only [oRep] at hlo hhi
      rename_i k a k' b v v'
      cases hlo; cases hhi
      refine ⟨_,by simp [Instr.sliceAt,Instr.slice,run_underlying hu,Instr.sliceBounds,run_sizeOf' hi,run_bound (show 0≤b by omega) (show b≤(c:Nat) by omega),run_bound h.1 (show a≤(b.toNat:Nat) by omega)]; rfl,?_⟩
      have:=key a.toNat 0 (by omega)
      simp at this ⊢
      first | exact .sc _ rfl | (rw [this]; exact .sc _ rfl) | (rw [show (⟨b0,o,none⟩:Addr).add 0=⟨b0,o,none⟩ from rfl]; simp only [ite_self]; exact .sc _ rfl)
    · exact h.elim
  · exact h.elim
theorem Rep1.recap {own:Tk} {l:List V} {A0:Option Addr} {n c:Nat} (h:Rep1 G (.sl own l) (.slice A0 n c)) (m:Nat) (hm:m≤l.length):Rep1 G (.sl .no (l.take m)) (.slice A0 m m):=by
  cases h with
  | nil=>
    have:m=0:=by simpa using hm
    subst this
    exact .nil .no (fun g k e=>by cases e)
  | emp a cap hc own he =>
    have:m=0:=by simpa using hm
    subst this
    exact .emp a 0 (Nat.zero_le _)
  | sl own l b o k cap u hk hF h1 hr hcap hmx ho hown =>
    have hl:(l.take m).length=m:=by simp; omega
    have:=Rep1.sl (G:=G) .no (l.take m) b o k m u (fun i d hd=>hk i d (by
      rw [List.getElem?_take] at hd
      split at hd
      · exact hd
      · cases hd)) (fun i j hi hj=>hF i j (by omega) hj) (fun i j hi hj=>h1 i j (by omega) hj) (fun i d j c hd hc=>hr i d j c (by
      rw [List.getElem?_take] at hd
      split at hd
      · exact hd
      · cases hd) hc) (by omega) (by omega) (by simp) (fun g k' e=>by cases e)
    rw [hl] at this
    exact this
theorem Rep1.toFull {l:List V} {A0:Option Addr} {n c:Nat} (h:Rep1 G (.sl .no l) (.slice A0 n c)) (hc:c=l.length):Rep1 G (.sl .full l) (.slice A0 n c):=by
  cases h with
  | nil=>exact .nil .full (fun g k e=>by cases e)
  | emp a cap hm own he=>exact .emp a c hm .full (.inr (.inr ⟨rfl,hc⟩))
  | sl own l b o k cap u hk hF h1 hr hcap hm ho hown hfull=>exact .sl .full l b o k c u hk hF h1 hr hcap hm (by simp) (fun g k' e=>by cases e) (fun _=>hc)
theorem Rep1.slLen {own:Tk} {l:List V} {u:Value} (hx:Rep1 G (.sl own l) u):∃ A0 c,u=.slice A0 l.length c∧l.length≤c:=by
  cases hx with
  | nil=>exact ⟨none,0,rfl,Nat.le_refl _⟩
  | emp a cap hm=>exact ⟨some a,cap,rfl,Nat.zero_le _⟩
  | sl _ _ b o k cap uu hk hF h1 hr hcap=>exact ⟨some ⟨b,o,none⟩,cap,rfl,hcap⟩
theorem vslc3_sound {t e:TypeId} {i:TypeInfo} (hu:P.underlying t=some (.slice e)) (hi:P.info? e=some i) {x:V} {u:Value} {lo:Option V} {hb mb:V} {ulo:Option Value} {uh um:Value} (hx:Rep1 G x u) (hlo:oRep G lo ulo) (hhi:Rep1 G hb uh) (hmx:Rep1 G mb um) (h:(vslc3 i.size x lo hb mb).1) :
    ∃ r,(Instr.sliceAt t u ulo (some uh) (some um)).run P w=.ok r w∧Rep1 G (vslc3 i.size x lo hb mb).2 r:=by
  unfold vslc3 at h ⊢
  split at h
  · rename_i own l k b k' m
    obtain ⟨A0,c,rfl,hc⟩:=hx.slLen
    cases hhi; cases hmx
    have key:∀ x y:Nat,x≤y→y≤m.toNat→m.toNat≤l.length→allSz i.size l→(b=m→y=m.toNat)→Rep1 G (.sl (if b=m then .full else .no) ((l.take y).drop x)) (.slice (if m.toNat=x then A0 else A0.map (·.add (x * i.size))) (y - x) (m.toNat - x)):=fun x y h1 h2 h3 h4 h5=>by
      have:=(hx.recap m.toNat h3).cut x y i.size h1 (by simp; omega) (fun j d hd=>h4 d (List.mem_of_mem_take (List.mem_of_getElem? hd)))
      rw [List.take_take,Nat.min_eq_left h2] at this
      split
      · rename_i e
        exact this.toFull (by have:=h5 e; simp; omega)
      · exact this
    split at h
    · cases ulo <;> simp only [oRep] at hlo
      refine ⟨_,by simp [Instr.sliceAt,Instr.slice,run_underlying hu,Instr.sliceBounds,run_sizeOf' hi,run_bound (show 0≤m by omega) (show m≤(c:Nat) by omega),run_bound h.2.1 (show b≤(m.toNat:Nat) by omega)]; rfl,?_⟩
      simpa using key 0 b.toNat (by omega) (by omega) h.2.2.2 h.1 (fun e=>by rw [e])
    · cases ulo <;> simp only [oRep] at hlo
      rename_i k a v
      cases hlo
      refine ⟨_,by simp [Instr.sliceAt,Instr.slice,run_underlying hu,Instr.sliceBounds,run_sizeOf' hi,run_bound (show 0≤m by omega) (show m≤(c:Nat) by omega),run_bound (show 0≤b by omega) (show b≤(m.toNat:Nat) by omega),run_bound h.2.1 (show a≤(b.toNat:Nat) by omega)]; rfl,?_⟩
      simpa using key a.toNat b.toNat (by omega) (by omega) h.2.2.2.2 h.1 (fun e=>by rw [e])
    · exact h.elim
  · rename_i b0 o n c k b k' m
    cases hhi; cases hmx
    cases hx with
    | sc _ _ =>
    have key:∀ x:Nat,(x=0 ∨ x < m.toNat)→(if m.toNat=x then some (⟨b0,o,none⟩:Addr) else (some ⟨b0,o,none⟩:Option Addr).map (·.add (x * i.size)))=some ⟨b0,o + x * i.size,none⟩:=fun x hx=>by
      split
      · rename_i e
        rcases hx with rfl | hx
        · simp
        · omega
      · simp only [Option.map_some,addr_add]
    split at h
    · cases ulo <;> simp only [oRep] at hlo
      refine ⟨_,by simp [Instr.sliceAt,Instr.slice,run_underlying hu,Instr.sliceBounds,run_sizeOf' hi,run_bound (show 0≤m by omega) (show m≤(c:Nat) by omega),run_bound h.1 (show b≤(m.toNat:Nat) by omega)]; rfl,?_⟩
      have:=key 0 (.inl rfl)
      simp at this ⊢
      first | exact .sc _ rfl | (rw [this]; exact .sc _ rfl) | (rw [show (⟨b0,o,none⟩:Addr).add 0=⟨b0,o,none⟩ from rfl]; simp only [ite_self]; exact .sc _ rfl)
    · cases ulo <;> simp only [oRep] at hlo
      rename_i k a v
      cases hlo
      refine ⟨_,by simp [Instr.sliceAt,Instr.slice,run_underlying hu,Instr.sliceBounds,run_sizeOf' hi,run_bound (show 0≤m by omega) (show m≤(c:Nat) by omega),run_bound (show 0≤b by omega) (show b≤(m.toNat:Nat) by omega),run_bound h.1 (show a≤(b.toNat:Nat) by omega)]; rfl,?_⟩
      have:=key a.toNat (by omega)
      simp at this ⊢
      first | exact .sc _ rfl | (rw [this]; exact .sc _ rfl) | (rw [show (⟨b0,o,none⟩:Addr).add 0=⟨b0,o,none⟩ from rfl]; simp only [ite_self]; exact .sc _ rfl)
    · exact h.elim
  · exact h.elim
theorem vslcA_sound {t e:TypeId} {i:TypeInfo} {n:Nat} (hu:P.underlying t=some (.array n e)) (hi:P.info? e=some i) {x:V} {u:Value} {lo hi':Option V} {ulo uhi:Option Value} (hx:Rep1 G x u) (hlo:oRep G lo ulo) (hhi:oRep G hi' uhi) (h:(vslcA n i.size x lo hi').1) :
    ∃ r,(Instr.sliceAt t u ulo uhi none).run P w=.ok r w∧Rep1 G (vslcA n i.size x lo hi').2 r:=by
  unfold vslcA at h ⊢
  split at h
  · rename_i b0 o
    cases hx with
    | sc _ _ =>
    have key:∀ x:Nat,(x=0 ∨ x < n)→(if n=x then (⟨b0,o,none⟩:Addr) else (⟨b0,o,none⟩:Addr).add (x * i.size))=⟨b0,o + x * i.size,none⟩:=fun x hx=>by
      split
      · rename_i e
        rcases hx with rfl | hx
        · simp
        · omega
      · rw [addr_add]
    unfold vslc at h ⊢
    simp only at h ⊢
    split at h
    · cases ulo <;> cases uhi <;> simp only [oRep] at hlo hhi
      refine ⟨_,by simp [Instr.sliceAt,Instr.sureAddr,run_underlying hu,Instr.sliceBounds,run_sizeOf' hi]; rfl,?_⟩
      have:=key 0 (.inl rfl)
      simp at this ⊢
      first | exact .sc _ rfl | (rw [this]; exact .sc _ rfl) | (rw [show (⟨b0,o,none⟩:Addr).add 0=⟨b0,o,none⟩ from rfl]; simp only [ite_self]; exact .sc _ rfl)
    · split at h
      · rename_i hac
        rw [if_pos hac]
        cases ulo <;> cases uhi <;> simp only [oRep] at hlo hhi
        rename_i k a v
        cases hlo
        refine ⟨_,by simp [Instr.sliceAt,Instr.sureAddr,run_underlying hu,Instr.sliceBounds,run_sizeOf' hi,run_bound h.1 (show a≤(n:Nat) by omega)]; rfl,?_⟩
        have:=key a.toNat (by omega)
        rw [this]
        exact .sc _ rfl
      · rename_i hac
        rw [if_neg hac]
        cases ulo <;> cases uhi <;> simp only [oRep] at hlo hhi
        rename_i k a v
        cases hlo
        have e0:a.toNat=n:=by omega
        refine ⟨_,by simp [Instr.sliceAt,Instr.slice,run_underlying hu,Instr.sliceBounds,run_sizeOf' hi,run_bound h.1 (show a≤(n:Nat) by omega)]; rfl,?_⟩
        simp only [e0,Nat.sub_self,if_true]
        exact .emp _ 0 (Nat.zero_le _)
    · cases ulo <;> cases uhi <;> simp only [oRep] at hlo hhi
      rename_i k a v
      cases hhi
      refine ⟨_,by simp [Instr.sliceAt,Instr.sureAddr,run_underlying hu,Instr.sliceBounds,run_sizeOf' hi,run_bound h.1 (show a≤(n:Nat) by omega)]; rfl,?_⟩
      have:=key 0 (.inl rfl)
      simp at this ⊢
      first | exact .sc _ rfl | (rw [this]; exact .sc _ rfl) | (rw [show (⟨b0,o,none⟩:Addr).add 0=⟨b0,o,none⟩ from rfl]; simp only [ite_self]; exact .sc _ rfl)
    · cases ulo <;> cases uhi <;> simp only [oRep] at hlo hhi
      rename_i k a k' b v v'
      cases hlo; cases hhi
      refine ⟨_,by simp [Instr.sliceAt,Instr.sureAddr,run_underlying hu,Instr.sliceBounds,run_sizeOf' hi,run_bound (show 0≤b by omega) (show b≤(n:Nat) by omega),run_bound h.1 (show a≤(b.toNat:Nat) by omega)]; rfl,?_⟩
      have:=key a.toNat (by omega)
      rw [this]
      exact .sc _ rfl
    · exact h.elim
  · exact h.elim
theorem vsslc_sound {t:TypeId} (hu:P.underlying t=some .string) {x:V} {u:Value} {lo hi':Option V} {ulo uhi:Option Value} (hx:Rep1 G x u) (hlo:oRep G lo ulo) (hhi:oRep G hi' uhi) (h:(vsslc x lo hi').1) :
    ∃ r,(Instr.sliceAt t u ulo uhi none).run P w=.ok r w∧Rep1 G (vsslc x lo hi').2 r:=by
  unfold vsslc at h ⊢
  split at h
  · rename_i s
    cases hx
    split at h
    · cases ulo <;> cases uhi <;> simp only [oRep] at hlo hhi
      exact ⟨_,by simp [Instr.sliceAt,Instr.slice,run_underlying hu,Instr.sliceBounds],.sc _ rfl⟩
    · cases ulo <;> cases uhi <;> simp only [oRep] at hlo hhi
      rename_i k a v
      cases hlo
      exact ⟨_,by simp [Instr.sliceAt,Instr.slice,run_underlying hu,Instr.sliceBounds,run_bound h.1 (show a≤(s.size:Nat) by omega)],.sc _ rfl⟩
    · cases ulo <;> cases uhi <;> simp only [oRep] at hlo hhi
      rename_i k a v
      cases hhi
      exact ⟨_,by simp [Instr.sliceAt,Instr.slice,run_underlying hu,Instr.sliceBounds,run_bound h.1 (show a≤(s.size:Nat) by omega)],.sc _ rfl⟩
    · cases ulo <;> cases uhi <;> simp only [oRep] at hlo hhi
      rename_i k a k' b v v'
      cases hlo; cases hhi
      exact ⟨_,by simp [Instr.sliceAt,Instr.slice,run_underlying hu,Instr.sliceBounds,run_bound (show 0≤b by omega) (show b≤(s.size:Nat) by omega),run_bound h.1 (show a≤(b.toNat:Nat) by omega)],.sc _ rfl⟩
    · exact h.elim
  · exact h.elim
structure RepL (G:Gh) (cs:List V) (vs:Array Value):Prop where
  len:vs.size=cs.length
  one:∀ (i:Nat) (v:Value),vs[i]?=some v→v.oneCell'=true
  rep:∀ (i:Nat) (c:V) (v:Value),cs[i]?=some c→vs[i]?=some v→Rep1 G c v
theorem Rep1.cells {d:V} {v:Value} (h:Rep1 G d v) (h0:d.cells.length ≠ 0):RepL G d.cells v.cells:=by
  have one:∀ {d:V} {v:Value},Rep1 G d v→v.oneCell'=true→d.cells=[d]→v.cells=#[v]→RepL G d.cells v.cells:=fun {d v} h h1 e1 e2=>by
    rw [e1,e2]
    refine ⟨rfl,fun i u hu=>?_,fun i c u hc hu=>?_⟩
    · cases i <;> simp at hu
      subst hu; exact h1
    · cases i <;> simp at hu hc
      subst hu; subst hc; exact h
  cases h with
  | any=>simp [V.cells] at h0
  | und=>simp [V.cells] at h0
  | sc _ h1=>exact one (.sc _ h1) h1 rfl (by cases v <;> first | rfl | simp [Value.oneCell'] at h1)
  | agg cs vs hl h1 hr=>exact ⟨hl,h1,hr⟩
  | tup=>simp [V.cells] at h0
  | nil own ho hn=>exact one (.nil own ho hn) rfl rfl rfl
  | emp a cap hm own he=>exact one (.emp a cap hm own he) rfl rfl rfl
  | sl own l b o k cap u hk hF h1 hr hcap hm ho hown hfull=>exact one (.sl own l b o k cap u hk hF h1 hr hcap hm ho hown hfull) rfl rfl rfl
  | ep cs off b o u hF h1 hr=>exact one (.ep cs off b o u hF h1 hr) rfl rfl rfl
theorem fold_get (off:Nat):∀ (ds:List Value) (n:Nat) (vs:Array Value) (i:Nat),((ds.zipIdx n).foldl (fun cs (p:Value × Nat)=>cs.setIfInBounds (off + p.2) p.1) vs)[i]? =
    if off + n≤i∧i < off + n + ds.length∧i < vs.size then ds[i - (off + n)]? else vs[i]?
  | [],n,vs,i=>by simp; intro h1 h2; omega
  | d :: ds,n,vs,i=>by
    rw [List.zipIdx_cons,List.foldl_cons,fold_get off ds (n + 1)]
    simp only [Array.size_setIfInBounds,List.length_cons,Array.getElem?_setIfInBounds]
    by_cases h:off + n=i
    · subst h
      rw [if_neg (by omega)]
      by_cases h2:off + n < vs.size
      · simp [h2]
      · have hn:vs[off + n]?=none:=Array.getElem?_eq_none (by omega)
        simp [h2]
    · by_cases h2:off + (n + 1)≤i∧i < off + (n + 1) + ds.length∧i < vs.size
      · rw [if_pos h2,if_pos (by omega),show i - (off + n)=(i - (off + (n + 1))) + 1 by omega,List.getElem?_cons_succ]
      · rw [if_neg h2,if_neg h,if_neg (by omega)]
theorem fold_size (off:Nat):∀ (ds:List Value) (n:Nat) (vs:Array Value),((ds.zipIdx n).foldl (fun cs (p:Value × Nat)=>cs.setIfInBounds (off + p.2) p.1) vs).size=vs.size
  | [],n,vs=>rfl
  | d :: ds,n,vs=>by rw [List.zipIdx_cons,List.foldl_cons,fold_size off ds (n + 1)]; simp
theorem RepL.splice {cs ds:List V} {vs us:Array Value} (h:RepL G cs vs) (hd:RepL G ds us) {off:Nat} (hb:off + ds.length≤cs.length) :
    RepL G (splice cs off ds) (us.zipIdx.foldl (fun cs (p:Value × Nat)=>cs.setIfInBounds (off + p.2) p.1) vs):=by
  have e:us.zipIdx.foldl (fun cs (p:Value × Nat)=>cs.setIfInBounds (off + p.2) p.1) vs=(us.toList.zipIdx 0).foldl (fun cs (p:Value × Nat)=>cs.setIfInBounds (off + p.2) p.1) vs:=by
    rw [← Array.foldl_toList]; simp
  rw [e]
  have hl:=h.len
  have hl2:=hd.len
  have get:=fold_get off us.toList 0 vs
  have slen:(Proofs.YtnjmddlgpcnpeaaGreat.splice cs off ds).length=cs.length:=by simp [Proofs.YtnjmddlgpcnpeaaGreat.splice]; omega
  have sget:∀ i,(Proofs.YtnjmddlgpcnpeaaGreat.splice cs off ds)[i]?=if off≤i∧i < off + ds.length then ds[i - off]? else cs[i]?:=fun i=>by
    unfold Proofs.YtnjmddlgpcnpeaaGreat.splice
    rw [List.append_assoc,List.getElem?_append]
    have ht:(cs.take off).length=off:=by simp; omega
    rw [ht]
    by_cases h1:i < off
    · rw [if_pos h1,if_neg (by omega),List.getElem?_take,if_pos h1]
    · rw [if_neg h1,List.getElem?_append]
      by_cases h2:i - off < ds.length
      · rw [if_pos h2,if_pos (by omega)]
      · rw [if_neg h2,if_neg (by omega),List.getElem?_drop]
        congr 1; omega
  refine ⟨by rw [fold_size,slen,hl],fun i v hv=>?_,fun i c v hc hv=>?_⟩
  · rw [get] at hv
    split at hv
    · exact hd.one _ v (by simpa using hv)
    · exact h.one _ v hv
  · rw [get] at hv
    rw [sget] at hc
    by_cases h2:off≤i∧i < off + ds.length
    · rw [if_pos h2] at hc
      rw [if_pos (by simp; omega)] at hv
      exact hd.rep _ c v hc (by simpa using hv)
    · rw [if_neg h2] at hc
      rw [if_neg (by simp; omega)] at hv
      exact h.rep _ c v hc hv
theorem vbinb_sound {neg:Bool} {t:TypeId} (hu:P.underlying t=some .bool) {x y:V} {u v:Value} (ox oy:Operand) (hx:Rep1 G x u) (hy:Rep1 G y v) (h:(vbinb neg x y).1) (w:World) :
    ∃ r,(do eqGuard (if neg then .neq else .eql) t ox oy u v; binOp (if neg then .neq else .eql) t u v:Sem Value).run P w=.ok r w∧Rep1 G (vbinb neg x y).2 r:=by
  unfold vbinb at h ⊢
  split at h
  · rename_i a b
    cases hx; cases hy
    cases neg
    · exact ⟨.bool (a == b),by simp [eqGuard,run_eql_bool w t a b hu],.sc _ rfl⟩
    · exact ⟨.bool (!(a == b)),by simp [eqGuard,run_neq_bool w t a b hu],.sc _ rfl⟩
  · exact h.elim
theorem equalIn_slice {t e:TypeId} (hu:P.underlying t=some (.slice e)) (d:Nat) (A0:Option Addr) (n c:Nat) (w:World):(Op.equalIn (d + 1) t (.slice A0 n c) (.slice none 0 0)).run P w=.ok A0.isNone w:=by
  cases A0 <;> simp [Op.equalIn,run_underlying hu]
theorem equal_slice {t e:TypeId} (hu:P.underlying t=some (.slice e)) (A0:Option Addr) (n c:Nat) (w:World):(Op.equal t (.slice A0 n c) (.slice none 0 0)).run P w=.ok A0.isNone w:=equalIn_slice hu 9999 A0 n c w
theorem equalIn_ptr {t e:TypeId} (hu:P.underlying t=some (.pointer e)) (d:Nat) (A0:Option Addr) (w:World):(Op.equalIn (d + 1) t (.pointer A0) (.pointer none)).run P w=.ok A0.isNone w:=by
  cases A0 <;> simp [Op.equalIn,run_underlying hu]
theorem equal_ptr {t e:TypeId} (hu:P.underlying t=some (.pointer e)) (A0:Option Addr) (w:World):(Op.equal t (.pointer A0) (.pointer none)).run P w=.ok A0.isNone w:=equalIn_ptr hu 9999 A0 w
theorem isnil_run {t e:TypeId} (hu:P.underlying t=some (.slice e)) (A0:Option Addr) (n c:Nat) (neg:Bool) (ox oy:Operand) (w:World) :
    (do eqGuard (if neg then .neq else .eql) t ox oy (.slice A0 n c) (.slice none 0 0); binOp (if neg then .neq else .eql) t (.slice A0 n c) (.slice none 0 0):Sem Value).run P w=.ok (.bool (if neg then !A0.isNone else A0.isNone)) w:=by
  cases neg
  · have:=equal_slice hu A0 n c w
    simp only [Bool.false_eq_true,if_false,binOp]
    simp [eqGuard,this]
  · have:=equal_slice hu A0 n c w
    simp only [if_true,binOp]
    simp [eqGuard,this]
theorem visnil_sound {neg:Bool} {t e:TypeId} (hu:P.underlying t=some (.slice e)) {x:V} {u:Value} (ox oy:Operand) (hx:Rep1 G x u) (h:(visnil neg x).1) (w:World) :
    ∃ r,(do eqGuard (if neg then .neq else .eql) t ox oy u (.slice none 0 0); binOp (if neg then .neq else .eql) t u (.slice none 0 0):Sem Value).run P w=.ok r w∧Rep1 G (visnil neg x).2 r:=by
  unfold visnil at h ⊢
  split at h
  · cases hx with
    | nil=>exact ⟨_,isnil_run hu none 0 0 neg ox oy w,by cases neg <;> exact .sc _ rfl⟩
    | emp a cap hm own he=>simp at he
    | sl _ _ _ _ _ _ _ _ _ _ _ _ _ ho=>exact absurd rfl ho
  · cases hx with
    | nil _ ho=>exact absurd rfl (ho _ _)
    | emp a cap hm own he=>simp at he
    | sl _ _ b o k cap=>exact ⟨_,isnil_run hu _ _ _ neg ox oy w,by cases neg <;> exact .sc _ rfl⟩
  · cases hx with
    | sl _ _ b o k cap=>exact ⟨_,isnil_run hu _ _ _ neg ox oy w,by cases neg <;> exact .sc _ rfl⟩
  · cases hx with
    | nil _ ho hn=>exact absurd rfl hn
    | emp a cap hm own he=>exact ⟨_,isnil_run hu _ _ _ neg ox oy w,by cases neg <;> exact .sc _ rfl⟩
    | sl _ _ b o k cap=>exact ⟨_,isnil_run hu _ _ _ neg ox oy w,by cases neg <;> exact .sc _ rfl⟩
  · cases hx with
    | sc _ _=>exact ⟨_,isnil_run hu _ _ _ neg ox oy w,by cases neg <;> exact .sc _ rfl⟩
  · exact h.elim
theorem pnil_run {t e:TypeId} (hu:P.underlying t=some (.pointer e)) (A0:Option Addr) (neg:Bool) (ox oy:Operand) (w:World) :
    (do eqGuard (if neg then .neq else .eql) t ox oy (.pointer A0) (.pointer none); binOp (if neg then .neq else .eql) t (.pointer A0) (.pointer none):Sem Value).run P w=.ok (.bool (if neg then !A0.isNone else A0.isNone)) w:=by
  cases neg
  · have:=equal_ptr hu A0 w
    simp only [Bool.false_eq_true,if_false,binOp]
    simp [eqGuard,this]
  · have:=equal_ptr hu A0 w
    simp only [if_true,binOp]
    simp [eqGuard,this]
theorem vpnil_sound {neg:Bool} {t e:TypeId} (hu:P.underlying t=some (.pointer e)) {x:V} {u:Value} (ox oy:Operand) (hx:Rep1 G x u) (h:(vpnil neg x).1) (w:World) :
    ∃ r,(do eqGuard (if neg then .neq else .eql) t ox oy u (.pointer none); binOp (if neg then .neq else .eql) t u (.pointer none):Sem Value).run P w=.ok r w∧Rep1 G (vpnil neg x).2 r:=by
  unfold vpnil at h ⊢
  split at h
  · cases hx; exact ⟨_,pnil_run hu none neg ox oy w,by cases neg <;> exact .sc _ rfl⟩
  · cases hx; exact ⟨_,pnil_run hu _ neg ox oy w,by cases neg <;> exact .sc _ rfl⟩
  · cases hx; exact ⟨_,pnil_run hu _ neg ox oy w,by cases neg <;> exact .sc _ rfl⟩
  · exact h.elim
end
end
section
open Go Go.RowKit
section
variable {P:Program} {w0:Fr} {G:Gh} {st:St} {w:World} {A:Nat→V} {a:Act}
theorem RepL.mono {H:Gh} (hle:G.le H) {cs:List V} {vs:Array Value} (h:RepL G cs vs):RepL H cs vs:=⟨h.len,h.one,fun i c v hc hv=>(h.rep i c v hc hv).mono hle⟩
theorem RepL.agg {cs:List V} {vs:Array Value} (h:RepL G cs vs):Rep1 G (.agg cs) (.agg vs):=.agg cs vs h.len h.one h.rep
theorem fill_sound (place:Nat→Option (Nat × Nat)):∀ (ps:List (Nat × Nat × V)) (parts:List (Nat × Value)) (cs:List V) (vs:Array Value),
    ps.length=parts.length→(∀ (i:Nat) (p:Nat × Nat × V) (q:Nat × Value),ps[i]?=some p→parts[i]?=some q→place q.1=some (p.1,p.2.1)∧Rep1 G p.2.2 q.2)→(fillV cs ps).1→RepL G cs vs →
    ∃ us,Instr.fill place vs parts=some us∧RepL G (fillV cs ps).2 us
  | [],[],cs,vs,_,_,_,h=>⟨vs,rfl,h⟩
  | [],q :: parts,_,_,hl,_,_,_=>by simp at hl
  | p :: ps,[],_,_,hl,_,_,_=>by simp at hl
  | (off,size,d) :: ps,(i,v) :: parts,cs,vs,hl,hp,hf,h=>by
    obtain ⟨hpl,hr⟩:=hp 0 _ _ rfl rfl
    simp only at hpl hr
    simp only [fillV] at hf ⊢
    obtain ⟨h1,h2,h3,h4⟩:=hf
    have hc:=hr.cells (by omega)
    have hs:=h.splice hc (off:=off) (by omega)
    obtain ⟨us,hu,hus⟩:=fill_sound place ps parts _ _ (by simpa using hl) (fun j p q hp1 hq=>hp (j + 1) p q (by simpa using hp1) (by simpa using hq)) h4 hs
    refine ⟨us,?_,hus⟩
    have e1:v.cells.size=size:=by rw [hc.len,h1]
    have e2:=h.len
    simp only [Instr.fill,hpl]
    rw [if_neg (by simp; omega)]
    exact hu
theorem zero_sound {t:TypeId} {z:List V} (h:zeroCells' P t=some z) (w:World):∃ v,(zeroValue t).run P w=.ok v w∧RepL G z v.cells∧v.cells.size=z.length:=by
  unfold zeroCells' at h
  split at h
  · rename_i i hi
    split at h
    · rename_i v hv
      split at h
      · rename_i hc
        simp only [Option.some.injEq] at h
        subst h
        refine ⟨v,by simp [zeroValue,typeInfo,hi,hv],⟨by simp,fun j u hu=>?_,fun j c u hcc hu=>?_⟩,by simp⟩
        · simp only [Bool.and_eq_true,List.all_eq_true,Array.mem_toList_iff] at hc
          exact hc.2 u (Array.mem_of_getElem? hu)
        · simp only [Bool.and_eq_true,List.all_eq_true,Array.mem_toList_iff] at hc
          simp only [List.getElem?_map,Array.getElem?_toList,hu,Option.map_some,Option.some.injEq] at hcc
          subst hcc
          exact cellV_rep G (hc.2 u (Array.mem_of_getElem? hu))
      · cases h
    · cases h
  · cases h
theorem mapM_run {α β:Type} (f:α→Option β) (g:α→Sem β) (hfg:∀ x y,f x=some y→∀ w,(g x).run P w=.ok y w):∀ (l:List α) (r:List β),l.mapM f=some r→∀ w,(l.mapM g).run P w=.ok r w
  | [],r,h,w=>by simp at h; subst h; simp
  | x :: l,r,h,w=>by
    simp only [List.mapM_cons,Option.pure_def,Option.bind_eq_bind,Option.bind_eq_some_iff,Option.some.injEq] at h
    obtain ⟨y,hy,ys,hys,rfl⟩:=h
    simp [List.mapM_cons,hfg x y hy w,mapM_run f g hfg l ys hys w]
theorem places_run {fields:Array Field} {pl:Array (Nat × Nat)} (h:(fields.mapM fun f=>(P.info? f.type).map fun i=>(f.offset,i.size))=some pl) (w:World) :
    ((fields.mapM fun f=>do pure (f.offset,← sizeOf f.type):Sem (Array (Nat × Nat)))).run P w=.ok pl w:=by
  rw [Array.mapM_eq_mapM_toList] at h ⊢
  simp only [Option.map_eq_map,Option.map_eq_some_iff] at h
  obtain ⟨l,hl,rfl⟩:=h
  have:=mapM_run (P:=P) (fun f:Field=>(P.info? f.type).map fun i=>(f.offset,i.size)) (fun f=>do pure (f.offset,← sizeOf f.type)) (fun x y hxy w=>by
    simp only [Option.map_eq_some_iff] at hxy
    obtain ⟨i,hi,rfl⟩:=hxy
    simp [run_sizeOf' hi]) fields.toList l hl w
  rw [Sem.run_map,this]; rfl
theorem build_sound {t:TypeId} {z:List V} {pl:Array (Nat × Nat)} (hz:zeroCells' P t=some z) (hpl:places P t=some pl) {parts:List (Nat × Value)} {ps:List (Nat × Nat × V)} (hlen:ps.length=parts.length)
    (hp:∀ (i:Nat) (p:Nat × Nat × V) (q:Nat × Value),ps[i]?=some p→parts[i]?=some q→pl[q.1]?=some (p.1,p.2.1)∧Rep1 G p.2.2 q.2) (h:(fillV z ps).1) (w:World) :
    ∃ r,(Instr.build t parts.toArray).run P w=.ok r w∧Rep1 G (.agg (fillV z ps).2) r:=by
  obtain ⟨v,hv,hvr,_⟩:=zero_sound (G:=G) hz w
  unfold places at hpl
  split at hpl
  · rename_i fields hu
    obtain ⟨us,hf,hus⟩:=fill_sound (fun i=>pl[i]?) ps parts z v.cells hlen hp h hvr
    refine ⟨.agg us,?_,hus.agg⟩
    simp only [Instr.build,Sem.run_bind,hv,Result.andThen_ok,run_underlying hu,places_run hpl,hf]
    rfl
  · rename_i n elem hu
    simp only [Option.map_eq_some_iff] at hpl
    obtain ⟨i,hi,rfl⟩:=hpl
    obtain ⟨us,hf,hus⟩:=fill_sound (fun j=>some (j * i.size,i.size)) ps parts z v.cells hlen (fun j p q h1 h2=>by
      obtain ⟨h3,h4⟩:=hp j p q h1 h2
      refine ⟨?_,h4⟩
      simp only [Array.getElem?_map,Array.getElem?_range,Option.map_eq_some_iff] at h3
      obtain ⟨m,hm,e⟩:=h3
      split at hm
      · simp only [Option.some.injEq] at hm; subst hm; rw [e]
      · cases hm) h hvr
    refine ⟨.agg us,?_,hus.agg⟩
    simp only [Instr.build,Sem.run_bind,hv,Result.andThen_ok,run_underlying hu,run_sizeOf' hi,hf]
    rfl
  · cases hpl
theorem strip_rep {d:V} {v:Value} (h:Rep1 G d v):Rep1 G (strip d) v:=by
  have one:∀ {d:V} {v:Value},Rep1 G d v→Rep1 G (strip1 d) v:=fun {d v} h=>by
    cases h with
    | nil own ho=>exact .nil .no (fun g k e=>by cases e)
    | emp a cap hm=>exact .emp a cap hm
    | sl own l b o k cap u hk hF h1 hr hcap hm ho hown=>exact .sl .no l b o k cap u hk hF h1 hr hcap hm (by simp) (fun g k' e=>by cases e)
    | any=>exact .any _
    | und=>exact .und
    | sc _ h1=>exact .sc _ h1
    | agg cs vs hl h1 hr=>exact .agg cs vs hl h1 hr
    | tup cs vs hl hr=>exact .tup cs vs hl hr
    | ep cs off b o u hF h1 hr=>exact .ep cs off b o u hF h1 hr
  cases h with
  | agg cs vs hl h1 hr =>
    refine .agg _ vs (by simpa using hl) h1 (fun i c v hc hv=>?_)
    simp only [List.getElem?_map,Option.map_eq_some_iff] at hc
    obtain ⟨c',hc',rfl⟩:=hc
    exact one (hr i c' v hc' hv)
  | any=>exact one (.any _)
  | und=>exact one .und
  | sc _ h1=>exact one (.sc _ h1)
  | tup cs vs hl hr=>exact one (.tup cs vs hl hr)
  | nil own ho hn=>exact one (.nil own ho hn)
  | emp a cap hm own he=>exact one (.emp a cap hm own he)
  | sl own l b o k cap u hk hF h1 hr hcap hm ho hown hfull=>exact one (.sl own l b o k cap u hk hF h1 hr hcap hm ho hown hfull)
  | ep cs off b o u hF h1 hr=>exact one (.ep cs off b o u hF h1 hr)
theorem allLen_of' {size:Nat}:∀ {l:List V},allSz size l→allLen size l
  | [],_=>trivial
  | d :: ds,h=>⟨h d (by simp),allLen_of' fun x hx=>h x (by simp [hx])⟩
theorem allLen_get {size:Nat}:∀ {l:List V} (_:allLen size l) {i:Nat} {d:V} (_:l[i]?=some d),d.cells.length=size
  | d :: ds,h,0,d',hd=>by simp at hd; subst hd; exact h.1
  | d :: ds,h,i + 1,d',hd=>allLen_get h.2 (by simpa using hd)
theorem allLen_flat {size:Nat}:∀ {l:List V} (_:allLen size l),(l.flatMap V.cells).length=l.length * size
  | [],_=>by simp
  | d :: ds,h=>by simp only [List.flatMap_cons,List.length_append,h.1,allLen_flat h.2,List.length_cons,Nat.add_mul]; omega
theorem flat_get {size:Nat}:∀ {l:List V} (_:allLen size l) (i j:Nat) {d:V} (_:l[i]?=some d) (_:j < size),(l.flatMap V.cells)[i * size + j]?=d.cells[j]?
  | d :: ds,h,0,j,d',hd,hj=>by
    simp at hd; subst hd
    rw [List.flatMap_cons,List.getElem?_append_left (by rw [h.1]; omega)]
    congr 1; omega
  | d :: ds,h,i + 1,j,d',hd,hj=>by
    rw [List.flatMap_cons,List.getElem?_append_right (by rw [h.1,Nat.add_mul]; omega),h.1]
    rw [show (i + 1) * size + j - size=i * size + j by rw [Nat.add_mul]; omega]
    exact flat_get h.2 i j (by simpa using hd) hj
theorem row_rep {b size cap:Nat} {l:List V} {us:Array Value} (hl:allLen size l) (hus:RepL G (l.flatMap V.cells) us) (hF:∀ o v,us[o]?=some v→G.F b o=some v) (hcap:l.length≤cap) (hm:cap≤maxLen) (own:Tk) (ho:own ≠ .nil)
    (hown:∀ g k',own=.own g k'→b=g∧k'=size∧∃ e,G.O g=some (e,size,cap)) (hfull:own=.full→cap=l.length:=by simp):Rep1 G (.sl own l) (.slice (some ⟨b,0,none⟩) l.length cap):=by
  have hlen:=hus.len
  rw [allLen_flat hl] at hlen
  have hlt:∀ i j,i < l.length→j < size→i * size + j < us.size:=fun i j hi hj=>by
    rw [hlen]
    have:(i + 1) * size≤l.length * size:=Nat.mul_le_mul_right _ hi
    rw [Nat.add_mul] at this; omega
  refine .sl own l b 0 size cap (fun i j=>us.getD (i * size + j) undef) (fun i d hd=>allLen_get hl hd) (fun i j hi hj=>?_) (fun i j hi hj=>?_) (fun i d j c hd hc=>?_) hcap hm ho (fun g k' e=>⟨(hown g k' e).1,rfl,(hown g k' e).2⟩) hfull
  · have:=hlt i j hi hj
    rw [Nat.zero_add]
    exact hF _ _ (by simp [Array.getElem?_eq_getElem this])
  · have:=hlt i j hi hj
    exact hus.one _ _ (by rw [Array.getElem?_eq_getElem this]; simp [this])
  · have hj:j < size:=by have:=(List.getElem?_eq_some_iff.1 hc).1; rw [allLen_get hl hd] at this; exact this
    have:=hlt i j (List.getElem?_eq_some_iff.1 hd).1 hj
    refine hus.rep (i * size + j) c _ (by rw [flat_get hl i j hd hj]; exact hc) (by rw [Array.getElem?_eq_getElem this]; simp [this])
def Gh.addRow (G:Gh) (H:Nat) (us:Array Value) (e:TypeId) (size cap m:Nat):Gh :=
  ⟨fun b o=>if b=H then (if o < m * size then us[o]? else none) else G.F b o,fun g=>if g=H then some (e,size,cap) else G.O g⟩
theorem RepW.addRow {H:Nat} (h:RepW w0 G st w) (hH:w.heap.size=H) (us:Array Value) (e:TypeId) (size cap m:Nat) (hs:us.size=cap * size) (hmc:m≤cap) (hc:cap≤maxLen) :
    G.le (G.addRow H us e size cap m)∧RepW w0 (G.addRow H us e size cap m) (st.use H m) (w.alloc (.cells us e)):=by
  subst hH
  have hF:=fun o=>h.newF (b:=w.heap.size) (Nat.le_refl _) o
  have hO:=h.newO (b:=w.heap.size) (Nat.le_refl _)
  have hle:G.le (G.addRow w.heap.size us e size cap m):=by
    refine ⟨fun b o v hf=>?_,fun g x hx=>?_⟩
    · simp only [Gh.addRow]
      split
      · rename_i e; subst e; rw [hF o] at hf; cases hf
      · exact hf
    · simp only [Gh.addRow]
      split
      · rename_i e; subst e; rw [hO] at hx; cases hx
      · exact hx
  have ha:=h.alloc (.cells us e)
  have hsz:=h.sz
  refine ⟨hle,fun b o v hf=>?_,fun g x hx=>?_,fun b cs hb=>?_,fun g m' hg=>?_,?_,ha.bel,fun b x hx=>?_⟩
  · simp only [Gh.addRow] at hf
    split at hf
    · rename_i e; subst e
      split at hf
      · rw [World.cell?_alloc_new]; exact hf
      · cases hf
    · exact ha.F b o v hf
  · simp only [Gh.addRow] at hx
    split at hx
    · rename_i e; subst e; simp
    · exact ha.O g x hx
  · obtain ⟨h1,h2,h3,h4,h5⟩:=ha.box b cs hb
    have hne:b ≠ w.heap.size:=by omega
    exact ⟨by simp only [St.use]; omega,h2,fun o=>by simp only [Gh.addRow,if_neg hne]; exact h3 o,by simp only [Gh.addRow,if_neg hne]; exact h4,h5.mono hle⟩
  · simp only [St.use] at hg ⊢
    split at hg
    · rename_i e'; subst e'
      injection hg with hg; subst hg
      refine ⟨by omega,h.newFree,e,size,cap,us,by simp [Gh.addRow],heap_alloc_new _ _,hs,hmc,hc,fun o ho=>?_⟩
      simp only [Gh.addRow,if_true]
      rw [if_neg (by omega)]
    · obtain ⟨h1,h2,e',size',cap',cur,h3,h4,h5,h6,h7,h8⟩:=ha.own g m' hg
      have hne:g ≠ w.heap.size:=by omega
      exact ⟨by omega,h2,e',size',cap',cur,by simp only [Gh.addRow,if_neg hne]; exact h3,h4,h5,h6,h7,fun o ho=>by simp only [Gh.addRow,if_neg hne]; exact h8 o ho⟩
  · simp only [St.use,World.size_alloc]; omega
  · have hne:b ≠ w.heap.size:=by have:=h.frLt hx; omega
    exact ⟨(ha.fr b x hx).1,fun o=>by simp only [Gh.addRow,if_neg hne]; exact (h.fr b x hx).2.1 o,by simp only [Gh.addRow,if_neg hne]; exact (h.fr b x hx).2.2⟩
def Gh.more (G:Gh) (g:Nat) (us:Array Value) (a b:Nat):Gh:={ G with F:=fun b' o=>if b'=g∧a≤o∧o < b then us[o]? else G.F b' o }
theorem RepW.more (h:RepW w0 G st w) {g m:Nat} (hg:st.own g=some m) {e:TypeId} {size cap:Nat} (hO:G.O g=some (e,size,cap)) {cur:Array Value} {e':TypeId} (hh:w.heap[g]?=some (.cells cur e' (0,0))) (us:Array Value) (m':Nat) (hm:m≤m') (hmc:m'≤cap) (hus:us.size=cap * size)
    (hsame:∀ o,o < m * size→us[o]?=cur[o]?):G.le (G.more g us (m * size) (m' * size))∧RepW w0 (G.more g us (m * size) (m' * size)) (st.use g m') (w.setRow g us):=by
  obtain ⟨k1,k2,e2,size2,cap2,cur2,k3,k4,k5,k6,k7,k8⟩:=h.own g m hg
  rw [hO] at k3; cases k3
  rw [hh] at k4; cases k4
  have hmul:m * size≤m' * size:=Nat.mul_le_mul_right _ hm
  have hle:G.le (G.more g us (m * size) (m' * size)):=by
    refine ⟨fun b o v hf=>?_,fun g x hx=>hx⟩
    simp only [Gh.more]
    split
    · rename_i hc
      rw [hc.1,k8 o hc.2.1] at hf; cases hf
    · exact hf
  have hset:=setRow_heap w g cur us _ _ hh
  refine ⟨hle,fun b o v hf=>?_,fun g' x hx=>by simp; exact h.O g' x hx,fun b cs hb=>?_,fun g' m2 hg'=>?_,?_,?_,fun c x hx=>?_⟩
  · simp only [Gh.more] at hf
    split at hf
    · rename_i hc
      rw [hc.1,cell_of_row _ g o us _ _ hset]; exact hf
    · rename_i hc
      by_cases hb:b=g
      · subst hb
        have hlt:o < m * size:=by
          rcases Nat.lt_or_ge o (m * size) with hlt | hge
          · exact hlt
          · rw [k8 o hge] at hf; cases hf
        have:=h.F b o v hf
        rw [cell_of_row _ b o cur _ _ hh] at this
        rw [cell_of_row _ b o us _ _ hset,hsame o hlt]; exact this
      · rw [cell_setRow_other w g us _ hb]; exact h.F b o v hf
  · obtain ⟨h1,h2,h3,h4,h5⟩:=h.box b cs hb
    have hne:b ≠ g:=fun e=>by subst e; rw [hO] at h4; cases h4
    exact ⟨by simp only [St.use]; omega,h2,fun o=>by simp only [Gh.more]; rw [if_neg (fun hc=>hne hc.1)]; exact h3 o,h4,by rw [setRow_other w g b us hne]; exact h5.mono hle⟩
  · simp only [St.use] at hg' ⊢
    split at hg'
    · rename_i e3; subst e3
      injection hg' with hg'; subst hg'
      refine ⟨by omega,k2,e,size,cap,us,hO,?_,hus,hmc,k7,fun o ho=>?_⟩
      · obtain ⟨h1,h2,e3,size3,cap3,cur3,j1,j2,_⟩:=h.own g' m hg
        rw [hO] at j1; cases j1
        rw [hh] at j2; cases j2
        exact hset
      · simp only [Gh.more]
        rw [if_neg (by omega)]
        exact k8 o (by omega)
    · rename_i hne
      obtain ⟨h1,h2,e3,size3,cap3,cur3,h3,h4,h5,h6,h7,h8⟩:=h.own g' m2 hg'
      exact ⟨by omega,h2,e3,size3,cap3,cur3,h3,by rw [setRow_other w g g' us hne]; exact h4,h5,h6,h7,fun o ho=>by simp only [Gh.more]; rw [if_neg (fun hc=>hne hc.1)]; exact h8 o ho⟩
  · have:=h.sz; simp only [St.use,size_setRow]; omega
  · refine ⟨h.bel.os,h.bel.tape,h.bel.output,by simp; exact h.bel.size,fun i hi=>?_⟩
    rw [setRow_other w g i us (by have:=k2.1; omega)]
    exact h.bel.block i hi
  · have hne:c ≠ g:=fun e=>by subst e; rw [k2.2] at hx; cases hx
    exact ⟨by rw [setRow_other w g c us hne]; exact (h.fr c x hx).1,fun o=>by simp only [Gh.more]; rw [if_neg (fun hc=>hne hc.1)]; exact (h.fr c x hx).2.1 o,(h.fr c x hx).2.2⟩
def Own (size:Nat) (st:St) (v:V) (l:List V):Prop:=(v=.sl .nil []∧l=[]) ∨ ∃ g,v=.sl (.own g size) l∧st.own g=some l.length∧g < st.sz
structure AppSt (st:St) (x:V) (st':St) (r:V):Prop where
  box:st'.box=st.box
  lt:(∀ g m,st.own g=some m→g < st.sz)→∀ g m,st'.own g=some m→g < st'.sz
  sz:st.sz≤st'.sz
  own:∀ g m,st.own g=some m→(∀ l k,x ≠ .sl (.own g k) l)→st'.own g=some m
  tok:∀ g k l,r=.sl (.own g k) l→(∃ l',x=.sl (.own g k) l') ∨ st.sz≤g
theorem use_lt {st:St} {g0 m0:Nat} (h:∀ g m,st.own g=some m→g < st.sz):∀ g m,(st.use g0 m0).own g=some m→g < (st.use g0 m0).sz:=fun g m hg=>by
  simp only [St.use] at hg ⊢
  split at hg
  · omega
  · have:=h g m hg; omega
theorem Rep1.flat {own:Tk} {l:List V} {b:Addr} {n c size:Nat} (h:Rep1 G (.sl own l) (.slice (some b) n c)) (hw:RepW w0 G st w) (hs:allSz size l) :
    n=l.length∧∃ us:Array Value,RepL G (l.flatMap V.cells) us∧us.size=l.length * size∧∀ (j:Nat) (v:Value),us.toList[j]?=some v→w.cell? (b.add j)=some v:=by
  cases h with
  | emp=>exact ⟨rfl,#[],⟨rfl,fun i v hv=>by simp at hv,fun i c v hc=>by simp at hc⟩,by simp,fun j v hv=>by simp at hv⟩
  | sl _ _ b o k cap u hk hF h1 hr hcap hm ho hown =>
    refine ⟨rfl,?_⟩
    have key:∀ (l':List V) (i0:Nat),(∀ (i:Nat) (d:V),l'[i]?=some d→l[i0 + i]?=some d)→∃ us:Array Value,RepL G (l'.flatMap V.cells) us∧us.size=l'.length * size ∧
        ∀ (j:Nat) (v:Value),us.toList[j]?=some v→w.cell? ((⟨b,o,none⟩:Addr).add (i0 * size + j))=some v:=by
      intro l'
      induction l' with
      | nil=>exact fun i0 _=>⟨#[],⟨rfl,fun i v hv=>by simp at hv,fun i c v hc=>by simp at hc⟩,by simp,fun j v hv=>by simp at hv⟩
      | cons d ds ih =>
        intro i0 hget
        obtain ⟨us,h2,h3,h4⟩:=ih (i0 + 1) (fun i d' hd=>by rw [show i0 + 1 + i=i0 + (i + 1) by omega]; exact hget (i + 1) d' (by simpa using hd))
        have hd0:=hget 0 d rfl
        rw [Nat.add_zero] at hd0
        have hlt:=(List.getElem?_eq_some_iff.1 hd0).1
        have hdl:d.cells.length=size:=hs d (List.mem_of_getElem? hd0)
        have hkk:=hk _ _ hd0
        have hks:k=size:=by omega
        subst hks
        let vs:Array Value:=((List.range k).map fun j=>u i0 j).toArray
        have hvs:vs.size=k:=by simp [vs]
        have hvg:∀ (j:Nat) (v:Value),vs[j]?=some v→j < k∧v=u i0 j:=fun j v hv=>by
          simp only [vs,List.getElem?_toArray,List.getElem?_map] at hv
          have hj:j < k:=by
            rcases Nat.lt_or_ge j k with h | h
            · exact h
            · rw [List.getElem?_eq_none (by simpa using h)] at hv; simp at hv
          rw [List.getElem?_range hj] at hv
          simp at hv
          exact ⟨hj,hv.symm⟩
        refine ⟨vs ++ us,⟨?_,fun i v hv=>?_,fun i c v hc hv=>?_⟩,?_,fun j v hv=>?_⟩
        · simp only [List.flatMap_cons,List.length_append,Array.size_append,hvs,hdl,h2.len]
        · rw [Array.getElem?_append] at hv
          split at hv
          · obtain ⟨hj,rfl⟩:=hvg _ _ hv; exact h1 _ _ hlt hj
          · exact h2.one _ _ hv
        · rw [Array.getElem?_append,hvs] at hv
          rw [List.flatMap_cons,List.getElem?_append,hdl] at hc
          by_cases hi:i < k
          · rw [if_pos hi] at hv hc
            obtain ⟨hj,rfl⟩:=hvg _ _ hv
            exact hr _ _ _ _ hd0 hc
          · rw [if_neg hi] at hv hc
            exact h2.rep _ _ _ hc hv
        · simp only [Array.size_append,hvs,h3,List.length_cons,Nat.add_mul]; omega
        · rw [Array.toList_append,List.getElem?_append,Array.length_toList,hvs] at hv
          by_cases hi:j < k
          · rw [if_pos hi] at hv
            obtain ⟨hj,rfl⟩:=hvg j v (by simpa using hv)
            rw [addr_add,← Nat.add_assoc]
            exact hw.F _ _ _ (hF _ _ hlt hj)
          · rw [if_neg hi] at hv
            have:=h4 (j - k) v hv
            rwa [show (i0 + 1) * k + (j - k)=i0 * k + j by rw [Nat.add_mul]; omega] at this
    obtain ⟨us,h2,h3,h4⟩:=key l 0 (fun i d hd=>by rw [Nat.zero_add]; exact hd)
    exact ⟨us,h2,h3,fun j v hv=>by have:=h4 j v hv; rwa [Nat.zero_mul,Nat.zero_add] at this⟩
theorem u8sOf_get:∀ {l:List V} {ns:List Int},u8sOf l=some ns→l=ns.map fun n=>.sc (.int .u8 n)
  | [],ns,h=>by simp [u8sOf] at h; subst h; rfl
  | .sc (.int .u8 n) :: l,ns,h=>by
    simp only [u8sOf,Option.map_eq_some_iff] at h
    obtain ⟨m,hm,rfl⟩:=h
    rw [u8sOf_get hm]; rfl
  | .any :: l,ns,h=>by simp [u8sOf] at h
  | .und :: l,ns,h=>by simp [u8sOf] at h
  | .agg _ :: l,ns,h=>by simp [u8sOf] at h
  | .tup _ :: l,ns,h=>by simp [u8sOf] at h
  | .sl _ _ :: l,ns,h=>by simp [u8sOf] at h
  | .ep _ _ :: l,ns,h=>by simp [u8sOf] at h
  | .sc v :: l,ns,h=>by
    cases v with
    | int k n=>cases k <;> first | (simp only [u8sOf,Option.map_eq_some_iff] at h; obtain ⟨m,hm,rfl⟩:=h; rw [u8sOf_get hm]; rfl) | simp [u8sOf] at h
    | _=>simp [u8sOf] at h
theorem vb2s_sound {s d:TypeId} (h2:b2s? P s d=true) (hw:RepW w0 G st w) {x:V} {u:Value} (hx:Rep1 G x u) (h:(vb2s x).1):∃ r,(convert s d u).run P w=.ok r w∧Rep1 G (vb2s x).2 r:=by
  unfold b2s? at h2
  split at h2
  · rename_i e hs hd
    have he:P.underlying e=some (.int .u8):=by
      split at h2
      · assumption
      · cases h2
    unfold vb2s at h ⊢
    split at h
    · rename_i own l
      split at h
      · rename_i ns hns
        have hl:=u8sOf_get hns
        refine ⟨.string (strOf ns),?_,.sc _ rfl⟩
        have hsz:allSz 1 l:=fun d hd'=>by
          rw [hl] at hd'
          obtain ⟨n,_,rfl⟩:=List.mem_map.1 hd'
          rfl
        have hsl:∃ A0 n c,u=.slice A0 n c:=by cases hx <;> exact ⟨_,_,_,rfl⟩
        obtain ⟨A0,n,c,rfl⟩:=hsl
        rw [run_convert_bytes_string w s d e A0 n c hs he hd]
        cases A0 with
        | none =>
          cases hx
          simp [u8sOf] at hns
          subst hns
          rfl
        | some b =>
          obtain ⟨hn,us,hus,husz,huc⟩:=hx.flat hw hsz
          have hue:us=(ns.map (Value.int .u8)).toArray:=by
            have hlen:l.length=ns.length:=by rw [hl]; simp
            refine Array.ext_getElem? fun i=>?_
            by_cases hi:i < us.size
            · have h1:us[i]?=some us[i]:=Array.getElem?_eq_getElem hi
              have hin:i < ns.length:=by omega
              have hc:(l.flatMap V.cells)[i]?=some (.sc (.int .u8 ns[i])):=by
                have:=flat_get (allLen_of' hsz) i 0 (d:=.sc (.int .u8 ns[i])) (by rw [hl]; simp [hin]) (by omega)
                simpa [V.cells] using this
              have:=hus.rep i _ _ hc h1
              rw [h1,this.sc_inv]
              simp [hin]
            · rw [Array.getElem?_eq_none (by omega),Array.getElem?_eq_none (by simp; omega)]
          subst hn
          have hload:(loadCells b l.length).run P w=.ok (ns.map (Value.int .u8)).toArray w:=by
            have:=run_loadCells_list (P:=P) w b us.toList (fun j v hv=>huc j v hv)
            rw [show us.toList.length=l.length by simp [husz]] at this
            rw [this,← hue]
          rw [run_bytesToString w b l.length c ns hload]
          rfl
      · exact h.elim
    · exact h.elim
  · cases h2
theorem vb2sB_sound {s d:TypeId} (h2:b2s? P s d=true) (hw:RepW w0 G st w) {x:V} {u:Value} (hx:Rep1 G x u) (h:(vb2sB st x).1):∃ r,(convert s d u).run P w=.ok r w∧Rep1 G (vb2sB st x).2 r:=by
  unfold b2s? at h2
  split at h2
  · rename_i e hs hd
    have he:P.underlying e=some (.int .u8):=by
      split at h2
      · assumption
      · cases h2
    unfold vb2sB at h ⊢
    split at h
    · rename_i b o n c
      split at h
      · rename_i cs hb
        split at h
        · rename_i ns hns
          simp only [] at h ⊢
          refine ⟨.string (strOf ns),?_,.sc _ rfl⟩
          rw [hx.sc_inv,run_convert_bytes_string w s d e _ n c hs he hd]
          obtain ⟨h,hmo⟩:=h
          obtain ⟨uu,hc,h1,hr⟩:=hw.boxCells hb hmo
          have hl:=u8sOf_get hns
          have hlen:ns.length=n:=by
            have:=congrArg List.length hl
            simp only [List.length_take,List.length_drop,List.length_map] at this
            omega
          have hget:∀ j,j < n→uu (o + j)=.int .u8 (ns.getD j 0):=fun j hj=>by
            have h3:cs[o + j]?=some (.sc (.int .u8 (ns.getD j 0))):=by
              have h4:((cs.drop o).take n)[j]?=some (.sc (.int .u8 (ns.getD j 0))):=by
                rw [hl,List.getElem?_map,List.getD_eq_getElem?_getD,List.getElem?_eq_getElem (by omega)]
                rfl
              rw [List.getElem?_take,if_pos hj,List.getElem?_drop] at h4
              exact h4
            exact (hr _ _ h3).sc_inv
          have hload:(loadCells ⟨b,o,none⟩ n).run P w=.ok (ns.map (Value.int .u8)).toArray w:=by
            have:=run_loadCells_list (P:=P) w ⟨b,o,none⟩ (ns.map (Value.int .u8)) (fun j v hj=>by
              have hj':=(List.getElem?_eq_some_iff.1 hj).1
              rw [List.length_map] at hj'
              simp only [List.getElem?_map,Option.map_eq_some_iff] at hj
              obtain ⟨y,hy,rfl⟩:=hj
              have:=hc (o + j) (by omega)
              rw [Nat.zero_add] at this
              rw [addr_add,this,hget j (by omega)]
              simp [hy])
            rw [List.length_map,hlen] at this
            exact this
          rw [run_bytesToString w ⟨b,o,none⟩ n c ns hload]
          rfl
        · exact h.elim
      · exact h.elim
    · exact h.elim
  · cases h2
theorem vs2a_sound {arr e:TypeId} {i:TypeInfo} {n:Nat} (hu:P.underlying arr=some (.array n e)) (hi0:0 < i.size) {x:V} {u:Value} (hx:Rep1 G x u) (h:(vs2a n i.size x).1):∃ r,(Instr.arrayAt arr u).run P w=.ok r w∧Rep1 G (vs2a n i.size x).2 r:=by
  unfold vs2a at h ⊢
  split at h
  · rename_i own l
    obtain ⟨h1,h2,h3⟩:=h
    cases hx with
    | nil=>simp at h3
    | emp=>simp at h3
    | sl _ _ b o k cap uu hk hF hone hr hcap =>
      have hkk:k=i.size:=by
        have h0:l[0]?=some l[0]:=List.getElem?_eq_getElem h3
        rw [← hk 0 _ h0]
        exact h1 _ (List.getElem_mem h3)
      subst hkk
      have hfl:(l.flatMap V.cells).length=l.length * i.size:=allLen_flat (allLen_of' h1)
      have hdm:∀ j,j < (l.flatMap V.cells).length→j / i.size < l.length∧j % i.size < i.size∧j / i.size * i.size + j % i.size=j:=fun j hj=>by
        rw [hfl] at hj
        exact ⟨Nat.div_lt_of_lt_mul (by rw [Nat.mul_comm]; exact hj),Nat.mod_lt _ hi0,Nat.div_add_mod' _ _⟩
      refine ⟨.pointer (some ⟨b,o,none⟩),by simp [Instr.arrayAt,run_underlying hu]; omega,?_⟩
      have:=Rep1.ep (G:=G) (l.flatMap V.cells) 0 b o (fun j=>uu (j / i.size) (j % i.size)) (fun j hj=>by
        obtain ⟨q1,q2,q3⟩:=hdm j hj
        have:=hF _ _ q1 q2
        rw [show o + j / i.size * i.size + j % i.size=o + j by omega] at this
        exact this) (fun j hj=>by
        obtain ⟨q1,q2,q3⟩:=hdm j hj
        exact hone _ _ q1 q2) (fun j c hc=>by
        have hj:=(List.getElem?_eq_some_iff.1 hc).1
        obtain ⟨q1,q2,q3⟩:=hdm j hj
        have hd:l[j / i.size]?=some l[j / i.size]:=List.getElem?_eq_getElem q1
        have:=flat_get (allLen_of' h1) _ _ hd q2
        rw [q3,hc] at this
        exact hr _ _ _ _ hd this.symm)
      simpa using this
  · rename_i b o m c
    rw [hx.sc_inv]
    have h1:n≤m:=h
    refine ⟨.pointer (some ⟨b,o,none⟩),by simp [Instr.arrayAt,run_underlying hu]; omega,.sc _ rfl⟩
  · exact h.elim
end
end
section
open Go Go.RowKit
section
variable {P:Program} {w0:Fr} {G:Gh} {st:St} {w:World} {A:Nat→V} {a:Act}
def rowsP (size:Nat):Nat→List V→List (Nat × Nat × V)
  | _,[]=>[]
  | i,d :: ds=>(i * size,size,d) :: rowsP size (i + 1) ds
theorem rowsP_len (size:Nat):∀ (ds:List V) (i:Nat),(rowsP size i ds).length=ds.length
  | [],_=>rfl
  | d :: ds,i=>by simp [rowsP,rowsP_len size ds (i + 1)]
theorem rowsP_get (size:Nat):∀ (ds:List V) (i j:Nat) (p:Nat × Nat × V),(rowsP size i ds)[j]?=some p→∃ d,ds[j]?=some d∧p=((i + j) * size,size,d)
  | [],_,_,p,h=>by simp [rowsP] at h
  | d :: ds,i,0,p,h=>by simp [rowsP] at h; exact ⟨d,rfl,h.symm⟩
  | d :: ds,i,j + 1,p,h=>by
    obtain ⟨d',h1,h2⟩:=rowsP_get size ds (i + 1) j p (by simpa [rowsP] using h)
    exact ⟨d',by simpa using h1,by rw [h2,show i + 1 + j=i + (j + 1) by omega]⟩
theorem fillV_rows {size:Nat} (hs:0 < size):∀ (ds:List V) (i:Nat) (pre junk:List V),allLen size ds→pre.length=i * size→junk.length=ds.length * size →
    (fillV (pre ++ junk) (rowsP size i ds)).1∧(fillV (pre ++ junk) (rowsP size i ds)).2=pre ++ ds.flatMap V.cells
  | [],i,pre,junk,_,_,hj=>by
    have:junk=[]:=List.eq_nil_of_length_eq_zero (by simpa using hj)
    subst this
    simp [rowsP,fillV]
  | d :: ds,i,pre,junk,hl,hp,hj=>by
    simp only [List.length_cons,Nat.add_mul] at hj
    have e:splice (pre ++ junk) (i * size) d.cells=(pre ++ d.cells) ++ junk.drop size:=by
      unfold splice
      rw [← hp,List.take_left,hl.1,List.drop_append]
      simp
    have ih:=fillV_rows hs ds (i + 1) (pre ++ d.cells) (junk.drop size) hl.2 (by simp [hl.1,hp,Nat.add_mul]) (by simp; omega)
    simp only [rowsP,fillV,e]
    refine ⟨⟨hl.1,hs,by simp [hp]; omega,ih.1⟩,?_⟩
    rw [ih.2]
    simp
theorem bsl_run {t elem len:Nat} {e:TypeInfo} (hu:P.underlying t=some (.slice elem)) (hi:P.info? elem=some e) (hsz:0 < e.size) (hbig:len * e.size≤16777216) {z:List V} (hz:zeroCells' P elem=some z) (hzl:z.length=e.size)
    {parts:List (Nat × Value)} (hparts:parts.map (·.1)=List.range len) {ds:List V} (hdl:ds.length=len) (hds:∀ (i:Nat) (d:V) (q:Nat × Value),ds[i]?=some d→parts[i]?=some q→Rep1 G d q.2) (hal:allLen e.size ds) (w:World) :
    ∃ us,(Instr.buildSlice t len parts.toArray).run P w=.ok (.slice (some ⟨w.heap.size,0,none⟩) len len) (w.alloc (.cells us elem))∧RepL G (ds.flatMap V.cells) us∧us.size=len * e.size:=by
  obtain ⟨zv,hzv,hzr,hzs⟩:=zero_sound (G:=G) hz w
  have hplen:parts.length=len:=by have:=congrArg List.length hparts; simpa using this
  have hpi:∀ (i:Nat) (q:Nat × Value),parts[i]?=some q→q.1=i:=fun i q hq=>by
    have h1:(parts.map (·.1))[i]?=some q.1:=by simp [hq]
    have hlt:=(List.getElem?_eq_some_iff.1 hq).1
    rw [hparts,List.getElem?_range (by omega)] at h1
    simpa using h1.symm
  have hzz:zv.cells.size=e.size:=by omega
  have hrow:RepL G (List.replicate (len * e.size) V.any) ((Array.range (len * e.size)).map (zv.cells[· % zv.cells.size]!)):=by
    refine ⟨by simp,fun i v hv=>?_,fun i c v hc hv=>?_⟩
    · simp only [Array.getElem?_map,Option.map_eq_some_iff] at hv
      obtain ⟨j,_,rfl⟩:=hv
      have hlt:j % zv.cells.size < zv.cells.size:=Nat.mod_lt _ (by omega)
      exact hzr.one (j % zv.cells.size) _ (by rw [getElem!_pos zv.cells _ hlt]; exact Array.getElem?_eq_getElem hlt)
    · have:=List.mem_of_getElem? hc
      rw [List.mem_replicate] at this
      rw [this.2]; exact .any v
  have hf:=fillV_rows hsz ds 0 [] (List.replicate (len * e.size) V.any) hal (by simp) (by simp [hdl])
  rw [List.nil_append,List.nil_append] at hf
  obtain ⟨us,hfill,hus⟩:=fill_sound (G:=G) (fun i=>some (i * e.size,e.size)) (rowsP e.size 0 ds) parts _ _ (by rw [rowsP_len,hdl,hplen]) (fun i p q hp hq=>by
    obtain ⟨d,hd,rfl⟩:=rowsP_get _ _ _ _ _ hp
    exact ⟨by rw [hpi i q hq,Nat.zero_add],hds i d q hd hq⟩) hf.1 hrow
  rw [hf.2] at hus
  have hsize:us.size=len * e.size:=by rw [hus.len,allLen_flat hal,hdl]
  refine ⟨us,?_,hus,hsize⟩
  have hz2:(if len * e.size=0 then (pure #[]:Sem (Array Value)) else do pure (← zeroValue elem).cells).run P w=.ok (if len * e.size=0 then #[] else zv.cells) w:=by
    split
    · rfl
    · simp [hzv]
  by_cases h0:len=0
  · subst h0
    have hp0:parts=[]:=List.eq_nil_of_length_eq_zero hplen
    subst hp0
    simp only [Instr.fill,Option.some.injEq] at hfill
    have hu0:us=#[]:=Array.eq_empty_of_size_eq_zero (by simpa using hsize)
    subst hu0
    simp [Instr.buildSlice,run_underlying hu,run_sizeOf' hi,Instr.fill,newRow]
    rw [show (Array.range 0).map (fun _=>(default:Value))=#[] from Array.eq_empty_of_size_eq_zero (by simp)]
  · have hne:¬ (len * e.size=0):=by have:=Nat.mul_pos (show 0 < len by omega) hsz; omega
    have hb:¬ (len * e.size > 2 ^ 24):=by omega
    simp only [Instr.buildSlice,Sem.run_bind,run_underlying hu,Result.andThen_ok,run_sizeOf' hi]
    rw [if_neg hb]
    simp only [hne,if_false,Sem.run_bind,Sem.run_pure,Result.andThen_ok,hzv]
    simp only [hfill]
    simp [newRow]
theorem bsl_sound {t elem len:Nat} {e:TypeInfo} (hw:RepW w0 G st w) (hu:P.underlying t=some (.slice elem)) (hi:P.info? elem=some e) (hsz:0 < e.size) (hbig:len * e.size≤16777216) {z:List V} (hz:zeroCells' P elem=some z) (hzl:z.length=e.size)
    {parts:List (Nat × Value)} (hparts:parts.map (·.1)=List.range len) {ds:List V} (hdl:ds.length=len) (hds:∀ (i:Nat) (d:V) (q:Nat × Value),ds[i]?=some d→parts[i]?=some q→Rep1 G d q.2) (hal:allLen e.size ds) :
    ∃ r w' G',(Instr.buildSlice t len parts.toArray).run P w=.ok r w'∧Rep1 G' (.sl .no ds) r∧G.le G'∧RepW w0 G' st w':=by
  obtain ⟨us,hrun,hus,hsize⟩:=bsl_run (G:=G) hu hi hsz hbig hz hzl hparts hdl hds hal w
  have hle:=hw.le_addF us
  refine ⟨_,_,_,hrun,?_,hle,hw.addF us elem⟩
  have hlen:len≤maxLen:=by
    have:len * 1≤len * e.size:=Nat.mul_le_mul_left _ hsz
    unfold maxLen; omega
  subst hdl
  exact row_rep hal (hus.mono hle) (fun o v hv=>by simp [Gh.addF,hv]) (Nat.le_refl _) hlen .no (by simp) (fun g k e=>by cases e)
theorem byL_length (s:ByteArray):(byL s).length=s.size:=by
  rw [byL,bytesOf,List.length_map,List.length_map,Array.length_toList]; rfl
theorem byL_flat (s:ByteArray):(byL s).flatMap V.cells=byL s:=by
  unfold byL
  induction bytesOf s with
  | nil=>rfl
  | cons x l ih=>rw [List.map_cons,List.flatMap_cons,ih]; rfl
theorem byL_all (s:ByteArray):allLen 1 (byL s):=by
  unfold byL
  induction bytesOf s with
  | nil=>trivial
  | cons x l ih=>exact ⟨rfl,ih⟩
def strCs (s:ByteArray):List Value:=s.data.toList.map fun b=>Value.int .u8 b.toNat
theorem strCs_length (s:ByteArray):(strCs s).length=s.size:=by
  rw [strCs,List.length_map,Array.length_toList]; rfl
theorem byL_rep (G:Gh) (s:ByteArray):RepL G ((byL s).flatMap V.cells) (strCs s).toArray:=by
  rw [byL_flat]
  refine ⟨by simp [byL,bytesOf,strCs],fun i v hv=>?_,fun i c v hc hv=>?_⟩
  · simp only [strCs,List.getElem?_toArray,List.getElem?_map,Option.map_eq_some_iff] at hv
    obtain ⟨b,_,rfl⟩:=hv
    rfl
  · simp only [strCs,List.getElem?_toArray,List.getElem?_map,Option.map_eq_some_iff] at hv
    obtain ⟨b,hb,rfl⟩:=hv
    simp only [byL,bytesOf,List.getElem?_map,hb,Option.map_some,Option.some.injEq] at hc
    subst hc
    exact .sc _ rfl
theorem RepW.addF2 (h:RepW w0 G st w) (cs:Array Value) {w':World} (hsz:w'.heap.size=w.heap.size + 1) (hold:∀ j,j < w.heap.size→w'.heap[j]?=w.heap[j]?) (hnew:∀ (o:Nat) (v:Value),cs[o]?=some v→w'.cell? ⟨w.heap.size,o,none⟩=some v)
    (hos:w'.os=w.os) (htape:w'.tape=w.tape) (hout:w'.output=w.output):RepW w0 (G.addF w.heap.size cs) st w':=by
  have hle:=h.le_addF cs
  refine ⟨fun b o v hf=>?_,fun g x hx=>?_,fun b cs' hb=>?_,fun g m hg=>?_,by have:=h.sz; omega,⟨hos.trans h.bel.os,htape.trans h.bel.tape,hout.trans h.bel.output,by have:=h.bel.size; omega,fun i hi=>?_⟩,fun b x hx=>⟨by rw [hold _ (h.frLt hx)]; exact (h.fr b x hx).1,fun o=>?_,(h.fr b x hx).2.2⟩⟩
  · simp only [Gh.addF] at hf
    split at hf
    · rename_i e; subst e; exact hnew o v hf
    · have:=h.F b o v hf
      rwa [World.cell?_of_block (w:=w) (w':=w') (a:=⟨b,o,none⟩) (hold b (World.block_lt_of_cell? _ _ this))]
  · have:=h.O g x hx; omega
  · obtain ⟨h1,h2,h3,h4,h5⟩:=h.box b cs' hb
    refine ⟨h1,h2,fun o=>?_,h4,by rw [hold b (by have:=h.sz; omega)]; exact h5.mono hle⟩
    simp only [Gh.addF]
    rw [if_neg (by have:=h.sz; omega)]
    exact h3 o
  · obtain ⟨h1,h2,e,size,cap,cur,h3,h4,h5,h6,h7,h8⟩:=h.own g m hg
    refine ⟨h1,h2,e,size,cap,cur,h3,by rw [hold g (by have:=h.sz; omega)]; exact h4,h5,h6,h7,fun o ho=>?_⟩
    simp only [Gh.addF]
    rw [if_neg (by have:=h.sz; omega)]
    exact h8 o ho
  · rw [hold i (by have:=h.bel.size; omega)]; exact h.bel.block i hi
  · simp only [Gh.addF]
    rw [if_neg (by have:=h.frLt hx; omega)]
    exact (h.fr b x hx).2.1 o
theorem s2b_sound {src dst:TypeId} (hc:s2b? P src dst=true) {x:V} {u:Value} (hw:RepW w0 G st w) (hx:Rep1 G x u) (h:(vs2b x).1) :
    ∃ r w' G',(convert src dst u).run P w=.ok r w'∧Rep1 G' (vs2b x).2 r∧G.le G'∧RepW w0 G' st w':=by
  unfold s2b? at hc
  split at hc
  · rename_i e hs hd
    split at hc
    · rename_i he
      unfold vs2b at h ⊢
      split at h
      · rename_i s
        rw [hx.sc_inv]
        have hrun:=Lib.run_convert_string_bytes (P:=P) w src dst e s hs hd he
        have hge:=grownCap_ge w s.size 0 e
        have hle:=grownCap_le_maxLen w s.size 0 e h
        have hold:=fun j hj=>Lib.bytesWorld_at_old w e s j hj
        have hnew:∀ (o:Nat) (v:Value),(strCs s).toArray[o]?=some v→(Lib.bytesWorld w e s).cell? ⟨w.heap.size,o,none⟩=some v:=by
          intro o v hv
          simp only [strCs,List.getElem?_toArray,List.getElem?_map,Option.map_eq_some_iff] at hv
          obtain ⟨b,hb,rfl⟩:=hv
          have hlt:o < s.size:=by have:=(List.getElem?_eq_some_iff.1 hb).1; simpa using this
          rw [Lib.bytesWorld_cell w e s o hlt,List.getD_eq_getElem?_getD,hb]
          rfl
        have hw':=hw.addF2 (strCs s).toArray (Lib.bytesWorld_size w e s) hold hnew rfl rfl rfl
        refine ⟨_,_,_,hrun,?_,hw.le_addF _,hw'⟩
        have hr:RepL (G.addF w.heap.size (strCs s).toArray) ((byL s).flatMap V.cells) (strCs s).toArray:=byL_rep _ s
        have:=row_rep (G:=G.addF w.heap.size (strCs s).toArray) (l:=byL s) (size:=1) (us:=(strCs s).toArray) (b:=w.heap.size) (cap:=grownCap w s.size 0 e) (byL_all s) hr (fun o v hv=>by simp only [Gh.addF,if_true]; exact hv) (by rw [byL_length]; omega) hle .no (by simp) (fun g k e=>by cases e)
        rw [byL_length] at this
        exact this
      · exact h.elim
    · cases hc
  · cases hc
theorem sidx_sound {t:TypeId} (ht:P.underlying t=some .string) {x i:V} {u v:Value} (hx:Rep1 G x u) (hi:Rep1 G i v) (h:(vsidx x i).1) (w:World) :
    ∃ r,(Instr.index t u v).run P w=.ok r w∧Rep1 G (vsidx x i).2 r:=by
  unfold vsidx at h ⊢
  split at h
  · rename_i s k n
    split at h
    · rename_i b hb
      rw [hx.sc_inv,hi.sc_inv]
      simp only [bytesOf,List.getElem?_map,Option.map_eq_some_iff] at hb
      obtain ⟨c,hc,rfl⟩:=hb
      refine ⟨.int .u8 c.toNat,?_,.sc _ rfl⟩
      have hsc:s[n.toNat]?=some c:=by
        rw [Array.getElem?_toList] at hc
        rw [← hc]
        obtain ⟨h1,h2⟩:=Array.getElem?_eq_some_iff.1 hc
        rw [hc,getElem?_pos s n.toNat h1]
        exact congrArg some h2
      have h0:0≤n:=h
      simp [Instr.index,asIntOf,run_underlying ht,h0,hsc]
    · exact h.elim
  · exact h.elim
theorem aidx_sound {t elem:TypeId} {e:TypeInfo} {len:Nat} (ht:P.underlying t=some (.array len elem)) (hi:P.info? elem=some e) (hs:e.size=1) (hA:isA P elem=false) (hU:(P.underlying elem).isSome=true) {x y:V} {u v:Value} (hx:Rep1 G x u) (hy:Rep1 G y v) (h:(vaidx len x y).1) (w:World) :
    ∃ r,(Instr.index t u v).run P w=.ok r w∧Rep1 G (vaidx len x y).2 r:=by
  unfold vaidx at h ⊢
  split at h
  · rename_i cs k n
    split at h
    · rename_i c hc
      obtain ⟨h0,h1⟩:=h
      rw [hy.sc_inv]
      cases hx with
      | agg _ vs hl ho hr =>
      have hlt:=(List.getElem?_eq_some_iff.1 hc).1
      have hv:vs[n.toNat]?=some vs[n.toNat]:=Array.getElem?_eq_getElem (by omega)
      refine ⟨_,?_,hr _ _ _ hc hv⟩
      have hag:(isAgg elem).run P w=.ok false w:=by
        cases hd:P.underlying elem with
        | none=>rw [hd] at hU; cases hU
        | some d =>
          unfold isA at hA
          rw [hd] at hA
          simp only [isAgg,Sem.run_bind,run_underlying hd,Result.andThen_ok]
          cases d <;> first | rfl | (simp at hA; done)
      simp [Instr.index,asIntOf,run_underlying ht,h0,h1,part,hag,run_sizeOf' hi,hs,hv]
    · exact h.elim
  · exact h.elim
theorem aidxn_sound {t elem:TypeId} {e:TypeInfo} {len:Nat} (ht:P.underlying t=some (.array len elem)) (hi:P.info? elem=some e) (hA:isA P elem=true) {x y:V} {u v:Value} (hx:Rep1 G x u) (hy:Rep1 G y v) (h:(vaidxn len e.size x y).1) (w:World) :
    ∃ r,(Instr.index t u v).run P w=.ok r w∧Rep1 G (vaidxn len e.size x y).2 r:=by
  unfold vaidxn at h ⊢
  split at h
  · rename_i cs k n
    obtain ⟨h0,h1,h2⟩:=h
    rw [hy.sc_inv]
    cases hx with
    | agg _ vs hl ho hr =>
    have hag:(isAgg elem).run P w=.ok true w:=by
      unfold isA at hA
      split at hA
      · rename_i d hd; simp [isAgg,run_underlying hd]
      · rename_i d1 d2 hd; simp [isAgg,run_underlying hd]
      · cases hA
    have hget:∀ (i:Nat) (v:Value),(vs.extract (n.toNat * e.size) (n.toNat * e.size + e.size))[i]?=some v→vs[n.toNat * e.size + i]?=some v:=fun i v hv=>by
      rw [Array.getElem?_extract] at hv
      split at hv
      · exact hv
      · cases hv
    refine ⟨.agg (vs.extract (n.toNat * e.size) (n.toNat * e.size + e.size)),by simp [Instr.index,asIntOf,run_underlying ht,h0,h1,part,hag,run_sizeOf' hi],.agg _ _ (by simp; omega) (fun i v hv=>ho _ _ (hget i v hv)) (fun i c v hc hv=>?_)⟩
    rw [List.getElem?_take] at hc
    split at hc
    · rw [List.getElem?_drop] at hc
      exact hr _ _ _ hc (hget i v hv)
    · cases hc
  · exact h.elim
theorem fvn_sound {t:TypeId} {fields:Array Field} {f:Nat} {fd:Field} {e:TypeInfo} (ht:P.underlying t=some (.struct fields)) (hf:fields[f]?=some fd) (hi:P.info? fd.type=some e) (hA:isA P fd.type=true) {x:V} {u:Value} (hx:Rep1 G x u) (h:(vfv fd.offset (some e.size) x).1) (w:World) :
    ∃ r,(Instr.field t u f).run P w=.ok r w∧Rep1 G (vfv fd.offset (some e.size) x).2 r:=by
  unfold vfv at h ⊢
  split at h
  · rename_i h1 cs e1
    cases e1
    cases hx with
    | agg _ vs hl ho hr =>
    have hag:(isAgg fd.type).run P w=.ok true w:=by
      unfold isA at hA
      split at hA
      · rename_i d hd; simp [isAgg,run_underlying hd]
      · rename_i d1 d2 hd; simp [isAgg,run_underlying hd]
      · cases hA
    have hget:∀ (i:Nat) (v:Value),(vs.extract fd.offset (fd.offset + e.size))[i]?=some v→vs[fd.offset + i]?=some v:=fun i v hv=>by
      rw [Array.getElem?_extract] at hv
      split at hv
      · exact hv
      · cases hv
    refine ⟨.agg (vs.extract fd.offset (fd.offset + e.size)),by simp [Instr.field,asAgg,run_underlying ht,hf,part,hag,run_sizeOf' hi],.agg _ _ (by simp; omega) (fun i v hv=>ho _ _ (hget i v hv)) (fun i c v hc hv=>?_)⟩
    rw [List.getElem?_take] at hc
    split at hc
    · rw [List.getElem?_drop] at hc
      exact hr _ _ _ hc (hget i v hv)
    · cases hc
  · rename_i e1; cases e1
  · exact h.elim
theorem fv1_sound {t:TypeId} {fields:Array Field} {f:Nat} {fd:Field} (ht:P.underlying t=some (.struct fields)) (hf:fields[f]?=some fd) (hA:isA P fd.type=false) (hU:(P.underlying fd.type).isSome=true) {x:V} {u:Value} (hx:Rep1 G x u) (h:(vfv fd.offset none x).1) (w:World) :
    ∃ r,(Instr.field t u f).run P w=.ok r w∧Rep1 G (vfv fd.offset none x).2 r:=by
  unfold vfv at h ⊢
  split at h
  · rename_i e1; cases e1
  · rename_i cs e1
    split at h
    · rename_i c hc
      cases hx with
      | agg _ vs hl ho hr =>
      have hlt:=(List.getElem?_eq_some_iff.1 hc).1
      have hv:vs[fd.offset]?=some vs[fd.offset]:=Array.getElem?_eq_getElem (by omega)
      refine ⟨_,?_,hr _ _ _ hc hv⟩
      have hag:(isAgg fd.type).run P w=.ok false w:=by
        cases hd:P.underlying fd.type with
        | none=>rw [hd] at hU; cases hU
        | some d =>
          unfold isA at hA
          rw [hd] at hA
          simp only [isAgg,Sem.run_bind,run_underlying hd,Result.andThen_ok]
          cases d <;> first | rfl | (simp at hA; done)
      simp [Instr.field,asAgg,run_underlying ht,hf,part,hag,hv]
    · exact h.elim
  · exact h.elim
theorem mki_sound {t:TypeId} {d:TypeDesc} (ht:P.underlying t=some d) (hd:∀ m,d ≠ .interface m) {x:V} {u:Value} (hx:Rep1 G x u) (h:(vmki t x).1) (w:World):∃ r,(Instr.makeInterface t u).run P w=.ok r w∧Rep1 G (vmki t x).2 r:=by
  unfold vmki at h ⊢
  split at h
  · rw [hx.sc_inv]
    refine ⟨_,?_,.sc _ rfl⟩
    unfold Instr.makeInterface
    simp only [Sem.run_bind,run_underlying ht,Result.andThen_ok]
    cases d <;> first | rfl | exact absurd rfl (hd _)
  · exact h.elim
theorem bslo_sound {t elem len:Nat} {e:TypeInfo} (hw:RepW w0 G st w) (hu:P.underlying t=some (.slice elem)) (hi:P.info? elem=some e) (hsz:0 < e.size) (hbig:len * e.size≤16777216) {z:List V} (hz:zeroCells' P elem=some z) (hzl:z.length=e.size)
    {parts:List (Nat × Value)} (hparts:parts.map (·.1)=List.range len) {ds:List V} (hdl:ds.length=len) (hds:∀ (i:Nat) (d:V) (q:Nat × Value),ds[i]?=some d→parts[i]?=some q→Rep1 G d q.2) (hal:allLen e.size ds) :
    ∃ r w' G',(Instr.buildSlice t len parts.toArray).run P w=.ok r w'∧Rep1 G' (.sl (.own w.heap.size e.size) ds) r∧G.le G'∧RepW w0 G' (st.use w.heap.size len) w':=by
  obtain ⟨us,hrun,hus,hsize⟩:=bsl_run (G:=G) hu hi hsz hbig hz hzl hparts hdl hds hal w
  have hlen:len≤maxLen:=by
    have:len * 1≤len * e.size:=Nat.mul_le_mul_left _ hsz
    unfold maxLen; omega
  obtain ⟨hle,hw'⟩:=hw.addRow rfl us elem e.size len len hsize (Nat.le_refl _) hlen
  refine ⟨_,_,_,hrun,?_,hle,hw'⟩
  subst hdl
  refine row_rep hal (hus.mono hle) (fun o v hv=>?_) (Nat.le_refl _) hlen _ (by simp) (fun g k e'=>?_)
  · have:=(Array.getElem?_eq_some_iff.1 hv).1
    simp only [Gh.addRow,if_true]
    rw [if_pos (by omega)]; exact hv
  · cases e'
    exact ⟨rfl,rfl,elem,by simp [Gh.addRow]⟩
theorem bslb_sound {t elem len:Nat} {e:TypeInfo} (hw:RepW w0 G st w) (hu:P.underlying t=some (.slice elem)) (hi:P.info? elem=some e) (hsz:0 < e.size) (hbig:len * e.size≤16777216) {z:List V} (hz:zeroCells' P elem=some z) (hzl:z.length=e.size)
    {parts:List (Nat × Value)} (hparts:parts.map (·.1)=List.range len) {ds:List V} (hdl:ds.length=len) (hds:∀ (i:Nat) (d:V) (q:Nat × Value),ds[i]?=some d→parts[i]?=some q→Rep1 G d q.2) (hal:allLen e.size ds) :
    ∃ w',(Instr.buildSlice t len parts.toArray).run P w=.ok (.slice (some ⟨w.heap.size,0,none⟩) len len) w'∧RepW w0 G (st.put w.heap.size (ds.flatMap V.cells)) w':=by
  obtain ⟨us,hrun,hus,hsize⟩:=bsl_run (G:=G) hu hi hsz hbig hz hzl hparts hdl hds hal w
  exact ⟨_,hrun,hw.newBox us elem _ hus.len hus.one hus.rep⟩
theorem box_sound (hw:RepW w0 G st w) {x:V} {u:Value} (hx:Rep1 G x u) (h0:x.cells.length ≠ 0) (t:TypeId) :
    (Instr.box t u).run P w=.ok (.pointer (some ⟨w.heap.size,0,none⟩)) (w.alloc (.cells u.cells t))∧RepW w0 G (st.put w.heap.size x.cells) (w.alloc (.cells u.cells t)):=by
  have hc:=hx.cells h0
  exact ⟨by simp [Instr.box,newVar,newRow],hw.newBox _ _ _ hc.len hc.one hc.rep⟩
theorem alc_sound (hw:RepW w0 G st w) {t:TypeId} {z:List V} (hz:zeroCells' P t=some z) :
    ∃ us,(Instr.alloc t true (.tuple #[])).run P w=.ok (.pointer (some ⟨w.heap.size,0,none⟩)) (w.alloc (.cells us t))∧RepW w0 G (st.put w.heap.size z) (w.alloc (.cells us t)):=by
  obtain ⟨v,hv,hr,_⟩:=zero_sound (G:=G) hz w
  exact ⟨v.cells,by simp [Instr.alloc,hv,newVar,newRow],hw.newBox _ _ _ hr.len hr.one hr.rep⟩
theorem cells_store (hw:RepW w0 G st w) {b o:Nat} {cs:List V} (hb:st.box b=some cs) {ds:List V} {us:Array Value} (hyc:RepL G ds us) (hfit:o + ds.length≤cs.length) (hmo:mono cs) :
    ∃ w',(storeCells ⟨b,o,none⟩ us.toList).run P w=.ok () w'∧RepW w0 G (st.put b (splice cs o ds)) w':=by
  obtain ⟨_,hge,hF,hO,hrb⟩:=hw.box b cs hb
  obtain ⟨vs,e,hh,hvl,h1,hr⟩:=hrb.row hmo
  have hyl:=hyc.len
  have hst:=run_storeCells_at P b o e us.toList 0 vs w hh (by simp; omega) (fun u hu=>by
    obtain ⟨j,hj,rfl⟩:=List.mem_iff_getElem.1 hu
    exact hyc.one j _ (by simp))
  rw [Nat.add_zero] at hst
  refine ⟨w.setRow b (vs.toList.take o ++ us.toList ++ vs.toList.drop (o + us.toList.length)).toArray,hst,?_⟩
  have hrep:RepL G (splice cs o ds) (vs.toList.take o ++ us.toList ++ vs.toList.drop (o + us.toList.length)).toArray:=by
    have tl:(vs.toList.take o).length=o:=by simp; omega
    have hget:∀ i,(vs.toList.take o ++ us.toList ++ vs.toList.drop (o + us.toList.length)).toArray[i]?=if o≤i∧i < o + ds.length then us[i - o]? else vs[i]?:=fun i=>by
      simp only [List.getElem?_toArray]
      rw [List.append_assoc,List.getElem?_append,tl]
      by_cases c1:i < o
      · rw [if_pos c1,if_neg (by omega),List.getElem?_take,if_pos c1]; simp
      · rw [if_neg c1,List.getElem?_append]
        simp only [Array.length_toList]
        by_cases c2:i - o < us.size
        · rw [if_pos c2,if_pos (by omega)]; simp
        · rw [if_neg c2,if_neg (by omega),List.getElem?_drop]
          simp only [Array.getElem?_toList]
          congr 1; omega
    have sget:∀ i,(splice cs o ds)[i]?=if o≤i∧i < o + ds.length then ds[i - o]? else cs[i]?:=fun i=>by
      unfold splice
      rw [List.append_assoc,List.getElem?_append]
      have ht:(cs.take o).length=o:=by simp; omega
      rw [ht]
      by_cases c1:i < o
      · rw [if_pos c1,if_neg (by omega),List.getElem?_take,if_pos c1]
      · rw [if_neg c1,List.getElem?_append]
        by_cases c2:i - o < ds.length
        · rw [if_pos c2,if_pos (by omega)]
        · rw [if_neg c2,if_neg (by omega),List.getElem?_drop]
          congr 1; omega
    refine ⟨?_,fun i u hu=>?_,fun i c u hc hu=>?_⟩
    · simp [splice]; omega
    · rw [hget] at hu
      split at hu
      · exact hyc.one _ _ hu
      · exact h1 _ _ hu
    · rw [hget] at hu
      rw [sget] at hc
      split at hu
      · rename_i c1; rw [if_pos c1] at hc; exact hyc.rep _ _ _ hc hu
      · rename_i c1; rw [if_neg c1] at hc; exact hr _ _ _ hc hu
  exact hw.setBox hb _ _ e _ (setRow_heap w b vs _ e _ hh) (fun k hk=>setRow_other w b k _ hk) (by simp) rfl rfl rfl hrep.len hrep.one hrep.rep
theorem store_sound (hw:RepW w0 G st w) {t:TypeId} {n:Option Nat} {size:Nat} (hl:layout P t=some (n,size)) {b o:Nat} {cs:List V} (hb:st.box b=some cs) {y:V} {v:Value} (hy:Rep1 G y v) (hlen:y.cells.length=size) (h0:0 < size) (hfit:o + size≤cs.length) (hmo:mono cs) :
    ∃ w',(Instr.storeAt t (.pointer (some ⟨b,o,none⟩)) v).run P w=.ok () w'∧RepW w0 G (st.put b (splice cs o y.cells)) w':=by
  obtain ⟨d,i,hu,hi,hs,_⟩:=layout_inv hl
  have hyc:=hy.cells (by omega)
  have hsz:v.cells.size=size:=by rw [hyc.len,hlen]
  obtain ⟨w',h1,h2⟩:=cells_store (P:=P) (o:=o) hw hb hyc (by omega) hmo
  refine ⟨w',?_,h2⟩
  simp only [Instr.storeAt,Instr.sureAddr,Sem.run_bind,Sem.run_pure,Result.andThen_ok,storeVar,run_sizeOf' hi,hs,hsz,ne_eq,not_true,if_false]
  exact h1
end
end
section
open Go Go.RowKit
section
variable {P:Program} {w0:Fr} {G:Gh} {st:St} {w:World}
theorem app_room (t ty e:TypeId) (i:TypeInfo) (ht:P.underlying t=some (.slice e)) (hi:P.info? e=some i) (g sLen sCap:Nat) (cur:Array Value) (e':TypeId) (hg:w.heap[g]?=some (.cells cur e' (0,0)))
    (a:Addr) (m c:Nat) (news:List Value) (hl:news.length=m * i.size) (hnews:∀ (j:Nat) (u:Value),news[j]?=some u→w.cell? (a.add j)=some u) (h1:∀ u ∈ news,u.oneCell'=true)
    (hroom:sLen + m≤sCap) (hfit:sLen * i.size + news.length≤cur.size) :
    (Builtin.append_ #[t,t] ty #[.slice (some ⟨g,0,none⟩) sLen sCap,.slice (some a) m c]).run P w =
      .ok (.slice (some ⟨g,0,none⟩) (sLen + m) sCap) (w.setRow g (cur.toList.take (sLen * i.size) ++ news ++ cur.toList.drop (sLen * i.size + news.length)).toArray):=by
  have hf:=run_firstCells_some (P:=P) w i.size m a m c news hl hnews
  have hst:=run_storeCells_at P g (sLen * i.size) e' news 0 cur w hg (by simpa using hfit) h1
  simp only [Nat.add_zero] at hst
  simp [Builtin.append_,run_underlying ht,sizeOf,typeInfo,hi,Builtin.lenOf,hroom,hf,Addr.add_lit,hst]
theorem app_none (t ty e:TypeId) (i:TypeInfo) (ht:P.underlying t=some (.slice e)) (hi:P.info? e=some i) (A:Option Addr) (n cap:Nat) (hn:n≤cap) (B:Option Addr) (c:Nat) (w:World) :
    (Builtin.append_ #[t,t] ty #[.slice A n cap,.slice B 0 c]).run P w=.ok (.slice A n cap) w:=by
  cases A <;> cases B <;> simp [Builtin.append_,run_underlying ht,sizeOf,typeInfo,hi,Builtin.lenOf,Builtin.firstCells,hn,storeCells,loadCells,loadCellsFrom]
theorem RepL.append {cs ds:List V} {us vs:Array Value} (h:RepL G cs us) (k:RepL G ds vs):RepL G (cs ++ ds) (us ++ vs):=by
  have h0:=h.len
  refine ⟨by simp [h.len,k.len],fun i v hv=>?_,fun i c v hc hv=>?_⟩
  · rw [Array.getElem?_append] at hv
    split at hv
    · exact h.one _ _ hv
    · exact k.one _ _ hv
  · rw [Array.getElem?_append] at hv
    rw [List.getElem?_append] at hc
    split at hv
    · rename_i hi; rw [if_pos (by omega)] at hc; exact h.rep _ _ _ hc hv
    · rename_i hi; rw [if_neg (by omega)] at hc; rw [h0] at hv; exact k.rep _ _ _ hc hv
theorem allLen_of {size:Nat}:∀ {l:List V},allSz size l→allLen size l
  | [],_=>trivial
  | d :: ds,h=>⟨h d (by simp),allLen_of fun x hx=>h x (by simp [hx])⟩
theorem allLen_append {size:Nat}:∀ {l m:List V},allLen size l→allLen size m→allLen size (l ++ m)
  | [],_,_,h=>h
  | _ :: _,_,h,k=>⟨h.1,allLen_append h.2 k⟩
theorem app_new (hw:RepW w0 G st w) {size n m:Nat} {l ys:List V} (hl:allLen size l) (hys:allLen size ys) {us vs zs:Array Value} (hus:RepL G (l.flatMap V.cells) us) (hvs:RepL G (ys.flatMap V.cells) vs) (e:TypeId) (cap:Nat)
    (hn:n=l.length) (hm:m=ys.length) (hz:us.size + vs.size + zs.size=cap * size) (hcap:n + m≤cap) (hmax:cap≤maxLen) :
    ∃ G',Rep1 G' (.sl (.own w.heap.size size) (l ++ ys)) (.slice (some ⟨w.heap.size,0,none⟩) (n + m) cap)∧G.le G'∧RepW w0 G' (st.use w.heap.size (n + m)) (w.alloc (.cells (us ++ vs ++ zs) e)):=by
  subst hn hm
  have hul:=hus.len
  have hvl:=hvs.len
  rw [allLen_flat hl] at hul
  rw [allLen_flat hys] at hvl
  obtain ⟨hle,hw'⟩:=hw.addRow rfl (us ++ vs ++ zs) e size cap (l.length + ys.length) (by simp; omega) hcap hmax
  refine ⟨_,?_,hle,hw'⟩
  have hcat:RepL G ((l ++ ys).flatMap V.cells) (us ++ vs):=by rw [List.flatMap_append]; exact hus.append hvs
  rw [show l.length + ys.length=(l ++ ys).length by simp]
  refine row_rep (allLen_append hl hys) (hcat.mono (by rw [List.length_append]; exact hle)) (fun o v hv=>?_) (by simpa using hcap) hmax _ (by simp) (fun g k e'=>?_)
  · have hlt:=(Array.getElem?_eq_some_iff.1 hv).1
    simp only [Array.size_append] at hlt
    simp only [Gh.addRow,if_true]
    rw [if_pos (by rw [List.length_append,Nat.add_mul]; omega),Array.getElem?_append_left (by simpa using hlt)]
    exact hv
  · cases e'
    exact ⟨rfl,rfl,e,by simp [Gh.addRow]⟩
structure SrcRun (P:Program) (w:World) (t u e:TypeId) (i:TypeInfo) (z v:Value) (m:Nat) (news:List Value):Prop where
  room:∀ (ty g sLen sCap:Nat) (cur:Array Value) (e':TypeId),w.heap[g]?=some (.cells cur e' (0,0))→sLen + m≤sCap→sLen * i.size + news.length≤cur.size→(∀ x ∈ news,x.oneCell'=true) →
    (Builtin.append_ #[t,u] ty #[.slice (some ⟨g,0,none⟩) sLen sCap,v]).run P w=.ok (.slice (some ⟨g,0,none⟩) (sLen + m) sCap) (w.setRow g (cur.toList.take (sLen * i.size) ++ news ++ cur.toList.drop (sLen * i.size + news.length)).toArray)
  nil:∀ (ty:Nat),0 < m→(m:Int)≤9223372036854775807→m * i.bytes≤281474976710656 →
    (Builtin.append_ #[t,u] ty #[.slice none 0 0,v]).run P w=.ok (.slice (some ⟨w.heap.size,0,none⟩) m (grownCap w m 0 e)) (w.drew.alloc (.cells (news.toArray ++ Builtin.zeroCells z.cells (grownCap w m 0 e - m)) e))
  grow:∀ (ty:Nat) (b:Addr) (sLen sCap:Nat) (olds:List Value),olds.length=sLen * i.size→(∀ (j:Nat) (x:Value),olds[j]?=some x→w.cell? (b.add j)=some x)→sCap < sLen + m→((sLen + m:Nat):Int)≤9223372036854775807→Builtin.nextslicecap (sLen + m) sCap * i.bytes≤281474976710656 →
    (Builtin.append_ #[t,u] ty #[.slice (some b) sLen sCap,v]).run P w=.ok (.slice (some ⟨w.heap.size,0,none⟩) (sLen + m) (grownCap w (sLen + m) sCap e)) (w.drew.alloc (.cells (olds.toArray ++ news.toArray ++ Builtin.zeroCells z.cells (grownCap w (sLen + m) sCap e - (sLen + m))) e))
theorem srcRun_slice {t e:TypeId} {i:TypeInfo} {z:Value} (ht:P.underlying t=some (.slice e)) (hi:P.info? e=some i) (hz:i.zero=some z) (a:Addr) (m c:Nat) (news:List Value) (hl:news.length=m * i.size) (hnews:∀ (j:Nat) (u:Value),news[j]?=some u→w.cell? (a.add j)=some u) :
    SrcRun P w t t e i z (.slice (some a) m c) m news where
  room ty g sLen sCap cur e' hg hroom hfit h1:=app_room t ty e i ht hi g sLen sCap cur e' hg a m c news hl hnews h1 hroom hfit
  nil ty h0 h63 h48:=run_append_nil w t ty e i z ht hi hz a m c news hl hnews h0 h63 h48
  grow ty b sLen sCap olds hlo holds hg h63 hfit:=run_append_grow w t ty e i z ht hi hz b sLen sCap olds hlo holds a m c news hl hnews hg h63 hfit
theorem firstCells_str (size:Nat) (s:ByteArray) (w:World):(Builtin.firstCells size s.size (.string s)).run P w=.ok (strCs s).toArray w:=by
  simp [Builtin.firstCells,strCs]
  apply Array.ext'
  simp
theorem srcRun_str {t u e:TypeId} {i:TypeInfo} {z:Value} (ht:P.underlying t=some (.slice e)) (hu:P.underlying u=some .string) (hi:P.info? e=some i) (hz:i.zero=some z) (s:ByteArray):SrcRun P w t u e i z (.string s) s.size (strCs s) where
  room ty g sLen sCap cur e' hg hroom hfit h1:=by
    have hf:=firstCells_str (P:=P) i.size s w
    have hst:=run_storeCells_at P g (sLen * i.size) e' (strCs s) 0 cur w hg (by simpa using hfit) h1
    simp only [Nat.add_zero] at hst
    simp [Builtin.append_,run_underlying ht,run_underlying hu,sizeOf,typeInfo,hi,Builtin.lenOf,hroom,hf,Addr.add_lit,hst]
  nil ty h0 h63 h48:=by
    have hn:s.size ≠ 0:=by omega
    have h63':¬ (9223372036854775807 < (s.size:Int)):=by omega
    have h48':¬ (281474976710656 < Builtin.nextslicecap s.size 0 * i.bytes):=by rw [nextslicecap_zero h0]; omega
    have hf:=firstCells_str (P:=P) i.size s w.drew
    simp [Builtin.append_,run_underlying ht,run_underlying hu,sizeOf,typeInfo,zeroValue,hi,hz,Builtin.lenOf,run_firstCells_none,hf,hn,h63',h48',Question.forced,newRow,grownCap]
  grow ty b sLen sCap olds hlo holds hg h63 hfit:=by
    have hn:¬ (sLen + s.size≤sCap):=by omega
    have h63':¬ (9223372036854775807 < ((sLen:Int) + (s.size:Int))):=by omega
    have h48':¬ (281474976710656 < Builtin.nextslicecap (sLen + s.size) sCap * i.bytes):=by omega
    have hf:=firstCells_str (P:=P) i.size s w.drew
    have hfo:=run_firstCells_some (P:=P) w.drew i.size sLen b sLen sCap olds hlo (by simpa using holds)
    simp [Builtin.append_,run_underlying ht,run_underlying hu,sizeOf,typeInfo,zeroValue,hi,hz,Builtin.lenOf,hn,h63',h48',Question.forced,hf,hfo,newRow,grownCap]
    congr 2
    apply Array.ext'
    simp [List.append_assoc]
theorem srcRun_zero {t u e:TypeId} {k:IntKind} {i:TypeInfo} {z:Value} (ht:P.underlying t=some (.slice e)) (hu:P.underlying u=some (.int k)) (hi:P.info? e=some i) (hz:i.zero=some z) {n:Nat} (k':IntKind) (hn0:0 < n * i.size) (h63n:(n:Int)≤9223372036854775807) (h48n:n * i.bytes≤281474976710656) :
    SrcRun P w t u e i z (.int k' n) n (Builtin.zeroCells z.cells n).toList where
  room ty g sLen sCap cur e' hg hroom hfit h1:=by
    have hw:IntKind.i64.wrap (n:Int)=n:=IntWalk.i64_in _ ⟨by omega,h63n⟩
    have hnn:¬ ((n:Int) < 0):=by omega
    have hbb:¬ (281474976710656 < (n:Int) * (i.bytes:Int)):=by omega
    have hst:=run_storeCells_at P g (sLen * i.size) e' (Builtin.zeroCells z.cells n).toList 0 cur w hg (by simpa using hfit) h1
    have hn1:¬ (n * i.size=0):=by omega
    have hn2:¬ (n=0 ∨ i.size=0):=by rw [← Nat.mul_eq_zero]; exact hn1
    simp only [Nat.add_zero] at hst
    simp [Builtin.append_,run_underlying ht,run_underlying hu,sizeOf,typeInfo,zeroValue,hi,hz,asInt,asIntOf,hw,hnn,hbb,hroom,Addr.add_lit,hst]
    exact fun h=>absurd h (Nat.ne_of_gt hn0)
  nil ty h0 h63 h48:=by
    have hw:IntKind.i64.wrap (n:Int)=n:=IntWalk.i64_in _ ⟨by omega,h63n⟩
    have hnn:¬ ((n:Int) < 0):=by omega
    have hbb:¬ (281474976710656 < (n:Int) * (i.bytes:Int)):=by omega
    have hn:n ≠ 0:=by omega
    have hn2:¬ (n=0 ∨ i.size=0):=by rw [← Nat.mul_eq_zero]; omega
    have h63':¬ (9223372036854775807 < (n:Int)):=by omega
    have h48':¬ (281474976710656 < Builtin.nextslicecap n 0 * i.bytes):=by rw [nextslicecap_zero h0]; omega
    simp [Builtin.append_,run_underlying ht,run_underlying hu,sizeOf,typeInfo,zeroValue,hi,hz,asInt,asIntOf,hw,hnn,hbb,hn,run_firstCells_none,h63',h48',Question.forced,newRow,grownCap]
    exact fun h=>absurd h (Nat.ne_of_gt hn0)
  grow ty b sLen sCap olds hlo holds hg h63 hfit:=by
    have hw:IntKind.i64.wrap (n:Int)=n:=IntWalk.i64_in _ ⟨by omega,h63n⟩
    have hnn:¬ ((n:Int) < 0):=by omega
    have hbb:¬ (281474976710656 < (n:Int) * (i.bytes:Int)):=by omega
    have hn2:¬ (n=0 ∨ i.size=0):=by rw [← Nat.mul_eq_zero]; omega
    have hn:¬ (sLen + n≤sCap):=by omega
    have h63':¬ (9223372036854775807 < ((sLen:Int) + (n:Int))):=by omega
    have h48':¬ (281474976710656 < Builtin.nextslicecap (sLen + n) sCap * i.bytes):=by omega
    have hfo:=run_firstCells_some (P:=P) w.drew i.size sLen b sLen sCap olds hlo (by simpa using holds)
    simp [Builtin.append_,run_underlying ht,run_underlying hu,sizeOf,typeInfo,zeroValue,hi,hz,asInt,asIntOf,hw,hnn,hbb,hn,h63',h48',Question.forced,hfo,newRow,grownCap]
    exact fun h=>absurd h (Nat.ne_of_gt hn0)
def SrcOk (P:Program) (G:Gh) (w:World) (t u e:TypeId) (i:TypeInfo) (z v:Value) (ys:List V):Prop :=
  (ys=[]∧∀ (ty:Nat) (A:Option Addr) (n cap:Nat),n≤cap→(Builtin.append_ #[t,u] ty #[.slice A n cap,v]).run P w=.ok (.slice A n cap) w) ∨
  (0 < ys.length∧∃ vs:Array Value,RepL G (ys.flatMap V.cells) vs∧vs.size=ys.length * i.size∧SrcRun P w t u e i z v ys.length vs.toList)
theorem Rep1.src (hw:RepW w0 G st w) {t e:TypeId} {i:TypeInfo} {z:Value} (ht:P.underlying t=some (.slice e)) (hi:P.info? e=some i) (hz:i.zero=some z) {tk:Tk} {ys:List V} {v:Value} (hy:Rep1 G (.sl tk ys) v) (hys:allSz i.size ys):SrcOk P G w t t e i z v ys:=by
  have hsl:∃ B c,v=.slice B ys.length c∧(B=none→ys=[]):=by
    cases hy with
    | nil=>exact ⟨_,_,rfl,fun _=>rfl⟩
    | emp=>exact ⟨_,_,rfl,fun h=>by cases h⟩
    | sl _ _ b o k cap=>exact ⟨_,_,rfl,fun h=>by cases h⟩
  obtain ⟨B,c,rfl,hB⟩:=hsl
  by_cases h0:ys=[]
  · subst h0
    exact .inl ⟨rfl,fun ty A n cap hn=>app_none t ty e i ht hi A n cap hn B c w⟩
  · have hpos:0 < ys.length:=List.length_pos_iff.2 h0
    cases B with
    | none=>exact absurd (hB rfl) h0
    | some b =>
      obtain ⟨_,us,h1,h2,h3⟩:=hy.flat hw hys
      exact .inr ⟨hpos,us,h1,h2,srcRun_slice ht hi hz b _ c _ (by simpa using h2) h3⟩
theorem box_src (hw:RepW w0 G st w) {t e:TypeId} {i:TypeInfo} {z:Value} (ht:P.underlying t=some (.slice e)) (hi:P.info? e=some i) (hz:i.zero=some z) {b o c:Nat} {cs ys:List V} (hb:st.box b=some cs) (hfit:o + ys.length * i.size≤cs.length) (hys:allSz i.size ys) (he:(cs.drop o).take (ys.length * i.size)=ys.flatMap V.cells) (hmo:mono cs) :
    SrcOk P G w t t e i z (.slice (some ⟨b,o,none⟩) ys.length c) ys:=by
  obtain ⟨u,hc,h1,hr⟩:=hw.boxCells hb hmo
  by_cases h0:ys=[]
  · subst h0
    exact .inl ⟨rfl,fun ty A n cap hn=>app_none t ty e i ht hi A n cap hn (some ⟨b,o,none⟩) c w⟩
  refine .inr ⟨List.length_pos_iff.2 h0,((List.range (ys.length * i.size)).map fun j=>u (o + j)).toArray,⟨?_,fun i v hv=>?_,fun i c' v hcc hv=>?_⟩,by simp,srcRun_slice ht hi hz _ _ c _ (by simp) (fun j v hv=>?_)⟩
  · rw [allLen_flat (allLen_of hys)]; simp
  · simp only [List.getElem?_toArray,List.getElem?_map,Option.map_eq_some_iff] at hv
    obtain ⟨j,hj,rfl⟩:=hv
    have hlt:=(List.getElem?_eq_some_iff.1 hj).1
    simp at hlt
    rw [List.getElem?_range hlt] at hj
    cases hj
    exact h1 _ (by omega)
  · simp only [List.getElem?_toArray,List.getElem?_map,Option.map_eq_some_iff] at hv
    obtain ⟨j,hj,rfl⟩:=hv
    have hlt:=(List.getElem?_eq_some_iff.1 hj).1
    simp at hlt
    rw [List.getElem?_range hlt] at hj
    cases hj
    rw [← he,List.getElem?_take,if_pos hlt,List.getElem?_drop] at hcc
    exact hr _ _ hcc
  · simp only [List.getElem?_map,Option.map_eq_some_iff] at hv
    obtain ⟨i,hi,rfl⟩:=hv
    have hlt:=(List.getElem?_eq_some_iff.1 hi).1
    simp at hlt
    rw [List.getElem?_range hlt] at hi
    cases hi
    have:=hc (o + j) (by omega)
    rw [Nat.zero_add] at this
    rw [addr_add]; exact this
theorem str_src {t u e:TypeId} {i:TypeInfo} {z:Value} (ht:P.underlying t=some (.slice e)) (hu:P.underlying u=some .string) (hi:P.info? e=some i) (hz:i.zero=some z) (h1:i.size=1) (s:ByteArray):SrcOk P G w t u e i z (.string s) (byL s):=by
  by_cases h0:s.size=0
  · refine .inl ⟨List.eq_nil_of_length_eq_zero (by rw [byL_length,h0]),fun ty A n cap hn=>?_⟩
    have hf:=firstCells_str (P:=P) i.size s w
    have hnil:strCs s=[]:=List.eq_nil_of_length_eq_zero (by rw [strCs_length,h0])
    rw [hnil,h0] at hf
    cases A <;> simp [Builtin.append_,run_underlying ht,run_underlying hu,sizeOf,typeInfo,hi,Builtin.lenOf,hn,h0,hf,storeCells]
  · refine .inr ⟨by rw [byL_length]; omega,(strCs s).toArray,byL_rep G s,by simp [strCs_length,byL_length,h1],?_⟩
    rw [byL_length]
    exact srcRun_str ht hu hi hz s
theorem zero_src {t u e:TypeId} {k:IntKind} {i:TypeInfo} {z:Value} (ht:P.underlying t=some (.slice e)) (hu:P.underlying u=some (.int k)) (hi:P.info? e=some i) (hz:i.zero=some z) (hzs:z.cells.size=i.size) (hsz:0 < i.size) {d:V} {k':IntKind} {n:Nat}
    (hd:RepL G d.cells z.cells) (h63:(n:Int)≤9223372036854775807) (h48:n * i.bytes≤281474976710656):SrcOk P G w t u e i z (.int k' n) (List.replicate n d):=by
  by_cases h0:n=0
  · subst h0
    refine .inl ⟨rfl,fun ty A n cap hn=>?_⟩
    have hw:IntKind.i64.wrap 0=0:=IntWalk.i64_in _ ⟨by omega,by omega⟩
    cases A <;> simp [Builtin.append_,run_underlying ht,run_underlying hu,sizeOf,typeInfo,hi,asInt,asIntOf,hw,hn,storeCells]
  · have hdl:=hd.len
    have hmod:∀ j,j < n * z.cells.size→j % z.cells.size < z.cells.size:=fun j _=>Nat.mod_lt _ (by omega)
    have hget:∀ (m j:Nat),j < m * d.cells.length→((List.replicate m d).flatMap V.cells)[j]?=d.cells[j % d.cells.length]?:=by
      intro m
      induction m with
      | zero=>intro j hj; simp at hj
      | succ m ih =>
        intro j hj
        rw [List.replicate_succ,List.flatMap_cons,List.getElem?_append]
        by_cases hjl:j < d.cells.length
        · rw [if_pos hjl,Nat.mod_eq_of_lt hjl]
        · rw [if_neg hjl,ih _ (by rw [Nat.add_mul] at hj; omega),← Nat.mod_eq_sub_mod (by omega)]
    have hzc:∀ (j:Nat) (v:Value),(Builtin.zeroCells z.cells n)[j]?=some v→j < n * z.cells.size∧z.cells[j % z.cells.size]?=some v:=by
      intro j v hv
      have hl:=(Array.getElem?_eq_some_iff.1 hv).1
      rw [size_zeroCells] at hl
      unfold Builtin.zeroCells at hv
      simp only [Array.getElem?_map,Option.map_eq_some_iff] at hv
      obtain ⟨q,hq,rfl⟩:=hv
      rw [Array.getElem?_range] at hq
      split at hq
      · simp only [Option.some.injEq] at hq
        subst hq
        refine ⟨hl,?_⟩
        have:=hmod _ hl
        rw [getElem!_pos z.cells _ this,Array.getElem?_eq_getElem this]
      · rename_i hc; exact absurd hl hc
    refine .inr ⟨by simp; omega,Builtin.zeroCells z.cells n,⟨?_,fun j v hv=>?_,fun j c v hc hv=>?_⟩,by simp [size_zeroCells,hzs],?_⟩
    · rw [size_zeroCells,List.length_flatMap]; simp [hdl]
    · exact hd.one _ _ (hzc j v hv).2
    · obtain ⟨q1,q2⟩:=hzc j v hv
      rw [hget n j (by rw [← hdl]; exact q1),← hdl] at hc
      exact hd.rep _ _ _ hc q2
    · rw [List.length_replicate]
      exact srcRun_zero ht hu hi hz k' (Nat.mul_pos (by omega) hsz) h63 h48
theorem mkb_sound (hw:RepW w0 G st w) {t elem:TypeId} {e:TypeInfo} {z:List V} (ht:P.underlying t=some (.slice elem)) (hi:P.info? elem=some e) (hz:zeroCells' P elem=some z) (hzl:z.length=e.size) (hsz:0 < e.size) {k' k:IntKind} {l n:Int} (h0:0≤l) (h0':l≤n) (h1:(e.bytes:Int) * n≤281474976710656) (h2:n≤9223372036854775807) :
    ∃ w',(Instr.makeSlice t (.int k' l) (.int k n)).run P w=.ok (.slice (some ⟨w.heap.size,0,none⟩) l.toNat n.toNat) w'∧RepW w0 G (st.put w.heap.size ((List.replicate n.toNat z).flatten)) w':=by
  unfold zeroCells' at hz
  rw [hi] at hz
  simp only at hz
  split at hz
  · rename_i v hv
    split at hz
    · rename_i hc
      simp only [Option.some.injEq] at hz
      subst hz
      have hzs:v.cells.size=e.size:=by simpa using hzl
      have hrun:=run_make (P:=P) w t elem e v ht hi hv k' k l n h0 h0' h1 h2
      refine ⟨_,hrun,hw.newBox _ _ _ ?_ ?_ ?_⟩
      · rw [size_madeCells]; simp [hzs]
      · intro i u hu
        simp only [Bool.and_eq_true,List.all_eq_true,Array.mem_toList_iff] at hc
        unfold madeCells at hu
        simp only [Array.getElem?_map,Option.map_eq_some_iff] at hu
        obtain ⟨j,_,rfl⟩:=hu
        have hlt:j % v.cells.size < v.cells.size:=Nat.mod_lt _ (by omega)
        rw [getElem!_pos v.cells _ hlt]
        exact hc.2 _ (Array.getElem_mem hlt)
      · intro i c u hcc hu
        simp only [Bool.and_eq_true,List.all_eq_true,Array.mem_toList_iff] at hc
        unfold madeCells at hu
        simp only [Array.getElem?_map,Option.map_eq_some_iff] at hu
        obtain ⟨j,hj,rfl⟩:=hu
        have hlt:j % v.cells.size < v.cells.size:=Nat.mod_lt _ (by omega)
        have hij:j=i:=by
          have hl:=(Array.getElem?_eq_some_iff.1 hj).1
          rw [Array.getElem?_range] at hj
          split at hj
          · simpa using hj.symm
          · cases hj
        subst hij
        have hget:∀ (m j:Nat),j < m * v.cells.size→((List.replicate m (v.cells.toList.map cellV)).flatten)[j]?=(v.cells.toList.map cellV)[j % v.cells.size]?:=by
          intro m
          induction m with
          | zero=>intro j hj; simp at hj
          | succ m ih =>
            intro j hj
            rw [List.replicate_succ,List.flatten_cons,List.getElem?_append]
            simp only [List.length_map,Array.length_toList]
            by_cases hjl:j < v.cells.size
            · rw [if_pos hjl,Nat.mod_eq_of_lt hjl]
            · rw [if_neg hjl,ih _ (by rw [Nat.add_mul] at hj; omega),← Nat.mod_eq_sub_mod (by omega)]
        have hjm:j < n.toNat * v.cells.size:=by
          have hl:=(Array.getElem?_eq_some_iff.1 hj).1
          simp at hl; rw [hzs]; exact hl
        rw [hget _ _ hjm] at hcc
        rw [getElem!_pos v.cells _ hlt]
        simp only [List.getElem?_map,Array.getElem?_toList,Array.getElem?_eq_getElem hlt,Option.map_some,Option.some.injEq] at hcc
        subst hcc
        exact cellV_rep G (hc.2 _ (Array.getElem_mem hlt))
    · cases hz
  · cases hz
theorem mks_sound (hw:RepW w0 G st w) {t elem:TypeId} {e:TypeInfo} {z:List V} (ht:P.underlying t=some (.slice elem)) (hi:P.info? elem=some e) (hz:zeroCells' P elem=some z) (hzl:z.length=e.size) (hsz:0 < e.size) {k:IntKind} {n:Int} (h0:0≤n) (h1:(e.bytes:Int) * n≤281474976710656) (h2:n≤9223372036854775807) :
    ∃ w',(Instr.makeSlice t (.int k n) (.int k n)).run P w=.ok (.slice (some ⟨w.heap.size,0,none⟩) n.toNat n.toNat) w'∧RepW w0 G (st.put w.heap.size ((List.replicate n.toNat z).flatten)) w' :=
  mkb_sound hw ht hi hz hzl hsz h0 (Int.le_refl _) h1 h2
theorem mko_sound (hw:RepW w0 G st w) {t elem:TypeId} {e:TypeInfo} {z:List V} (ht:P.underlying t=some (.slice elem)) (hi:P.info? elem=some e) (hz:zeroCells' P elem=some z) {k k':IntKind} {n:Int} (h0:0≤n) (h1:(e.bytes:Int) * n≤281474976710656) (h2:n≤9223372036854775807) :
    ∃ r w' G',(Instr.makeSlice t (.int k' 0) (.int k n)).run P w=.ok r w'∧Rep1 G' (.sl (.own w.heap.size e.size) []) r∧G.le G'∧RepW w0 G' (st.use w.heap.size 0) w':=by
  unfold zeroCells' at hz
  rw [hi] at hz
  simp only at hz
  split at hz
  · rename_i v hv
    have hrun:=run_make (P:=P) w t elem e v ht hi hv k' k 0 n (Int.le_refl _) h0 h1 h2
    obtain ⟨hle,hw'⟩:=hw.addRow rfl (madeCells v.cells (n.toNat * e.size)) elem e.size n.toNat 0 (by rw [size_madeCells]) (Nat.zero_le _) (by unfold maxLen; omega)
    refine ⟨_,_,_,hrun,?_,hle,hw'⟩
    exact row_rep (l:=[]) (us:=#[]) (size:=e.size) trivial ⟨rfl,fun i v hv=>by simp at hv,fun i c v hc=>by simp at hc⟩ (fun o v hv=>by simp at hv) (Nat.zero_le _) (by unfold maxLen; omega) _ (by simp) (fun g k' e'=>by cases e'; exact ⟨rfl,rfl,elem,by simp [Gh.addRow]⟩)
  · cases hz
theorem app_sound (hw:RepW w0 G st w) {t t2 elem ty:TypeId} {e:TypeInfo} {z:Value} (_:P.underlying t=some (.slice elem)) (_:P.info? elem=some e) (_:e.zero=some z) (hzs:z.cells.size=e.size) (_:0 < e.size)
    {x:V} {u v:Value} {l ys:List V} (hx:Rep1 G x u) (hown:Own e.size st x l) (hy:SrcOk P G w t t2 elem e z v ys) (hys:allSz e.size ys) (h63:l.length + ys.length≤maxLen) (hby:(l.length + ys.length) * e.bytes≤140737488355328) :
    ∃ r w' G' rv st',(Builtin.append_ #[t,t2] ty #[u,v]).run P w=.ok r w'∧Rep1 G' rv r∧G.le G'∧RepW w0 G' st' w'∧Own e.size st' rv (l ++ ys)∧AppSt st x st' rv:=by
  have hyl:=allLen_of hys
  have same:∀ {rv:V} (_:Own e.size st rv l) (_:rv=x),AppSt st x st rv:=fun {rv} _ hrv=>⟨rfl,fun h=>h,Nat.le_refl _,fun g m hg _=>hg,fun g k l' h=>.inl ⟨l',by rw [← hrv]; exact h⟩⟩
  rcases hown with ⟨rfl,rfl⟩ | ⟨g,rfl,hg,hgs⟩
  · have hu:u=.slice none 0 0:=by
      cases hx with
      | nil=>rfl
      | emp a cap hm own he=>simp at he
      | sl _ _ _ _ _ _ _ _ _ _ _ _ _ ho=>exact absurd rfl ho
    subst hu
    rcases hy with ⟨rfl,hnone⟩ | ⟨hpos,vs,hvs,hvsz,hR⟩
    · exact ⟨_,_,G,.sl .nil [],st,hnone ty none 0 0 (Nat.le_refl _),hx,.refl G,hw,.inl ⟨rfl,by simp⟩,⟨rfl,fun h=>h,Nat.le_refl _,fun g m hg _=>hg,fun g k l h=>by cases h⟩⟩
    · have hb:ys.length * e.bytes≤281474976710656:=by simp at hby; omega
      simp only [List.length_nil,Nat.zero_add] at h63
      have hrun:=hR.nil ty hpos (by unfold maxLen at h63; omega) hb
      have hge:=grownCap_ge w ys.length 0 elem
      have hle:=grownCap_le_maxLen w ys.length 0 elem h63
      obtain ⟨G',h1,h2,h3⟩:=app_new (us:=#[]) (vs:=vs) (zs:=Builtin.zeroCells z.cells (grownCap w ys.length 0 elem - ys.length)) (n:=0) (m:=ys.length) (l:=[]) hw.drew trivial hyl ⟨rfl,fun i v hv=>by simp at hv,fun i c v hc=>by simp at hc⟩ hvs elem (grownCap w ys.length 0 elem) rfl rfl (by
        simp only [size_zeroCells,hvsz,hzs,List.size_toArray,List.length_nil,Nat.zero_add,← Nat.add_mul]
        congr 1; omega) (by omega) hle
      simp only [Nat.zero_add,List.nil_append,Array.empty_append,World.size_drew] at h1 h2 h3
      simp only [Array.toArray_toList] at hrun
      refine ⟨_,_,G',_,_,hrun,h1,h2,h3,.inr ⟨w.heap.size,rfl,by simp [St.use],by simp only [St.use]; omega⟩,⟨rfl,use_lt,by simp only [St.use]; omega,fun g m hg _=>?_,fun g k l' h=>?_⟩⟩
      · have:=(hw.own g m hg).1
        have:=hw.sz
        simp only [St.use]
        rw [if_neg (by omega)]; exact hg
      · cases h; exact .inr hw.sz
  · cases hx with
    | nil _ ho=>exact absurd rfl (ho _ _)
    | emp a cap hm own he=>simp at he
    | sl _ _ b o k cap uu hk hF h1 hr hcap hm ho hown =>
      obtain ⟨rfl,rfl,rfl,e',hO⟩:=hown g _ rfl
      obtain ⟨_,hge0,e2,size2,cap2,cur,k3,hh,k5,k6,k7,k8⟩:=hw.own b _ hg
      rw [hO] at k3; cases k3
      rcases hy with ⟨rfl,hnone⟩ | ⟨hpos,vs,hvs,hvsz,hR⟩
      · have hown':Own e.size st (.sl (.own b e.size) (l ++ [])) (l ++ []):=by rw [List.append_nil]; exact Or.inr ⟨b,rfl,hg,hgs⟩
        exact ⟨_,_,G,.sl (.own b e.size) (l ++ []),st,hnone ty (some ⟨b,0,none⟩) l.length cap hcap,by
          simpa using Rep1.sl (.own b e.size) l b 0 e.size cap uu hk hF h1 hr hcap hm ho (fun g' k' hh=>by cases hh; exact ⟨rfl,rfl,rfl,_,hO⟩),.refl G,hw,hown',⟨rfl,fun h=>h,Nat.le_refl _,fun g m hg _=>hg,fun g k l' h=>by cases h; exact .inl ⟨l,by simp⟩⟩⟩
      · have hll:allSz e.size l:=fun d hd=>by
          obtain ⟨i,hi',rfl⟩:=List.mem_iff_getElem.1 hd
          exact hk i _ (List.getElem?_eq_getElem hi')
        have hxr:Rep1 G (.sl (.own b e.size) l) (.slice (some ⟨b,0,none⟩) l.length cap):=Rep1.sl (.own b e.size) l b 0 e.size cap uu hk hF h1 hr hcap hm ho (fun g' k' hh=>by cases hh; exact ⟨rfl,rfl,rfl,_,hO⟩)
        obtain ⟨_,us,hus,husz,huc⟩:=hxr.flat hw hll
        by_cases hroom:l.length + ys.length≤cap
        · have hfit:l.length * e.size + vs.toList.length≤cur.size:=by
            simp only [Array.length_toList,hvsz,k5,← Nat.add_mul]; exact Nat.mul_le_mul_right _ hroom
          have hrun:=hR.room ty b l.length cap cur _ hh hroom hfit (fun u hu=>by
            obtain ⟨j,hj,rfl⟩:=List.mem_iff_getElem.1 hu
            exact hvs.one j _ (by simp))
          obtain ⟨arr,harr⟩:∃ arr,arr=(cur.toList.take (l.length * e.size) ++ vs.toList ++ cur.toList.drop (l.length * e.size + vs.toList.length)).toArray:=⟨_,rfl⟩
          have harrs:arr.size=cap * e.size:=by rw [harr]; simp only [Array.length_toList] at hfit; simp; omega
          rw [← harr] at hrun
          have hget:∀ o,arr[o]?=if l.length * e.size≤o∧o < l.length * e.size + vs.size then vs[o - l.length * e.size]? else cur[o]?:=fun o=>by
            have tl:(cur.toList.take (l.length * e.size)).length=l.length * e.size:=by simp only [Array.length_toList] at hfit; simp; omega
            rw [harr]
            simp only [List.getElem?_toArray]
            rw [List.append_assoc,List.getElem?_append,tl]
            by_cases c1:o < l.length * e.size
            · rw [if_pos c1,if_neg (by omega),List.getElem?_take,if_pos c1]; simp
            · rw [if_neg c1,List.getElem?_append]
              simp only [Array.length_toList]
              by_cases c2:o - l.length * e.size < vs.size
              · rw [if_pos c2,if_pos (by omega)]; simp
              · rw [if_neg c2,if_neg (by omega),List.getElem?_drop]
                simp only [Array.getElem?_toList]
                congr 1; omega
          obtain ⟨hle,hw'⟩:=hw.more hg hO hh arr (l.length + ys.length) (by omega) hroom harrs (fun o ho=>by rw [hget,if_neg (by omega)])
          refine ⟨_,_,_,.sl (.own b e.size) (l ++ ys),_,hrun,?_,hle,hw',.inr ⟨b,rfl,by simp [St.use],by simp only [St.use]; omega⟩,⟨rfl,use_lt,by simp only [St.use]; omega,fun g m hg' hne=>?_,fun g k l' h=>by cases h; exact .inl ⟨l,rfl⟩⟩⟩
          · rw [show l.length + ys.length=(l ++ ys).length by simp]
            have hF2:∀ i j,i < (l ++ ys).length→j < e.size→(Gh.more G b arr (l.length * e.size) ((l ++ ys).length * e.size)).F b (0 + i * e.size + j)=some (if i < l.length then uu i j else vs.getD ((i - l.length) * e.size + j) undef):=fun i j hi' hj=>by
              rw [List.length_append] at hi'
              have hmul:(i + 1) * e.size≤(l.length + ys.length) * e.size:=Nat.mul_le_mul_right _ hi'
              rw [Nat.add_mul,Nat.add_mul] at hmul
              simp only [Gh.more,Nat.zero_add]
              by_cases c1:i < l.length
              · have hmul2:(i + 1) * e.size≤l.length * e.size:=Nat.mul_le_mul_right _ c1
                rw [Nat.add_mul] at hmul2
                rw [if_neg (by omega),if_pos c1]
                simpa using hF i j c1 hj
              · have hsub:i * e.size=l.length * e.size + (i - l.length) * e.size:=by rw [← Nat.add_mul]; congr 1; omega
                rw [if_pos ⟨by trivial,by omega,by rw [List.length_append,Nat.add_mul]; omega⟩,if_neg c1,hget,if_pos (by omega)]
                rw [show i * e.size + j - l.length * e.size=(i - l.length) * e.size + j by omega]
                have hlt:(i - l.length) * e.size + j < vs.size:=by omega
                simp [hlt]
            have hget2:∀ (i:Nat) (d:V),(l ++ ys)[i]?=some d→if i < l.length then l[i]?=some d else ys[i - l.length]?=some d:=fun i d hd=>by
              rw [List.getElem?_append] at hd
              split at hd
              · rename_i c1; rw [if_pos c1]; exact hd
              · rename_i c1; rw [if_neg c1]; exact hd
            refine .sl (.own b e.size) (l ++ ys) b 0 e.size cap (fun i j=>if i < l.length then uu i j else vs.getD ((i - l.length) * e.size + j) undef) (fun i d hd=>?_) (fun i j hi' hj=>by simpa using hF2 i j hi' hj) (fun i j hi' hj=>?_) (fun i d j cc hd hc=>?_) (by simpa using hroom) hm (by simp) (fun g' k' hh=>by cases hh; exact ⟨rfl,rfl,rfl,_,hO⟩)
            · have:=hget2 i d hd
              split at this
              · exact hk _ _ this
              · exact hys d (List.mem_of_getElem? this)
            · split
              · rename_i c1; exact h1 _ _ c1 hj
              · rename_i c1
                rw [List.length_append] at hi'
                have hmul:((i - l.length) + 1) * e.size≤ys.length * e.size:=Nat.mul_le_mul_right _ (by omega)
                rw [Nat.add_mul] at hmul
                have hlt:(i - l.length) * e.size + j < vs.size:=by omega
                exact hvs.one _ _ (by rw [Array.getElem?_eq_getElem hlt]; simp [hlt])
            · have h2:=hget2 i d hd
              split
              · rename_i c1; rw [if_pos c1] at h2; exact (hr _ _ _ _ h2 hc).mono (by rw [List.length_append]; exact hle)
              · rename_i c1
                rw [if_neg c1] at h2
                have hj:j < e.size:=by have:=(List.getElem?_eq_some_iff.1 hc).1; rw [hys d (List.mem_of_getElem? h2)] at this; exact this
                have hi2:=(List.getElem?_eq_some_iff.1 h2).1
                have hmul:((i - l.length) + 1) * e.size≤ys.length * e.size:=Nat.mul_le_mul_right _ (by omega)
                rw [Nat.add_mul] at hmul
                have hlt:(i - l.length) * e.size + j < vs.size:=by omega
                exact (hvs.rep ((i - l.length) * e.size + j) cc (vs.getD ((i - l.length) * e.size + j) undef) (by rw [flat_get hyl _ _ h2 hj]; exact hc) (by rw [Array.getElem?_eq_getElem hlt]; simp [hlt])).mono (by rw [List.length_append]; exact hle)
          · simp only [St.use]
            rw [if_neg (fun e3=>hne l e.size (by rw [e3]))]; exact hg'
        · have hrun:=hR.grow ty ⟨b,0,none⟩ l.length cap us.toList (by simpa using husz) huc (by omega) (by unfold maxLen at h63; omega) (growslice_fits (by omega) hby)
          have hge:=grownCap_ge w (l.length + ys.length) cap elem
          have hle:=grownCap_le_maxLen w (l.length + ys.length) cap elem h63
          obtain ⟨G',j1,j2,j3⟩:=app_new (us:=us) (vs:=vs) (zs:=Builtin.zeroCells z.cells (grownCap w (l.length + ys.length) cap elem - (l.length + ys.length))) (n:=l.length) (m:=ys.length) (l:=l) hw.drew (allLen_of hll) hyl hus hvs elem (grownCap w (l.length + ys.length) cap elem) rfl rfl (by
            simp only [size_zeroCells,hvsz,husz,hzs,← Nat.add_mul]
            congr 1; omega) hge hle
          simp only [World.size_drew] at j1 j2 j3
          simp only [Array.toArray_toList] at hrun
          refine ⟨_,_,G',_,_,hrun,j1,j2,j3,.inr ⟨w.heap.size,rfl,by simp [St.use],by simp only [St.use]; omega⟩,⟨rfl,use_lt,by simp only [St.use]; omega,fun g m hg' _=>?_,fun g k l' h=>?_⟩⟩
          · have:=(hw.own g m hg').1
            have:=hw.sz
            simp only [St.use]
            rw [if_neg (by omega)]; exact hg'
          · cases h; exact .inr hw.sz
theorem appF_sound (hw:RepW w0 G st w) {t t2 elem ty:TypeId} {e:TypeInfo} {z:Value} (_:P.underlying t=some (.slice elem)) (_:P.info? elem=some e) (_:e.zero=some z) (hzs:z.cells.size=e.size) (_:0 < e.size)
    {u v:Value} {l ys:List V} (hx:Rep1 G (.sl .full l) u) (hll:allSz e.size l) (hpos':0 < ys.length) (hy:SrcOk P G w t t2 elem e z v ys) (hys:allSz e.size ys) (h63:l.length + ys.length≤maxLen) (hby:(l.length + ys.length) * e.bytes≤140737488355328) :
    ∃ r w' G' rv st',(Builtin.append_ #[t,t2] ty #[u,v]).run P w=.ok r w'∧Rep1 G' rv r∧G.le G'∧RepW w0 G' st' w'∧Own e.size st' rv (l ++ ys)∧AppSt st (.sl .full l) st' rv:=by
  have hyl:=allLen_of hys
  rcases hy with ⟨rfl,hnone⟩ | ⟨hpos,vs,hvs,hvsz,hR⟩
  · simp at hpos'
  have fin:∀ {r:Value} {w':World} {G':Gh},(Builtin.append_ #[t,t2] ty #[u,v]).run P w=.ok r w'→Rep1 G' (.sl (.own w.heap.size e.size) (l ++ ys)) r→G.le G'→RepW w0 G' (st.use w.heap.size (l.length + ys.length)) w' →
      ∃ r w' G' rv st',(Builtin.append_ #[t,t2] ty #[u,v]).run P w=.ok r w'∧Rep1 G' rv r∧G.le G'∧RepW w0 G' st' w'∧Own e.size st' rv (l ++ ys)∧AppSt st (.sl .full l) st' rv:=fun {r w' G'} hrun j1 j2 j3=>by
    refine ⟨_,_,G',_,_,hrun,j1,j2,j3,.inr ⟨w.heap.size,rfl,by simp [St.use],by simp only [St.use]; omega⟩,⟨rfl,use_lt,by simp only [St.use]; omega,fun g m hg' _=>?_,fun g k l' h=>?_⟩⟩
    · have:=(hw.own g m hg').1
      have:=hw.sz
      simp only [St.use]
      rw [if_neg (by omega)]; exact hg'
    · cases h; exact .inr hw.sz
  have grown:∀ (b:Addr) (c:Nat),u=.slice (some b) l.length c→c=l.length→∃ r w' G' rv st',(Builtin.append_ #[t,t2] ty #[u,v]).run P w=.ok r w'∧Rep1 G' rv r∧G.le G'∧RepW w0 G' st' w'∧Own e.size st' rv (l ++ ys)∧AppSt st (.sl .full l) st' rv:=fun b c hu hc=>by
    subst hu
    obtain ⟨_,us,hus,husz,huc⟩:=hx.flat hw hll
    have hrun:=hR.grow ty b l.length c us.toList (by simpa using husz) huc (by omega) (by unfold maxLen at h63; omega) (growslice_fits (by omega) hby)
    have hge:=grownCap_ge w (l.length + ys.length) c elem
    have hle:=grownCap_le_maxLen w (l.length + ys.length) c elem h63
    obtain ⟨G',j1,j2,j3⟩:=app_new (us:=us) (vs:=vs) (zs:=Builtin.zeroCells z.cells (grownCap w (l.length + ys.length) c elem - (l.length + ys.length))) (n:=l.length) (m:=ys.length) (l:=l) hw.drew (allLen_of hll) hyl hus hvs elem (grownCap w (l.length + ys.length) c elem) rfl rfl (by
      simp only [size_zeroCells,hvsz,husz,hzs,← Nat.add_mul]
      congr 1; omega) hge hle
    simp only [World.size_drew] at j1 j2 j3
    simp only [Array.toArray_toList] at hrun
    exact fin hrun j1 j2 j3
  cases hx with
  | nil =>
    have hb:ys.length * e.bytes≤281474976710656:=by simp at hby; omega
    simp only [List.length_nil,Nat.zero_add] at h63
    have hrun:=hR.nil ty hpos (by unfold maxLen at h63; omega) hb
    have hge:=grownCap_ge w ys.length 0 elem
    have hle:=grownCap_le_maxLen w ys.length 0 elem h63
    obtain ⟨G',h1,h2,h3⟩:=app_new (us:=#[]) (vs:=vs) (zs:=Builtin.zeroCells z.cells (grownCap w ys.length 0 elem - ys.length)) (n:=0) (m:=ys.length) (l:=[]) hw.drew trivial hyl ⟨rfl,fun i v hv=>by simp at hv,fun i c v hc=>by simp at hc⟩ hvs elem (grownCap w ys.length 0 elem) rfl rfl (by
      simp only [size_zeroCells,hvsz,hzs,List.size_toArray,List.length_nil,Nat.zero_add,← Nat.add_mul]
      congr 1; omega) (by omega) hle
    simp only [Nat.zero_add,List.nil_append,Array.empty_append,World.size_drew] at h1 h2 h3
    simp only [Array.toArray_toList] at hrun
    exact fin hrun h1 h2 (by simpa using h3)
  | emp a cap hm own he=>exact grown a cap rfl (by simpa using he)
  | sl _ _ b o k cap uu hk hF h1 hr hcap hm ho hown hfull=>exact grown _ cap rfl (hfull rfl)
theorem copy_sound (hw:RepW w0 G st w) {t elem ty:TypeId} {e:TypeInfo} (ht:P.underlying t=some (.slice elem)) (hi:P.info? elem=some e) {b o n c:Nat} {cs:List V} (hb:st.box b=some cs) (hmo:mono cs) {a:Addr} {m c':Nat} {ds:List V} {vs:List Value}
    (hvs:RepL G ds vs.toArray) (hl:vs.length=min m n * e.size) (hsrc:∀ (j:Nat) (u:Value),vs[j]?=some u→w.cell? (a.add j)=some u) (hfit:o + n * e.size≤cs.length) :
    ∃ w',(Builtin.copy_ #[t,t] ty #[.slice (some ⟨b,o,none⟩) n c,.slice (some a) m c']).run P w=.ok (.int .i64 (min m n:Nat)) w'∧RepW w0 G (st.put b (splice cs o ds)) w':=by
  obtain ⟨hlt,hge0,hF,hO,hrb⟩:=hw.box b cs hb
  obtain ⟨cur,te,hh,hcl,hc1,hcr⟩:=hrb.row hmo
  have hvl:vs.length=ds.length:=by simpa using hvs.len
  have hmn:min m n * e.size≤n * e.size:=Nat.mul_le_mul_right _ (Nat.min_le_right _ _)
  have hld:=run_loadCells_list (P:=P) w a vs hsrc
  have h1:∀ v ∈ vs,v.oneCell'=true:=fun v hv=>by
    obtain ⟨j,hj⟩:=List.mem_iff_getElem?.1 hv
    exact hvs.one j v (by simpa using hj)
  have hst:=run_storeCells_at P b o te vs 0 cur w hh (by simp; omega) h1
  have hset:=setRow_heap w b cur (cur.toList.take o ++ vs ++ cur.toList.drop (o + vs.length)).toArray _ _ hh
  refine ⟨w.setRow b (cur.toList.take o ++ vs ++ cur.toList.drop (o + vs.length)).toArray,?_,?_⟩
  · have hmn':Nat.min m n=min m n:=rfl
    rw [hl] at hld
    simp only [Nat.add_zero] at hst
    simp [Builtin.copy_,run_underlying ht,Builtin.lenOf,Builtin.firstCells,sizeOf,typeInfo,hi,hmn',hld,hst,goInt]
  · have tl:(cur.toList.take o).length=o:=by simp; omega
    have tc:(cs.take o).length=o:=by simp; omega
    refine hw.setBox hb _ _ te _ hset (fun k hk=>setRow_other w b k _ hk) (by simp) rfl rfl rfl ?_ (fun i v hv=>?_) (fun i x v hx hv=>?_)
    · simp only [splice,List.size_toArray,List.length_append,List.length_take,List.length_drop,Array.length_toList]; omega
    · simp only [List.getElem?_toArray] at hv
      rcases List.mem_append.1 (List.mem_of_getElem? hv) with h | h
      · rcases List.mem_append.1 h with h | h
        · obtain ⟨j,hj⟩:=List.mem_iff_getElem?.1 (List.mem_of_mem_take h)
          exact hc1 j v (by simpa using hj)
        · exact h1 v h
      · obtain ⟨j,hj⟩:=List.mem_iff_getElem?.1 (List.mem_of_mem_drop h)
        exact hc1 j v (by simpa using hj)
    · simp only [List.getElem?_toArray] at hv
      unfold splice at hx
      rw [List.append_assoc,List.getElem?_append,tl] at hv
      rw [List.append_assoc,List.getElem?_append,tc] at hx
      split at hx
      · rename_i h0
        rw [if_pos h0,List.getElem?_take,if_pos h0] at hv
        rw [List.getElem?_take,if_pos h0] at hx
        exact hcr i x v hx (by simpa using hv)
      · rename_i h0
        rw [if_neg h0,List.getElem?_append] at hv
        rw [List.getElem?_append] at hx
        split at hx
        · rename_i h2
          rw [if_pos (by omega)] at hv
          exact hvs.rep _ x v hx (by simpa using hv)
        · rename_i h2
          rw [if_neg (by omega),List.getElem?_drop] at hv
          rw [List.getElem?_drop] at hx
          refine hcr (o + ds.length + (i - o - ds.length)) x v hx ?_
          have:o + vs.length + (i - o - vs.length)=o + ds.length + (i - o - ds.length):=by omega
          rw [this] at hv
          simpa using hv
theorem mono_of_rep {cs:List V} {vs:Array Value} (h:RepL G cs vs):mono cs:=by
  unfold mono
  split
  · rename_i c
    have hs:vs.size=1:=h.len
    have:=h.rep 0 c vs[0] rfl (Array.getElem?_eq_getElem (by omega))
    generalize vs[0]=v at this
    cases this <;> rfl
  · trivial
theorem mono_and {cs:List V} {vs:Array Value} {p:Prop} (hp:RepL G cs vs→p) (h:RepL G cs vs):mono cs∧p:=⟨mono_of_rep h,hp h⟩
theorem appB_sound (hw:RepW w0 G st w) {t t2 elem ty:TypeId} {e:TypeInfo} {z:Value} (_:P.underlying t=some (.slice elem)) (_:P.info? elem=some e) (_:e.zero=some z) (hzs:z.cells.size=e.size) (hz1:∀ u ∈ z.cells,u.oneCell'=true) (hsz:0 < e.size)
    {b n cap:Nat} {cs ys:List V} {v:Value} (hb:st.box b=some cs) (hcs:cs.length=cap * e.size) (hmo:mono cs) (hn:n≤cap) (hcap:cap≤maxLen) (hy:SrcOk P G w t t2 elem e z v ys) (hys:allSz e.size ys) (h63:n + ys.length≤maxLen) (hby:(n + ys.length) * e.bytes≤140737488355328) :
    ∃ b' cap' spare w',(Builtin.append_ #[t,t2] ty #[.slice (some ⟨b,0,none⟩) n cap,v]).run P w=.ok (.slice (some ⟨b',0,none⟩) (n + ys.length) cap') w'∧(b'=b ∨ st.sz≤b')∧n + ys.length≤cap'∧cap'≤maxLen ∧
      (n + ys.length) * e.size + spare.length=cap' * e.size∧(n + ys.length≤cap→b'=b∧cap'=cap∧spare=cs.drop ((n + ys.length) * e.size))∧mono (cs.take (n * e.size) ++ ys.flatMap V.cells ++ spare)∧RepW w0 G (st.put b' (cs.take (n * e.size) ++ ys.flatMap V.cells ++ spare)) w':=by
  have hyl:=allLen_of hys
  have hmul:n * e.size≤cap * e.size:=Nat.mul_le_mul_right _ hn
  obtain ⟨hlt,hge0,hF,hO,hrb⟩:=hw.box b cs hb
  obtain ⟨cur,te,hh,hcl,hc1,hcr⟩:=hrb.row hmo
  rcases hy with ⟨rfl,hnone⟩ | ⟨hpos,vs,hvs,hvsz,hR⟩
  · have e1:cs.take (n * e.size) ++ ([]:List V).flatMap V.cells ++ cs.drop (n * e.size)=cs:=by simp
    refine ⟨b,cap,cs.drop (n * e.size),w,hnone ty _ n cap hn,.inl rfl,hn,hcap,by simp; omega,fun _=>⟨rfl,rfl,by simp⟩,by rw [e1]; exact hmo,?_⟩
    rw [e1]
    exact hw.setBox hb w cur te cs hh (fun _ _=>rfl) rfl rfl rfl rfl hcl hc1 hcr
  · have hvl:=hvs.len
    rw [allLen_flat hyl] at hvl
    have hfl:(ys.flatMap V.cells).length=ys.length * e.size:=allLen_flat hyl
    by_cases hroom:n + ys.length≤cap
    · have hmul2:(n + ys.length) * e.size≤cap * e.size:=Nat.mul_le_mul_right _ hroom
      rw [Nat.add_mul] at hmul2
      have hfit:n * e.size + vs.toList.length≤cur.size:=by simp only [Array.length_toList]; omega
      have hrun:=hR.room ty b n cap cur _ hh hroom hfit (fun u hu=>by
        obtain ⟨j,hj,rfl⟩:=List.mem_iff_getElem.1 hu
        exact hvs.one j _ (by simp))
      refine ⟨b,cap,cs.drop (n * e.size + ys.length * e.size),_,hrun,.inl rfl,hroom,hcap,by rw [List.length_drop,Nat.add_mul]; omega,fun _=>⟨rfl,rfl,by rw [Nat.add_mul]⟩,?_⟩
      have hset:=setRow_heap w b cur (cur.toList.take (n * e.size) ++ vs.toList ++ cur.toList.drop (n * e.size + vs.toList.length)).toArray _ _ hh
      have tl:(cur.toList.take (n * e.size)).length=n * e.size:=by simp; omega
      have tc:(cs.take (n * e.size)).length=n * e.size:=by simp; omega
      have hvl2:vs.toList.length=ys.length * e.size:=by simp only [Array.length_toList]; omega
      refine mono_and (G:=G) (vs:=(cur.toList.take (n * e.size) ++ vs.toList ++ cur.toList.drop (n * e.size + vs.toList.length)).toArray) (fun hrl=>hw.setBox hb _ _ te _ hset (fun k hk=>setRow_other w b k _ hk) (by simp) rfl rfl rfl hrl.len hrl.one hrl.rep) ⟨?_,fun i u hu=>?_,fun i x u hx hu=>?_⟩
      · simp only [List.size_toArray,List.length_append,tl,tc,hvl2,hfl,List.length_drop,Array.length_toList]; omega
      · simp only [List.getElem?_toArray] at hu
        rcases List.mem_append.1 (List.mem_of_getElem? hu) with h | h
        · rcases List.mem_append.1 h with h | h
          · obtain ⟨j,hj⟩:=List.mem_iff_getElem?.1 (List.mem_of_mem_take h)
            exact hc1 j u (by simpa using hj)
          · obtain ⟨j,hj⟩:=List.mem_iff_getElem?.1 h
            exact hvs.one j u (by simpa using hj)
        · obtain ⟨j,hj⟩:=List.mem_iff_getElem?.1 (List.mem_of_mem_drop h)
          exact hc1 j u (by simpa using hj)
      · simp only [List.getElem?_toArray] at hu
        rw [List.append_assoc,List.getElem?_append,tl] at hu
        rw [List.append_assoc,List.getElem?_append,tc] at hx
        split at hx
        · rename_i h1
          rw [if_pos h1,List.getElem?_take,if_pos h1] at hu
          rw [List.getElem?_take,if_pos h1] at hx
          exact hcr i x u hx (by simpa using hu)
        · rename_i h1
          rw [if_neg h1,List.getElem?_append,hvl2] at hu
          rw [List.getElem?_append,hfl] at hx
          split at hx
          · rename_i h2
            rw [if_pos h2] at hu
            exact hvs.rep _ x u hx (by simpa using hu)
          · rename_i h2
            rw [if_neg h2,List.getElem?_drop] at hu
            rw [List.getElem?_drop] at hx
            exact hcr _ x u hx (by simpa using hu)
    · have hrun:=hR.grow ty ⟨b,0,none⟩ n cap (cur.toList.take (n * e.size)) (by simp; omega) (fun j u hu=>by
        rw [List.getElem?_take] at hu
        split at hu
        · rw [addr_add,cell_of_row w b _ cur te _ hh]; simpa using hu
        · cases hu) (by omega) (by unfold maxLen at h63; omega) (growslice_fits (by omega) hby)
      have hge:=grownCap_ge w (n + ys.length) cap elem
      have hle:=grownCap_le_maxLen w (n + ys.length) cap elem h63
      generalize grownCap w (n + ys.length) cap elem=k at *
      have hmul3:(n + ys.length) * e.size≤k * e.size:=Nat.mul_le_mul_right _ hge
      have hzc:(Builtin.zeroCells z.cells (k - (n + ys.length))).size=k * e.size - (n + ys.length) * e.size:=by rw [size_zeroCells,hzs,Nat.sub_mul]
      refine ⟨w.heap.size,k,List.replicate (k * e.size - (n + ys.length) * e.size) .any,_,hrun,.inr hw.sz,hge,hle,by simp; omega,fun h=>absurd h hroom,?_⟩
      have tl:(cur.toList.take (n * e.size)).length=n * e.size:=by simp; omega
      have tc:(cs.take (n * e.size)).length=n * e.size:=by simp; omega
      have hvl2:vs.toList.length=ys.length * e.size:=by simp only [Array.length_toList]; omega
      refine mono_and (G:=G) (vs:=(cur.toList.take (n * e.size) ++ vs.toList).toArray ++ Builtin.zeroCells z.cells (k - (n + ys.length))) (fun hrl=>?_) ⟨by
        simp only [Array.size_append,List.size_toArray,List.length_append,tl,tc,hvl2,hfl,hzc,List.length_replicate],fun i u hu=>?_,fun i x u hx hu=>?_⟩
      · have hnew:=hw.drew.newBox ((cur.toList.take (n * e.size) ++ vs.toList).toArray ++ Builtin.zeroCells z.cells (k - (n + ys.length))) elem (cs.take (n * e.size) ++ ys.flatMap V.cells ++ List.replicate (k * e.size - (n + ys.length) * e.size) .any) hrl.len hrl.one hrl.rep
        rw [World.size_drew,show (cur.toList.take (n * e.size) ++ vs.toList).toArray=(cur.toList.take (n * e.size)).toArray ++ vs.toList.toArray from by apply Array.ext'; simp] at hnew
        exact hnew
      · rw [Array.getElem?_append] at hu
        split at hu
        · simp only [List.getElem?_toArray] at hu
          rcases List.mem_append.1 (List.mem_of_getElem? hu) with h | h
          · obtain ⟨j,hj⟩:=List.mem_iff_getElem?.1 (List.mem_of_mem_take h)
            exact hc1 j u (by simpa using hj)
          · obtain ⟨j,hj⟩:=List.mem_iff_getElem?.1 h
            exact hvs.one j u (by simpa using hj)
        · unfold Builtin.zeroCells at hu
          simp only [Array.getElem?_map,Option.map_eq_some_iff] at hu
          obtain ⟨j,_,rfl⟩:=hu
          have hlt:j % z.cells.size < z.cells.size:=Nat.mod_lt _ (by omega)
          rw [getElem!_pos z.cells _ hlt]
          exact hz1 _ (Array.getElem_mem hlt)
      · rw [List.append_assoc,List.getElem?_append,tc] at hx
        rw [Array.getElem?_append] at hu
        simp only [List.size_toArray,List.length_append,tl,hvl2] at hu
        split at hx
        · rename_i h1
          rw [if_pos (by omega)] at hu
          simp only [List.getElem?_toArray] at hu
          rw [List.getElem?_append,tl,if_pos h1,List.getElem?_take,if_pos h1] at hu
          rw [List.getElem?_take,if_pos h1] at hx
          exact hcr i x u hx (by simpa using hu)
        · rename_i h1
          rw [List.getElem?_append,hfl] at hx
          split at hx
          · rename_i h2
            rw [if_pos (by omega)] at hu
            simp only [List.getElem?_toArray] at hu
            rw [List.getElem?_append,tl,if_neg h1] at hu
            exact hvs.rep _ x u hx (by simpa using hu)
          · rw [List.getElem?_replicate] at hx
            split at hx
            · cases hx; exact .any u
            · cases hx
theorem appN_sound (hw:RepW w0 G st w) {t t2 elem ty:TypeId} {e:TypeInfo} {z:Value} (_:P.underlying t=some (.slice elem)) (_:P.info? elem=some e) (_:e.zero=some z) (hzs:z.cells.size=e.size) (hz1:∀ u ∈ z.cells,u.oneCell'=true) (hsz:0 < e.size)
    {ys:List V} {v:Value} (hy:SrcOk P G w t t2 elem e z v ys) (hys:allSz e.size ys) (hpos:0 < ys.length) (h63:ys.length≤maxLen) (hby:ys.length * e.bytes≤140737488355328) :
    ∃ b' cap' spare w',(Builtin.append_ #[t,t2] ty #[.slice none 0 0,v]).run P w=.ok (.slice (some ⟨b',0,none⟩) ys.length cap') w'∧st.sz≤b'∧ys.length≤cap'∧cap'≤maxLen ∧
      ys.length * e.size + spare.length=cap' * e.size∧mono (ys.flatMap V.cells ++ spare)∧RepW w0 G (st.put b' (ys.flatMap V.cells ++ spare)) w':=by
  have hyl:=allLen_of hys
  obtain ⟨vs,hvs,hvsz,hR⟩:∃ vs:Array Value,RepL G (ys.flatMap V.cells) vs∧vs.size=ys.length * e.size∧SrcRun P w t t2 elem e z v ys.length vs.toList:=by
    rcases hy with ⟨rfl,_⟩ | ⟨_,h⟩
    · exact absurd hpos (by simp)
    · exact h
  have hvl:=hvs.len
  rw [allLen_flat hyl] at hvl
  have hfl:(ys.flatMap V.cells).length=ys.length * e.size:=allLen_flat hyl
  have hb:ys.length * e.bytes≤281474976710656:=by omega
  have hrun:=hR.nil ty hpos (by unfold maxLen at h63; omega) hb
  have hge:=grownCap_ge w ys.length 0 elem
  have hle:=grownCap_le_maxLen w ys.length 0 elem h63
  generalize grownCap w ys.length 0 elem=k at *
  have hmul3:ys.length * e.size≤k * e.size:=Nat.mul_le_mul_right _ hge
  have hzc:(Builtin.zeroCells z.cells (k - ys.length)).size=k * e.size - ys.length * e.size:=by rw [size_zeroCells,hzs,Nat.sub_mul]
  refine ⟨w.heap.size,k,List.replicate (k * e.size - ys.length * e.size) .any,_,hrun,hw.sz,hge,hle,by simp; omega,?_⟩
  have hvl2:vs.toList.length=ys.length * e.size:=by simp only [Array.length_toList]; omega
  refine mono_and (G:=G) (vs:=vs.toList.toArray ++ Builtin.zeroCells z.cells (k - ys.length)) (fun hrl=>?_) ⟨by
    simp only [Array.size_append,List.size_toArray,List.length_append,hvl2,hfl,hzc,List.length_replicate],fun i u hu=>?_,fun i x u hx hu=>?_⟩
  · have hnew:=hw.drew.newBox (vs.toList.toArray ++ Builtin.zeroCells z.cells (k - ys.length)) elem (ys.flatMap V.cells ++ List.replicate (k * e.size - ys.length * e.size) .any) hrl.len hrl.one hrl.rep
    rw [World.size_drew] at hnew
    exact hnew
  · rw [Array.getElem?_append] at hu
    split at hu
    · simp only [List.getElem?_toArray] at hu
      exact hvs.one i u (by simpa using hu)
    · unfold Builtin.zeroCells at hu
      simp only [Array.getElem?_map,Option.map_eq_some_iff] at hu
      obtain ⟨j,_,rfl⟩:=hu
      have hlt:j % z.cells.size < z.cells.size:=Nat.mod_lt _ (by omega)
      rw [getElem!_pos z.cells _ hlt]
      exact hz1 _ (Array.getElem_mem hlt)
  · rw [List.getElem?_append,hfl] at hx
    rw [Array.getElem?_append] at hu
    simp only [List.size_toArray,hvl2] at hu
    split at hx
    · rename_i h1
      rw [if_pos h1] at hu
      simp only [List.getElem?_toArray] at hu
      exact hvs.rep i x u hx (by simpa using hu)
    · rw [List.getElem?_replicate] at hx
      split at hx
      · cases hx; exact .any u
      · cases hx
theorem repl_get {z:List V}:∀ {k i:Nat},0 < z.length→i < k * z.length→(List.replicate k z).flatten[i]?=z[i % z.length]?
  | 0,i,_,h=>by simp at h
  | k + 1,i,h0,h=>by
    rw [List.replicate_succ,List.flatten_cons,List.getElem?_append]
    split
    · rename_i hlt; rw [Nat.mod_eq_of_lt hlt]
    · rename_i hge
      rw [Nat.add_mul,Nat.one_mul] at h
      rw [repl_get h0 (by omega)]
      rw [Nat.mod_eq_sub_mod (a:=i) (by omega)]
theorem clr_sound (hw:RepW w0 G st w) {t elem ty:TypeId} {e:TypeInfo} {z:List V} (ht:P.underlying t=some (.slice elem)) (_:P.info? elem=some e) (hz:zeroCells' P elem=some z) (hzl:z.length=e.size) (hs:0 < e.size) {b o n c:Nat} {cs:List V} (hb:st.box b=some cs) (hfit:o + n * e.size≤cs.length) (hmo:mono cs) :
    ∃ w',(Builtin.clear_ #[t] ty #[.slice (some ⟨b,o,none⟩) n c]).run P w=.ok (.tuple #[]) w'∧RepW w0 G (st.put b (splice cs o (List.replicate n z).flatten)) w':=by
  obtain ⟨zv,hzv,hzr,hzs⟩:=zero_sound (G:=G) hz w
  obtain ⟨hlt,hge0,hF,hO,hrb⟩:=hw.box b cs hb
  obtain ⟨vs,te,hh,hvl,h1,hr⟩:=hrb.row hmo
  have hvc:RepL G cs vs:=⟨hvl,h1,hr⟩
  cases n with
  | zero =>
    refine ⟨w,by simp [Builtin.clear_,run_underlying ht],?_⟩
    have e1:splice cs o (List.replicate 0 z).flatten=cs:=by simp [splice]
    rw [e1]
    exact hw.setBox hb w vs te cs hh (fun _ _=>rfl) rfl rfl rfl rfl hvl h1 hr
  | succ n =>
    have hyr:RepL G (List.replicate (n + 1) z).flatten (Builtin.zeroCells zv.cells (n + 1)):=by
      have hsz:(Builtin.zeroCells zv.cells (n + 1)).size=(n + 1) * e.size:=by rw [size_zeroCells,hzs,hzl]
      have hlen:(List.replicate (n + 1) z).flatten.length=(n + 1) * e.size:=by simp [hzl]
      have hget:∀ i v,(Builtin.zeroCells zv.cells (n + 1))[i]?=some v→zv.cells[i % e.size]?=some v:=fun i v hv=>by
        unfold Builtin.zeroCells at hv
        simp only [Array.getElem?_map,Option.map_eq_some_iff] at hv
        obtain ⟨j,hj,rfl⟩:=hv
        have hj':=(Array.getElem?_eq_some_iff.1 hj)
        obtain ⟨hjl,hje⟩:=hj'
        simp at hje
        subst hje
        have hlt:i % zv.cells.size < zv.cells.size:=Nat.mod_lt _ (by omega)
        rw [getElem!_pos zv.cells _ hlt,← hzl,← hzs]
        exact Array.getElem?_eq_getElem hlt
      refine ⟨by rw [hsz,hlen],fun i v hv=>hzr.one _ _ (hget i v hv),fun i x v hx hv=>hzr.rep _ x v ?_ (hget i v hv)⟩
      have hi':i < (n + 1) * e.size:=by rw [← hlen]; exact (List.getElem?_eq_some_iff.1 hx).1
      rw [← hx]
      exact (repl_get (z:=z) (k:=n + 1) (by omega) (by rw [hzl]; exact hi') |>.trans (by rw [hzl])).symm
    have hflen:(List.replicate (n + 1) z).flatten.length=(n + 1) * e.size:=by simp [hzl]
    obtain ⟨w',k1,k2⟩:=cells_store (P:=P) (o:=o) hw hb hyr (by omega) hmo
    refine ⟨w',?_,k2⟩
    simp [Builtin.clear_,run_underlying ht,hzv,k1]
end
end
section
open Go Go.RowKit
def Lf.fit:Lf→Value→Prop
  | .int k,.int k' _=>k=k'
  | .bool,.bool _=>True
  | .str,.string _=>True
  | _,_=>False
def FitL:List Lf→List Value→Prop
  | [],[]=>True
  | a :: l,x :: m=>a.fit x∧FitL l m
  | _,_=>False
def eqW1:Value→Value→Bool
  | .int _ a,.int _ b=>a == b
  | .bool a,.bool b=>a == b
  | .string a,.string b=>a.toList == b.toList
  | _,_=>false
def eqW:List Value→List Value→Bool
  | a :: l,b :: m=>eqW1 a b && eqW l m
  | _,_=>true
theorem FitL.len:∀ {l:List Lf} {m:List Value},FitL l m→m.length=l.length
  | [],[],_=>rfl
  | _ :: _,_ :: _,h=>by simp [FitL.len h.2]
  | [],_ :: _,h=>h.elim
  | _ :: _,[],h=>h.elim
theorem FitL.split:∀ {a b:List Lf} {m:List Value},FitL (a ++ b) m→FitL a (m.take a.length)∧FitL b (m.drop a.length)
  | [],b,m,h=>by simpa [FitL] using h
  | x :: a,b,[],h=>h.elim
  | x :: a,b,y :: m,h=>by
    obtain ⟨h1,h2⟩:=FitL.split h.2
    exact ⟨⟨h.1,by simpa using h1⟩,by simpa using h2⟩
theorem eqW_split:∀ (n:Nat) (x y:List Value),x.length=y.length→eqW x y=(eqW (x.take n) (y.take n) && eqW (x.drop n) (y.drop n))
  | 0,x,y,_=>by simp [eqW]
  | n + 1,[],[],_=>by simp [eqW]
  | n + 1,[],_ :: _,h=>by simp at h
  | n + 1,_ :: _,[],h=>by simp at h
  | n + 1,a :: x,b :: y,h=>by
    simp only [eqW,List.take_succ_cons,List.drop_succ_cons,eqW_split n x y (by simpa using h),Bool.and_assoc]
def packW (P:Program) (t:TypeId) (xs:List Value):Value:=if isA P t=true then .agg xs.toArray else xs.headD undef
section
variable {P:Program}
theorem leafs_len {n:Nat} {t:TypeId} {l:List Lf} (h:leafs P n t=some l):l.length=P.cellsOf t∧0 < l.length:=by
  cases n with
  | zero=>simp [leafs] at h
  | succ n =>
    simp only [leafs,Option.bind_eq_some_iff] at h
    obtain ⟨l',_,h2⟩:=h
    split at h2
    · rename_i hh; cases h2; exact hh
    · cases h2
theorem leafs_u {n:Nat} {t:TypeId} {l:List Lf} (h:leafs P (n + 1) t=some l):leafsU P (leafs P n) t=some l:=by
  simp only [leafs,Option.bind_eq_some_iff] at h
  obtain ⟨l',h1,h2⟩:=h
  split at h2
  · cases h2; exact h1
  · cases h2
theorem part_leafs (w:World) {n:Nat} {t:TypeId} {l:List Lf} (h:leafs P n t=some l) (xs:Array Value) (off:Nat) (hf:FitL l ((xs.toList.drop off).take (P.cellsOf t))) :
    (part t xs off).run P w=.ok (packW P t ((xs.toList.drop off).take (P.cellsOf t))) w:=by
  obtain ⟨hl,hpos⟩:=leafs_len h
  cases n with
  | zero=>simp [leafs] at h
  | succ n =>
    have hu:=leafs_u h
    unfold leafsU at hu
    have hx:(xs.extract off (off + P.cellsOf t))=((xs.toList.drop off).take (P.cellsOf t)).toArray:=by
      apply Array.toList_inj.1
      rw [Array.toList_extract]
      simp [List.extract]
    have one:l.length=1→∃ v,xs[off]?=some v∧(xs.toList.drop off).take (P.cellsOf t)=[v]:=fun h1=>by
      have:=hf.len
      have hlen:((xs.toList.drop off).take (P.cellsOf t)).length=1:=by omega
      obtain ⟨v,hv⟩:=List.length_eq_one_iff.1 hlen
      refine ⟨v,?_,hv⟩
      have:((xs.toList.drop off).take (P.cellsOf t))[0]?=some v:=by rw [hv]; rfl
      rw [List.getElem?_take,if_pos (by omega),List.getElem?_drop] at this
      simpa using this
    split at hu
    · rename_i k hk
      cases hu
      obtain ⟨v,hv,e⟩:=one rfl
      rw [e]
      simp [part,isAgg,run_underlying hk,hv,packW,isA,hk]
    · rename_i hk
      cases hu
      obtain ⟨v,hv,e⟩:=one rfl
      rw [e]
      simp [part,isAgg,run_underlying hk,hv,packW,isA,hk]
    · rename_i hk
      cases hu
      obtain ⟨v,hv,e⟩:=one rfl
      rw [e]
      simp [part,isAgg,run_underlying hk,hv,packW,isA,hk]
    · rename_i fs hk
      obtain ⟨i,hi⟩:=info_of_underlying hk
      simp [part,isAgg,run_underlying hk,run_sizeOf w hi,packW,isA,hk,hx]
    · rename_i m e hk
      obtain ⟨i,hi⟩:=info_of_underlying hk
      simp [part,isAgg,run_underlying hk,run_sizeOf w hi,packW,isA,hk,hx]
    · cases hu
theorem eqF_leafs (w:World) {n d:Nat} (IH:∀ {t:TypeId} {l:List Lf},leafs P n t=some l→∀ (xs ys:List Value),FitL l xs→FitL l ys→(Op.equalIn d t (packW P t xs) (packW P t ys)).run P w=.ok (eqW xs ys) w)
    (xs ys:Array Value):∀ (fs:List Field) (o:Nat) (l:List Lf),leafsF P (leafs P n) o fs=some l→FitL l (xs.toList.drop o)→FitL l (ys.toList.drop o)→(Op.eqFields d xs ys fs).run P w=.ok (eqW (xs.toList.drop o) (ys.toList.drop o)) w
  | [],o,l,h,hx,hy=>by
    simp only [leafsF,Option.some.injEq] at h
    subst h
    have:=hx.len
    have hx0:=List.eq_nil_of_length_eq_zero (by simpa using hx.len:(xs.toList.drop o).length=0)
    rw [hx0]
    simp [Op.eqFields,eqW]
  | f :: fs,o,l,h,hx,hy=>by
    simp only [leafsF] at h
    split at h
    · rename_i hof
      simp only [Option.bind_eq_some_iff,Option.map_eq_some_iff] at h
      obtain ⟨a,ha,b,hb,rfl⟩:=h
      obtain ⟨hal,_⟩:=leafs_len ha
      obtain ⟨x1,x2⟩:=hx.split
      obtain ⟨y1,y2⟩:=hy.split
      rw [hal] at x1 x2 y1 y2
      rw [List.drop_drop] at x2 y2
      have p1:=part_leafs w ha xs o x1
      have p2:=part_leafs w ha ys o y1
      have p3:=IH ha _ _ x1 y1
      have p4:=eqF_leafs w IH xs ys fs _ b hb x2 y2
      rw [eqW_split (P.cellsOf f.type) (xs.toList.drop o) _ (by rw [hx.len,hy.len]),List.drop_drop,List.drop_drop]
      simp only [Op.eqFields,hof.2,ne_eq,not_false_eq_true,if_true,Sem.run_bind,hof.1,p1,p2,p3,Result.andThen_ok]
      cases eqW (List.take (P.cellsOf f.type) (List.drop o xs.toList)) (List.take (P.cellsOf f.type) (List.drop o ys.toList)) with
      | false=>simp
      | true=>simp [p4]
    · cases h
theorem eqI_leafs (w:World) {n d:Nat} {e:TypeId} {l:List Lf} (hl:leafs P n e=some l) (IH:∀ (xs ys:List Value),FitL l xs→FitL l ys→(Op.equalIn d e (packW P e xs) (packW P e ys)).run P w=.ok (eqW xs ys) w)
    (xs ys:Array Value):∀ (m i:Nat),FitL (List.replicate m l).flatten (xs.toList.drop (i * P.cellsOf e))→FitL (List.replicate m l).flatten (ys.toList.drop (i * P.cellsOf e)) →
      (Op.eqItems d e (P.cellsOf e) xs ys (List.range' i m)).run P w=.ok (eqW (xs.toList.drop (i * P.cellsOf e)) (ys.toList.drop (i * P.cellsOf e))) w
  | 0,i,hx,hy=>by
    have hx0:=List.eq_nil_of_length_eq_zero (by simpa using hx.len:(xs.toList.drop (i * P.cellsOf e)).length=0)
    rw [hx0]
    simp [Op.eqItems,eqW]
  | m + 1,i,hx,hy=>by
    obtain ⟨hll,_⟩:=leafs_len hl
    rw [List.replicate_succ,List.flatten_cons] at hx hy
    obtain ⟨x1,x2⟩:=hx.split
    obtain ⟨y1,y2⟩:=hy.split
    rw [hll] at x1 x2 y1 y2
    rw [List.drop_drop,show i * P.cellsOf e + P.cellsOf e=(i + 1) * P.cellsOf e by rw [Nat.add_mul,Nat.one_mul]] at x2 y2
    have p1:=part_leafs w hl xs (i * P.cellsOf e) x1
    have p2:=part_leafs w hl ys (i * P.cellsOf e) y1
    have p3:=IH _ _ x1 y1
    have p4:=eqI_leafs w hl IH xs ys m (i + 1) x2 y2
    rw [eqW_split (P.cellsOf e) (xs.toList.drop (i * P.cellsOf e)) _ (by rw [hx.len,hy.len]),List.drop_drop,List.drop_drop,show i * P.cellsOf e + P.cellsOf e=(i + 1) * P.cellsOf e by rw [Nat.add_mul,Nat.one_mul]]
    simp only [List.range'_succ,Op.eqItems,Sem.run_bind,p1,p2,p3,Result.andThen_ok]
    cases eqW (List.take (P.cellsOf e) (List.drop (i * P.cellsOf e) xs.toList)) (List.take (P.cellsOf e) (List.drop (i * P.cellsOf e) ys.toList)) with
    | false=>simp
    | true=>simp [p4]
theorem equalIn_leafs (w:World):∀ (n d:Nat) {t:TypeId} {l:List Lf},leafs P n t=some l→∀ (xs ys:List Value),FitL l xs→FitL l ys→(Op.equalIn (d + n) t (packW P t xs) (packW P t ys)).run P w=.ok (eqW xs ys) w
  | 0,d,t,l,h,xs,ys,hx,hy=>by simp [leafs] at h
  | n + 1,d,t,l,h,xs,ys,hx,hy=>by
    have hu:=leafs_u h
    obtain ⟨hl,_⟩:=leafs_len h
    unfold leafsU at hu
    have one:l.length=1→(∃ v,xs=[v])∧∃ v,ys=[v]:=fun h1=>⟨List.length_eq_one_iff.1 (by rw [hx.len,h1]),List.length_eq_one_iff.1 (by rw [hy.len,h1])⟩
    split at hu
    · rename_i k hk
      cases hu
      obtain ⟨⟨a,rfl⟩,⟨b,rfl⟩⟩:=one rfl
      have ha:=hx.1
      have hb:=hy.1
      cases a <;> simp only [Lf.fit] at ha
      cases b <;> simp only [Lf.fit] at hb
      subst ha; subst hb
      simp only [packW,isA,hk,Bool.false_eq_true,if_false,List.headD_cons]
      rw [← Nat.add_assoc,run_equalIn_int w _ t _ _ _ _ hk]
      simp [eqW,eqW1]
    · rename_i hk
      cases hu
      obtain ⟨⟨a,rfl⟩,⟨b,rfl⟩⟩:=one rfl
      have ha:=hx.1
      have hb:=hy.1
      cases a <;> simp only [Lf.fit] at ha
      cases b <;> simp only [Lf.fit] at hb
      simp only [packW,isA,hk,Bool.false_eq_true,if_false,List.headD_cons]
      rw [← Nat.add_assoc,run_equalIn_bool' w _ t _ _ hk]
      simp [eqW,eqW1]
    · rename_i hk
      cases hu
      obtain ⟨⟨a,rfl⟩,⟨b,rfl⟩⟩:=one rfl
      have ha:=hx.1
      have hb:=hy.1
      cases a <;> simp only [Lf.fit] at ha
      cases b <;> simp only [Lf.fit] at hb
      simp only [packW,isA,hk,Bool.false_eq_true,if_false,List.headD_cons]
      rw [← Nat.add_assoc,run_equalIn_string w _ t _ _ hk]
      simp [eqW,eqW1]
    · rename_i fs hk
      split at hu
      · rename_i hst
        have hf:P.fieldsOf t=fs:=by simp [Program.fieldsOf,hk]
        simp only [packW,isA,hk,if_true]
        rw [← Nat.add_assoc,run_equalIn_struct w _ t _ _ (by rw [hf]; exact hk) hst,hf]
        have:=eqF_leafs w (n:=n) (d:=d + n) (fun {t l} h xs ys hx hy=>equalIn_leafs w n d h xs ys hx hy) xs.toArray ys.toArray fs.toList 0 l hu (by simpa using hx) (by simpa using hy)
        simpa using this
      · cases hu
    · rename_i m e hk
      simp only [Option.map_eq_some_iff] at hu
      obtain ⟨l',hl',rfl⟩:=hu
      have hie:∃ i,P.info? e=some i:=by
        cases n with
        | zero=>simp [leafs] at hl'
        | succ n =>
          have:=leafs_u hl'
          unfold leafsU at this
          cases hue:P.underlying e with
          | none=>rw [hue] at this; cases this
          | some d=>exact info_of_underlying hue
      obtain ⟨i,hi⟩:=hie
      simp only [packW,isA,hk,if_true]
      rw [← Nat.add_assoc,run_equalIn_array w _ _ _ hk hi,List.range_eq_range']
      have:=eqI_leafs w hl' (d:=d + n) (fun xs ys hx hy=>equalIn_leafs w n d hl' xs ys hx hy) xs.toArray ys.toArray m 0 (by simpa using hx) (by simpa using hy)
      simpa using this
    · cases hu
variable {G:Gh}
theorem fitsV_fit:∀ {l:List Lf} {cs:List V} {us:List Value},fitsV l cs→us.length=cs.length→(∀ (i:Nat) (c:V) (v:Value),cs[i]?=some c→us[i]?=some v→Rep1 G c v)→FitL l us
  | [],[],us,_,hl,_=>by simp at hl; subst hl; trivial
  | a :: l,c :: cs,[],_,hl,_=>by simp at hl
  | a :: l,c :: cs,u :: us,h,hl,hr=>by
    have h0:=hr 0 c u rfl rfl
    have hrest:=fun (h':fitsV l cs)=>fitsV_fit h' (by simpa using hl:us.length=cs.length) (fun i c v hc hv=>hr (i + 1) c v (by simpa using hc) (by simpa using hv))
    unfold fitsV at h
    split at h
    · rename_i e1 e2; cases e1
    · rename_i k l' k' n m e1 e2
      cases e1; cases e2
      rw [h0.sc_inv]
      exact ⟨h.1,hrest h.2⟩
    · rename_i l' b m e1 e2
      cases e1; cases e2
      rw [h0.sc_inv]
      exact ⟨trivial,hrest h⟩
    · rename_i l' b m e1 e2
      cases e1; cases e2
      rw [h0.sc_inv]
      exact ⟨trivial,hrest h⟩
    · exact h.elim
  | [],_ :: _,_,h,_,_=>by simp [fitsV] at h
  | a :: _,[],_,h,_,_=>by cases a <;> simp [fitsV] at h
theorem eqV_eqW:∀ {l:List Lf} {cs ds:List V} {us vs:List Value},fitsV l cs→fitsV l ds→us.length=cs.length→vs.length=ds.length→(∀ (i:Nat) (c:V) (v:Value),cs[i]?=some c→us[i]?=some v→Rep1 G c v)→(∀ (i:Nat) (c:V) (v:Value),ds[i]?=some c→vs[i]?=some v→Rep1 G c v)→eqV cs ds=eqW us vs
  | [],[],[],us,vs,_,_,hl,hl',_,_=>by
    simp at hl hl'; subst hl; subst hl'; simp [eqV,eqW]
  | a :: l,c :: cs,d :: ds,[],vs,_,_,hl,_,_,_=>by simp at hl
  | a :: l,c :: cs,d :: ds,_ :: _,[],_,_,_,hl,_,_=>by simp at hl
  | a :: l,c :: cs,d :: ds,u :: us,v :: vs,h,h',hl,hl',hr,hr'=>by
    have h0:=hr 0 c u rfl rfl
    have h0':=hr' 0 d v rfl rfl
    have hrest:=fun (k:fitsV l cs) (k':fitsV l ds)=>eqV_eqW k k' (by simpa using hl:us.length=cs.length) (by simpa using hl':vs.length=ds.length) (fun i c v hc hv=>hr (i + 1) c v (by simpa using hc) (by simpa using hv)) (fun i c v hc hv=>hr' (i + 1) c v (by simpa using hc) (by simpa using hv))
    unfold fitsV at h h'
    split at h
    · rename_i e1 e2; cases e1
    · rename_i k l' k' n m e1 e2
      cases e1; cases e2
      split at h'
      · rename_i e1 e2; cases e1
      · rename_i k l' k' n m e1 e2
        cases e1; cases e2
        rw [h0.sc_inv,h0'.sc_inv]
        simp only [eqV,eqW,eqW1,hrest h.2 h'.2]
        congr 1
      · rename_i e1 e2; cases e1
      · rename_i e1 e2; cases e1
      · exact h'.elim
    · rename_i l' b m e1 e2
      cases e1; cases e2
      split at h'
      · rename_i e1 e2; cases e1
      · rename_i e1 e2; cases e1
      · rename_i l' b m e1 e2
        cases e1; cases e2
        rw [h0.sc_inv,h0'.sc_inv]
        simp only [eqV,eqW,eqW1,hrest h h']
      · rename_i e1 e2; cases e1
      · exact h'.elim
    · rename_i l' b m e1 e2
      cases e1; cases e2
      split at h'
      · rename_i e1 e2; cases e1
      · rename_i e1 e2; cases e1
      · rename_i e1 e2; cases e1
      · rename_i l' b m e1 e2
        cases e1; cases e2
        rw [h0.sc_inv,h0'.sc_inv]
        simp only [eqV,eqW,eqW1,hrest h h',string_beq]
      · exact h'.elim
    · exact h.elim
  | [],[],_ :: _,_,_,_,h,_,_,_,_=>by simp [fitsV] at h
  | [],_ :: _,_,_,_,h,_,_,_,_,_=>by simp [fitsV] at h
  | a :: _,[],_,_,_,h,_,_,_,_,_=>by cases a <;> simp [fitsV] at h
  | a :: _,_ :: _,[],_,_,_,h,_,_,_,_=>by cases a <;> simp [fitsV] at h
theorem veqs_sound {op:BinOp} {t:TypeId} {neg:Bool} {l:List Lf} (hs:eqSpec P op t=some (neg,l)) {x y:V} {u v:Value} (ox oy:Operand) (hx:Rep1 G x u) (hy:Rep1 G y v) (h:(veqs neg l x y).1) (w:World) :
    ∃ r,(do eqGuard op t ox oy u v; binOp op t u v:Sem Value).run P w=.ok r w∧Rep1 G (veqs neg l x y).2 r:=by
  unfold eqSpec at hs
  split at hs
  · rename_i hA
    simp only [Option.bind_eq_some_iff,Option.map_eq_some_iff,Prod.mk.injEq] at hs
    obtain ⟨neg',hop,l',hl',rfl,rfl⟩:=hs
    unfold veqs at h ⊢
    split at h
    · rename_i cs ds
      obtain ⟨us,rfl,hul,_,hur⟩:∃ us,u=.agg us∧cs.length=us.size∧True∧∀ (i:Nat) (c:V) (v:Value),cs[i]?=some c→us[i]?=some v→Rep1 G c v:=by
        cases hx with
        | agg _ us h1 h2 h3=>exact ⟨us,rfl,h1.symm,trivial,h3⟩
      obtain ⟨vs,rfl,hvl,_,hvr⟩:∃ us,v=.agg us∧ds.length=us.size∧True∧∀ (i:Nat) (c:V) (v:Value),ds[i]?=some c→us[i]?=some v→Rep1 G c v:=by
        cases hy with
        | agg _ us h1 h2 h3=>exact ⟨us,rfl,h1.symm,trivial,h3⟩
      have f1:=fitsV_fit (G:=G) (us:=us.toList) h.1 (by simp [hul]) (fun i c v hc hv=>hur i c v hc (by simpa using hv))
      have f2:=fitsV_fit (G:=G) (us:=vs.toList) h.2 (by simp [hvl]) (fun i c v hc hv=>hvr i c v hc (by simpa using hv))
      have e:=eqV_eqW (G:=G) (us:=us.toList) (vs:=vs.toList) h.1 h.2 (by simp [hul]) (by simp [hvl]) (fun i c v hc hv=>hur i c v hc (by simpa using hv)) (fun i c v hc hv=>hvr i c v hc (by simpa using hv))
      have hE:=equalIn_leafs (P:=P) w 8 9992 hl' us.toList vs.toList f1 f2
      simp only [packW,hA.1,if_true,Array.toArray_toList,← e] at hE
      have hE':(Op.equalIn 10000 t (.agg us) (.agg vs)).run P w=.ok (eqV cs ds) w:=hE
      unfold eqNeg at hop
      split at hop
      · cases hop
        refine ⟨.bool (eqV cs ds),?_,.sc _ rfl⟩
        rw [Sem.run_bind,run_eqGuard_agg w _ t ox oy us vs hA.2,Result.andThen_ok,run_eql_struct,hE']
        rfl
      · cases hop
        refine ⟨.bool (!(eqV cs ds)),?_,.sc _ rfl⟩
        rw [Sem.run_bind,run_eqGuard_agg w _ t ox oy us vs hA.2,Result.andThen_ok,run_neq_struct,hE']
        rfl
      · cases hop
    · exact h.elim
  · cases hs
end
end
end Go.Proofs.YtnjmddlgpcnpeaaGreat
