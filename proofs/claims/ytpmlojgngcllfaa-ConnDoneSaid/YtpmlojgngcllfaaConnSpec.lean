/- What a connection is, and what its functions do, in plain words. No walk in sight. -/
import Derived.Test.YtpmlojgngcllfaaRbufPutSpec
import Derived.Test.YtpmlojgngcllfaaRbufRead
import Derived.Test.YtpmlojgngcllfaaRbufNew
import Derived.Test.YtpmlojgngcllfaaSbuf
import Derived.Test.YtpmlojgngcllfaaRto
import Derived.Test.YtpmlojgngcllfaaSeqn
namespace Go.Proofs.Ytpmlojgngcllfaa
open Go.RowKit Go

/-- A segment. -/
structure Sg where
  frm : Int
  dst : Int
  seq : Int
  ack : Int
  flags : Int
  window : Int
  mss : Int
  data : List UInt8
def Sg.cells (s : Sg) : List Value := [.int .i64 s.frm, .int .i64 s.dst, .int .u32 s.seq, .int .u32 s.ack, .int .i64 s.flags, .int .i64 s.window, .int .i64 s.mss, .string ⟨s.data.toArray⟩]
def segs (l : List Sg) : List Value := l.flatMap Sg.cells

/-- How it waits. -/
structure Tp where
  first : Int
  least : Int
  most : Int
  tries : Int
  linger : Int

/-- A connection. -/
structure CN where
  frm : Int
  dst : Int
  o : Tp
  state : Int
  reset : Bool
  iss : Int
  sb : SB
  una : Int
  nxt : Int
  top : Int
  closed : Bool
  acked : Bool
  rb : RB
  eof : Bool
  window : Int
  mss : Int
  seq : Int
  ack : Int
  clk : Clk
  left : Int
  tries : Int
  measures : Bool
  measureTo : Int
  age : Int
  lingers : Int
  told : Int
  out : List Sg

def CN.cells (c : CN) (gs gi gc : Nat) (ov : Value) : Array Value :=
  #[.int .i64 c.frm, .int .i64 c.dst, .int .i64 c.o.first, .int .i64 c.o.least, .int .i64 c.o.most, .int .i64 c.o.tries, .int .i64 c.o.linger, .int .i64 c.state, .bool c.reset, .int .u32 c.iss,
    .pointer (some ⟨gs, 0, none⟩), .int .u32 c.una, .int .u32 c.nxt, .int .u32 c.top, .bool c.closed, .bool c.acked, .pointer (some ⟨gi, 0, none⟩), .bool c.eof, .int .i64 c.window, .int .i64 c.mss,
    .int .u32 c.seq, .int .u32 c.ack, .pointer (some ⟨gc, 0, none⟩), .int .i64 c.left, .int .i64 c.tries, .bool c.measures, .int .u32 c.measureTo, .int .i64 c.age, .int .i64 c.lingers, .int .i64 c.told, ov]

/-- How it lies in memory. -/
structure ConnIn (w : World) (B g gs gi gd gh gc : Nat) (rv ov : Value) (c : CN) : Prop where
  blk : Blk w g 49 (c.cells gs gi gc ov)
  sb : Blk w gs 78 c.sb.cells
  rb : RbIn w B gi gd gh rv c.rb
  clk : Blk w gc 89 c.clk.cells
  own : w.ownsRow B 42 8 ov c.out.length (segs c.out)

def M32 : Int := 4294967296
/-- Is a flag set? -/
def hasF (f k : Int) : Bool := !(bits .and .i64 f k == 0)
def Sg.len (s : Sg) : Int := (s.data.length : Int) + (if hasF s.flags 2 then 1 else 0) + (if hasF s.flags 1 then 1 else 0)
structure Sg.Ok (s : Sg) : Prop where
  s0 : 0 ≤ s.seq
  s1 : s.seq < 4294967296
  a0 : 0 ≤ s.ack
  a1 : s.ack < 4294967296
  w0 : 0 ≤ s.window
  w1 : s.window ≤ 65535
  dl : s.data.length ≤ 1000000

structure Tp.Ok (o : Tp) : Prop where
  t0 : 1 ≤ o.tries
  t1 : o.tries ≤ 100
  l0 : 1 ≤ o.linger
  l1 : o.linger ≤ 1048576

structure CN.Ok (c : CN) : Prop where
  sb : c.sb.Ok
  rb : c.rb.Ok
  clk : c.clk.Ok
  opt : c.o.Ok
  win : 0 ≤ c.window ∧ c.window ≤ 65535
  mss : 1 ≤ c.mss ∧ c.mss ≤ 536
  tr : 0 ≤ c.tries ∧ c.tries ≤ 101
  left : 0 ≤ c.left ∧ c.left ≤ 1048576
  lin : 0 ≤ c.lingers ∧ c.lingers ≤ 1048576

def CN.want (c : CN) : Int := if c.eof then (c.rb.next + 1) % M32 else c.rb.next
def CN.say (c : CN) (seq flags mss : Int) (data : List UInt8) : CN :=
  { c with told := c.rb.win, out := c.out ++ [⟨c.frm, c.dst, seq, c.want, flags, c.rb.win, mss, data⟩] }
def CN.tell (c : CN) : CN := c.say c.nxt 16 0 []
def CN.hello (c : CN) : CN := c.say c.iss 18 536 []
def CN.run (c : CN) : CN := { c with left := c.clk.wait }
def CN.measure (c : CN) : CN := { c with measures := true, measureTo := c.nxt, age := 0 }
def CN.fin (c : CN) : Int := (c.sb.una + c.sb.s.length) % M32
def CN.waits (c : CN) : Bool := !(c.sb.get c.nxt 1).isEmpty || (c.closed && !c.acked && decide (c.nxt = c.fin))
def CN.finish (c : CN) (reset : Bool) : CN := { c with state := 9, left := 0, reset := c.reset || reset }

/-- Something was sent up to nxt. -/
def CN.went (c : CN) : CN :=
  if lessB c.top c.nxt then (if c.measures then { c with top := c.nxt } else CN.measure { c with top := c.nxt }) else c
/-- At most n bytes from nxt on, or the Fin. -/
def CN.can (c : CN) (n : Int) : Bool := decide (1 ≤ n) && c.waits
def CN.bit (c : CN) (n : Int) : List UInt8 := c.sb.get c.nxt (min n c.mss)
def CN.sent (c : CN) (n : Int) : CN :=
  if c.bit n = [] then { c.say c.nxt 17 0 [] with nxt := (c.nxt + 1) % M32 }
  else { c.say c.nxt 24 0 (c.bit n) with nxt := (c.nxt + (c.bit n).length) % M32 }
def CN.piece (c : CN) (n : Int) : CN := if c.can n then (c.sent n).went else c

def CN.rest (c : CN) : Int := c.window - ahd c.una c.nxt
def CN.runs (c : CN) : CN := if c.left = 0 then c.run else c
def CN.pour : Nat → CN → CN
  | 0, c => c
  | k + 1, c => if c.can c.rest then CN.pour k (c.piece c.rest).runs else c
/-- How many pieces may come at most. -/
def CN.fuel (c : CN) : Nat := if ahd c.sb.una c.nxt ≤ c.sb.s.length then c.sb.s.length - (ahd c.sb.una c.nxt).toNat + 1 else 0
def CN.flows (c : CN) : Bool := c.state == 2 || c.state == 3 || c.state == 5 || c.state == 7 || c.state == 8
def CN.idles (c : CN) : CN := if c.nxt = c.una ∧ c.waits = true ∧ c.left = 0 then c.run else c
def CN.flush (c : CN) : CN := if c.flows then (CN.pour c.fuel c).idles else c

def CN.answers (c : CN) (s : Sg) : Bool × CN :=
  if c.state = 1 then
    if s.ack = (c.iss + 1) % M32 then (true, { c with state := if c.closed then 3 else 2, window := s.window, seq := s.seq, ack := s.ack })
    else (false, { c with out := c.out ++ [⟨c.frm, c.dst, s.ack, 0, 4, 0, 0, []⟩] })
  else if lessB s.ack c.una then (true, c)
  else if lessB c.top s.ack then (false, c.tell)
  else (true, c)
def CN.fits (c : CN) (s : Sg) : Bool := mayB s.seq s.len c.want (max (c.rb.win : Int) 1)
def CN.counts (c : CN) (s : Sg) : Bool × CN :=
  if c.fits s then
    if hasF s.flags 4 ∧ s.seq = c.want then (false, c.finish true)
    else if hasF s.flags 6 then (false, c.tell)
    else if hasF s.flags 16 then c.answers s
    else (false, c)
  else (false, if hasF s.flags 4 then c else c.tell)

def CN.cov1 (c : CN) (a : Int) : CN :=
  if c.closed ∧ a = (c.fin + 1) % M32 then { c with una := a, acked := true, sb := c.sb.ack ((a - 1) % M32) } else { c with una := a, sb := c.sb.ack a }
def CN.cov2 (c : CN) : CN := if lessB c.nxt c.una then { c with nxt := c.una } else c
def CN.cov3 (c : CN) : CN := if c.measures ∧ lessB c.una c.measureTo = false then { c with clk := c.clk.measure c.age, measures := false } else c
def CN.cov4 (c : CN) : CN := if c.una = c.top then { c with tries := 0, left := 0 } else { c with tries := 0, left := c.clk.wait }
def CN.covers (c : CN) (a : Int) : CN := if lessB c.una a then (c.cov1 a).cov2.cov3.cov4 else c

def CN.news (c : CN) (s : Sg) : Bool := !lessB s.ack c.una && (lessB c.seq s.seq || (decide (c.seq = s.seq) && !lessB s.ack c.ack))
def CN.opens (c : CN) (s : Sg) : CN :=
  if c.news s then { c with left := if c.window = 0 ∧ 0 < s.window ∧ c.nxt = c.una then 0 else c.left, window := s.window, seq := s.seq, ack := s.ack } else c

def CN.turn (c : CN) (a b : Int) : CN :=
  if c.state = a then (if b = 9 then CN.finish c false else if b = 6 then { c with state := 6, lingers := c.o.linger } else { c with state := b }) else c

def CN.takes1 (c : CN) (s : Sg) : CN := if c.state = 2 ∨ c.state = 3 ∨ c.state = 4 then { c with rb := c.rb.put s.seq s.data } else c
def CN.takes2 (c : CN) (s : Sg) : CN :=
  if c.eof = false ∧ (s.seq + s.data.length) % M32 = c.rb.next then ((CN.turn { c with eof := true } 4 6).turn 3 5).turn 2 7 else c
def CN.takes3 (c : CN) : CN := if c.state = 6 then { c with lingers := c.o.linger } else c
def CN.takes (c : CN) (s : Sg) : CN := if hasF s.flags 1 then ((c.takes1 s).takes2 s).takes3 else c.takes1 s

def CN.acks (c : CN) : CN := if c.acked then ((c.turn 3 4).turn 5 6).turn 8 9 else c
def CN.echo (c : CN) (s : Sg) (n : Nat) : CN := if 0 < s.len ∧ c.out.length = n then c.tell else c
def CN.inn2 (c : CN) (s : Sg) : CN :=
  let d := (((c.covers s.ack).opens s).acks).takes s
  d.flush.echo s d.out.length
def CN.inn (c : CN) (s : Sg) : CN :=
  if c.state = 9 then c else if (c.counts s).1 then (c.counts s).2.inn2 s else (c.counts s).2

def CN.longer (c : CN) : CN := CN.run { c with clk := c.clk.back }
def CN.again (c : CN) : CN :=
  if c.state = 1 then
    if c.o.tries < c.tries + 1 then CN.finish { c with tries := c.tries + 1 } true
    else (CN.longer { c with tries := c.tries + 1, measures := false }).hello
  else if c.una = c.top then (c.say ((c.una - 1) % M32) 16 0 []).longer
  else
    let d := if 0 < c.window then { c with tries := c.tries + 1 } else c
    if d.o.tries < d.tries then (d.say d.top 20 0 []).finish true
    else (CN.piece { d with nxt := d.una, measures := false } (max d.window 1)).longer
def CN.tick1 (c : CN) : CN := if c.measures then { c with age := c.age + 1 } else c
def CN.tick2 (c : CN) : CN := if 0 < c.left then (if c.left = 1 then CN.again { c with left := 0 } else { c with left := c.left - 1 }) else c
def CN.tick3 (c : CN) : CN :=
  if c.state = 6 then (if c.lingers = 1 then CN.finish { c with lingers := 0 } false else CN.tick2 { c with lingers := c.lingers - 1 }) else c.tick2
def CN.tick (c : CN) : CN := if c.state = 9 then c else c.tick1.tick3

def CN.writes (c : CN) : Bool := !c.closed && (c.state == 1 || c.state == 2 || c.state == 7)
def CN.write (c : CN) (l : List UInt8) : CN := if c.writes then CN.flush { c with sb := c.sb.write l } else c
def CN.wrote (c : CN) (l : List UInt8) : Nat := if c.writes then c.sb.fits l else 0
def CN.close (c : CN) : CN := if c.writes then CN.flush ((CN.turn { c with closed := true } 2 3).turn 7 8) else c
def CN.got (c : CN) (n : Int) : List UInt8 := c.rb.ready.take (c.rb.take n)
def CN.reads (c : CN) : Bool := c.state == 2 || c.state == 3 || c.state == 4
def CN.read1 (c : CN) (n : Int) : CN := { c with rb := c.rb.read n }
def CN.read (c : CN) (n : Int) : CN := if c.reads ∧ c.told < 536 ∧ 536 ≤ (c.read1 n).rb.win then (c.read1 n).tell else c.read1 n
def CN.drain (c : CN) : CN := { c with out := [] }
def CN.fresh (syn : Sg) (iss : Int) (o : Tp) (mss : Int) : CN := {
    frm := syn.dst, dst := syn.frm, o := o, state := 1, reset := false, iss := iss, sb := ⟨2048, (iss + 1) % M32, []⟩, una := iss, nxt := (iss + 1) % M32, top := (iss + 1) % M32,
    closed := false, acked := false, rb := RB.start 2048 ((syn.seq + 1) % M32), eof := false, window := 0, mss := mss, seq := 0, ack := 0,
    clk := Clk.start o.first o.least o.most, left := 0, tries := 0, measures := false, measureTo := 0, age := 0, lingers := 0, told := 0, out := [] }
def CN.start (syn : Sg) (iss : Int) (o : Tp) : CN := (CN.fresh syn iss o (if 0 < syn.mss then min syn.mss 536 else 536)).hello.run.measure

theorem CN.Ok.say {c : CN} (h : c.Ok) (seq flags mss : Int) (data : List UInt8) : (c.say seq flags mss data).Ok := ⟨h.sb, h.rb, h.clk, h.opt, h.win, h.mss, h.tr, h.left, h.lin⟩
theorem CN.Ok.tell {c : CN} (h : c.Ok) : c.tell.Ok := h.say _ _ _ _
theorem CN.Ok.hello {c : CN} (h : c.Ok) : c.hello.Ok := h.say _ _ _ _
theorem Clk.Ok.wait_bd {k : Clk} (h : k.Ok) : 0 ≤ k.wait ∧ k.wait ≤ 1048576 := by have := h.l1; have := h.l2; have := h.l3; have := h.l4; omega
theorem CN.Ok.run {c : CN} (h : c.Ok) : c.run.Ok := ⟨h.sb, h.rb, h.clk, h.opt, h.win, h.mss, h.tr, h.clk.wait_bd, h.lin⟩
theorem CN.Ok.measure {c : CN} (h : c.Ok) : c.measure.Ok := ⟨h.sb, h.rb, h.clk, h.opt, h.win, h.mss, h.tr, h.left, h.lin⟩
theorem CN.Ok.finish {c : CN} (h : c.Ok) (r : Bool) : (c.finish r).Ok :=
  ⟨h.sb, h.rb, h.clk, h.opt, h.win, h.mss, h.tr, ⟨Int.le_refl 0, show (0 : Int) ≤ 1048576 by decide⟩, h.lin⟩

end Go.Proofs.Ytpmlojgngcllfaa
