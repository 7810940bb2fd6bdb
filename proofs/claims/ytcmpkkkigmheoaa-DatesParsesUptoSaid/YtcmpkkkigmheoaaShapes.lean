/- The shapes, all parts. No conditions. -/
import Derived.Test.YtcmpkkkigmheoaaShapes1
